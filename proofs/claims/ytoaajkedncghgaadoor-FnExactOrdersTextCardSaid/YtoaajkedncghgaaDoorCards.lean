/-
  DERIVED. GIVEN WITH THE SEED: THE CARDS: each row of YtoaajkedncghgaaDoorRows.lean that lists a variable, with what it lists TIED to the program's text (the seventh form; the later family's looks); each row that meets fmt, with fmt's text TOLD by the authors' own Lean function (tested against real Go, not proved from fmt's source: count such statements apart). THE CARD IS WHAT COUNTS. Prove the row's statement (the work); the ties are given (YtoaajkedncghgaaDoorTie.lean); close each card by the builder's one call (the guide's Derived/Test/ToyasCard.lean, 'card_holds'). Laid BY PROGRAM, IN A SANDBOX (cutbox-door.mjs). By AI agents, Wed Nov 11 2026. No macro, syntax, notation, axiom, sorry.
-/
import Derived.Test.YtoaajkedncghgaaDoorRows
import GoSem.ClaimSeven
namespace Go.Proofs.YtoaajkedncghgaaDoor
namespace Rows

/-- THE TIED CARD OF 'laws.FnExactOrdersText'. -/
def fnExactOrdersTextCard : Claim7 := { stood := { row := fnExactOrdersTextRow, standIns := [], harness := (true, "9ca3964b803dcb0e003b1c8e0edb1ed5b768e82b74da8ce861491bf53edb3758"), looks := false }, kinds := [], alts := [], laidByText := true, laidKinds := [.data, .data, .data, .widerDeep], laidTests := true, laidLooks := .later }
def FnExactOrdersTextCardSaid : Prop := Claim7.holds Tryd.pinned (.plain (OpenSpec.ofChange fnExactOrdersTextSpec)) fnExactOrdersTextCard

/-- THE TIED CARD OF 'laws.FnExactEdText'. -/
def fnExactEdTextCard : Claim7 := { stood := { row := fnExactEdTextRow, standIns := [], harness := (true, "9ca3964b803dcb0e003b1c8e0edb1ed5b768e82b74da8ce861491bf53edb3758"), looks := false }, kinds := [], alts := [], laidByText := true, laidKinds := [.data, .data, .data, .widerDeep], laidTests := true, laidLooks := .later }
def FnExactEdTextCardSaid : Prop := Claim7.holds Tryd.pinned (.plain (OpenSpec.ofChange fnExactEdTextSpec)) fnExactEdTextCard

/-- THE SECOND FORM's CARD OF 'laws.FnExactOrdersText'. -/
def fnExactOrdersTextUptoCard : Claim7 := { stood := { row := fnExactOrdersTextUptoRow, standIns := [], harness := (true, "9ca3964b803dcb0e003b1c8e0edb1ed5b768e82b74da8ce861491bf53edb3758"), looks := false }, kinds := [], alts := [], laidByText := true, laidKinds := [.data, .data, .data, .widerDeep], laidTests := true, laidLooks := .later }
def FnExactOrdersTextUptoCardSaid : Prop := Claim7.holds Tryd.pinned (.plain (OpenSpec.upto fnExactOrdersTextSpec)) fnExactOrdersTextUptoCard

/-- THE SECOND FORM's CARD OF 'laws.FnExactEdText'. -/
def fnExactEdTextUptoCard : Claim7 := { stood := { row := fnExactEdTextUptoRow, standIns := [], harness := (true, "9ca3964b803dcb0e003b1c8e0edb1ed5b768e82b74da8ce861491bf53edb3758"), looks := false }, kinds := [], alts := [], laidByText := true, laidKinds := [.data, .data, .data, .widerDeep], laidTests := true, laidLooks := .later }
def FnExactEdTextUptoCardSaid : Prop := Claim7.holds Tryd.pinned (.plain (OpenSpec.upto fnExactEdTextSpec)) fnExactEdTextUptoCard
end Rows
end Go.Proofs.YtoaajkedncghgaaDoor
