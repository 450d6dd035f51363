/-
  DERIVED. GIVEN WITH THE SEED: THE CARDS: each row of YtgcdpcjeamjgfaaGreatDoorRows.lean that lists a variable, with what it lists TIED to the program's text (the seventh form; the later family's looks); each row that meets fmt, with fmt's text TOLD by the authors' own Lean function (tested against real Go, not proved from fmt's source: count such statements apart). THE CARD IS WHAT COUNTS. Prove the row's statement (the work); the ties are given (YtgcdpcjeamjgfaaGreatDoorTie.lean); close each card by the builder's one call (the guide's Derived/Test/ToyasCard.lean, 'card_holds'). Laid BY PROGRAM, IN A SANDBOX (cutbox-door.mjs). By AI agents, Wed Nov 11 2026. No macro, syntax, notation, axiom, sorry.
-/
import Derived.Test.YtgcdpcjeamjgfaaGreatDoorRows
import GoSem.ClaimSeven
namespace Go.Proofs.YtgcdpcjeamjgfaaGreatDoor
namespace Rows

/-- THE TIED CARD OF 'laws.FnExactReadOrders'. -/
def fnExactReadOrdersCard : Claim7 := { stood := { row := fnExactReadOrdersRow, standIns := [], harness := (true, "55f40698bc9712736d94ce0c308843442c264688a72af322ac3a3a3d96e0c211"), looks := true }, kinds := [], alts := [], laidByText := true, laidKinds := [.data, .data, .data, .data, .sentinel, .sentinel, .widerDeep, .pinned], laidTests := true, laidLooks := .later }
def FnExactReadOrdersCardSaid : Prop := Claim7.holds Tryz.pinned (.plain (OpenSpec.ofChange fnExactReadOrdersSpec)) fnExactReadOrdersCard

/-- THE TIED CARD OF 'laws.FnOrders'. -/
def fnOrdersCard : Claim7 := { stood := { row := fnOrdersRow, standIns := [], harness := (true, "55f40698bc9712736d94ce0c308843442c264688a72af322ac3a3a3d96e0c211"), looks := true }, kinds := [], alts := [], laidByText := true, laidKinds := [.data, .data, .data, .data, .sentinel, .sentinel, .widerDeep, .pinned], laidTests := true, laidLooks := .later }
def FnOrdersCardSaid : Prop := Claim7.holds Tryz.pinned (.plain (OpenSpec.ofChange fnOrdersSpec)) fnOrdersCard

/-- THE SECOND FORM's CARD OF 'laws.FnExactReadOrders'. -/
def fnExactReadOrdersUptoCard : Claim7 := { stood := { row := fnExactReadOrdersUptoRow, standIns := [], harness := (true, "55f40698bc9712736d94ce0c308843442c264688a72af322ac3a3a3d96e0c211"), looks := true }, kinds := [], alts := [], laidByText := true, laidKinds := [.data, .data, .data, .data, .sentinel, .sentinel, .widerDeep, .pinned], laidTests := true, laidLooks := .later }
def FnExactReadOrdersUptoCardSaid : Prop := Claim7.holds Tryz.pinned (.plain (OpenSpec.upto fnExactReadOrdersSpec)) fnExactReadOrdersUptoCard

/-- THE SECOND FORM's CARD OF 'laws.FnOrders'. -/
def fnOrdersUptoCard : Claim7 := { stood := { row := fnOrdersUptoRow, standIns := [], harness := (true, "55f40698bc9712736d94ce0c308843442c264688a72af322ac3a3a3d96e0c211"), looks := true }, kinds := [], alts := [], laidByText := true, laidKinds := [.data, .data, .data, .data, .sentinel, .sentinel, .widerDeep, .pinned], laidTests := true, laidLooks := .later }
def FnOrdersUptoCardSaid : Prop := Claim7.holds Tryz.pinned (.plain (OpenSpec.upto fnOrdersSpec)) fnOrdersUptoCard
end Rows
end Go.Proofs.YtgcdpcjeamjgfaaGreatDoor
