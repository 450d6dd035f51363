/-
  DERIVED. GIVEN WITH THE SEED: THE CARDS: each row of YtegfhigkmghmjaaDoorRows.lean that lists a variable, with what it lists TIED to the program's text (the seventh form; the later family's looks); each row that meets fmt, with fmt's text TOLD by the authors' own Lean function (tested against real Go, not proved from fmt's source: count such statements apart). THE CARD IS WHAT COUNTS. Prove the row's statement (the work); the ties are given (YtegfhigkmghmjaaDoorTie.lean); close each card by the builder's one call (the guide's Derived/Test/ToyasCard.lean, 'card_holds'). Laid BY PROGRAM, IN A SANDBOX (cutbox-door.mjs). By AI agents, Wed Nov 11 2026. No macro, syntax, notation, axiom, sorry.
-/
import Derived.Test.YtegfhigkmghmjaaDoorRows
import GoSem.ClaimSeven
namespace Go.Proofs.YtegfhigkmghmjaaDoor
namespace Rows

/-- THE TIED CARD OF 'laws.FnExactOrdersText'. -/
def fnExactOrdersTextCard : Claim7 := { stood := { row := fnExactOrdersTextRow, standIns := [], harness := (true, "0a1b0523f959f228e3720158738f9895b48d260d65afecacba2880ca0992eecc"), looks := false }, kinds := [], alts := [], laidByText := true, laidKinds := [.data, .data, .data, .widerDeep], laidTests := true, laidLooks := .later }
def FnExactOrdersTextCardSaid : Prop := Claim7.holds Tryd.pinned (.plain (OpenSpec.ofChange fnExactOrdersTextSpec)) fnExactOrdersTextCard

/-- THE TIED CARD OF 'laws.FnExactGroupsText'. -/
def fnExactGroupsTextCard : Claim7 := { stood := { row := fnExactGroupsTextRow, standIns := [], harness := (true, "0a1b0523f959f228e3720158738f9895b48d260d65afecacba2880ca0992eecc"), looks := false }, kinds := [], alts := [], laidByText := true, laidKinds := [.data, .data, .data], laidTests := true, laidLooks := .later }
def FnExactGroupsTextCardSaid : Prop := Claim7.holds Tryd.pinned (.plain (OpenSpec.ofChange fnExactGroupsTextSpec)) fnExactGroupsTextCard

/-- THE TIED CARD OF 'laws.FnExactSinceText'. -/
def fnExactSinceTextCard : Claim7 := { stood := { row := fnExactSinceTextRow, standIns := [], harness := (true, "0a1b0523f959f228e3720158738f9895b48d260d65afecacba2880ca0992eecc"), looks := false }, kinds := [], alts := [], laidByText := true, laidKinds := [.data, .data, .data], laidTests := true, laidLooks := .later }
def FnExactSinceTextCardSaid : Prop := Claim7.holds Tryd.pinned (.plain (OpenSpec.ofChange fnExactSinceTextSpec)) fnExactSinceTextCard

/-- THE TIED CARD OF 'laws.FnExactSidesText'. -/
def fnExactSidesTextCard : Claim7 := { stood := { row := fnExactSidesTextRow, standIns := [], harness := (true, "0a1b0523f959f228e3720158738f9895b48d260d65afecacba2880ca0992eecc"), looks := false }, kinds := [], alts := [], laidByText := true, laidKinds := [.data, .data, .data], laidTests := true, laidLooks := .later }
def FnExactSidesTextCardSaid : Prop := Claim7.holds Tryd.pinned (.plain (OpenSpec.ofChange fnExactSidesTextSpec)) fnExactSidesTextCard

/-- THE TIED CARD OF 'laws.FnSince'. -/
def fnSinceCard : Claim7 := { stood := { row := fnSinceRow, standIns := [], harness := (true, "0a1b0523f959f228e3720158738f9895b48d260d65afecacba2880ca0992eecc"), looks := false }, kinds := [], alts := [], laidByText := true, laidKinds := [.data, .data, .data], laidTests := true, laidLooks := .later }
def FnSinceCardSaid : Prop := Claim7.holds Tryd.pinned (.plain (OpenSpec.ofChange fnSinceSpec)) fnSinceCard

/-- THE TIED CARD OF 'laws.FnExactEdText'. -/
def fnExactEdTextCard : Claim7 := { stood := { row := fnExactEdTextRow, standIns := [], harness := (true, "0a1b0523f959f228e3720158738f9895b48d260d65afecacba2880ca0992eecc"), looks := false }, kinds := [], alts := [], laidByText := true, laidKinds := [.data, .data, .data, .widerDeep], laidTests := true, laidLooks := .later }
def FnExactEdTextCardSaid : Prop := Claim7.holds Tryd.pinned (.plain (OpenSpec.ofChange fnExactEdTextSpec)) fnExactEdTextCard

/-- THE TIED CARD OF 'laws.FnExactUnifiedText'. -/
def fnExactUnifiedTextCard : Claim7 := { stood := { row := fnExactUnifiedTextRow, standIns := [], harness := (true, "0a1b0523f959f228e3720158738f9895b48d260d65afecacba2880ca0992eecc"), looks := false }, kinds := [], alts := [], laidByText := true, laidKinds := [.data, .data, .data], laidTests := true, laidLooks := .later }
def FnExactUnifiedTextCardSaid : Prop := Claim7.holds Tryd.pinned (.plain (OpenSpec.ofChange fnExactUnifiedTextSpec)) fnExactUnifiedTextCard

/-- THE TIED CARD OF 'laws.FnExactContextText'. -/
def fnExactContextTextCard : Claim7 := { stood := { row := fnExactContextTextRow, standIns := [], harness := (true, "0a1b0523f959f228e3720158738f9895b48d260d65afecacba2880ca0992eecc"), looks := false }, kinds := [], alts := [], laidByText := true, laidKinds := [.data, .data, .data], laidTests := true, laidLooks := .later }
def FnExactContextTextCardSaid : Prop := Claim7.holds Tryd.pinned (.plain (OpenSpec.ofChange fnExactContextTextSpec)) fnExactContextTextCard

/-- THE SECOND FORM's CARD OF 'laws.FnExactOrdersText'. -/
def fnExactOrdersTextUptoCard : Claim7 := { stood := { row := fnExactOrdersTextUptoRow, standIns := [], harness := (true, "0a1b0523f959f228e3720158738f9895b48d260d65afecacba2880ca0992eecc"), looks := false }, kinds := [], alts := [], laidByText := true, laidKinds := [.data, .data, .data, .widerDeep], laidTests := true, laidLooks := .later }
def FnExactOrdersTextUptoCardSaid : Prop := Claim7.holds Tryd.pinned (.plain (OpenSpec.upto fnExactOrdersTextSpec)) fnExactOrdersTextUptoCard

/-- THE SECOND FORM's CARD OF 'laws.FnExactGroupsText'. -/
def fnExactGroupsTextUptoCard : Claim7 := { stood := { row := fnExactGroupsTextUptoRow, standIns := [], harness := (true, "0a1b0523f959f228e3720158738f9895b48d260d65afecacba2880ca0992eecc"), looks := false }, kinds := [], alts := [], laidByText := true, laidKinds := [.data, .data, .data], laidTests := true, laidLooks := .later }
def FnExactGroupsTextUptoCardSaid : Prop := Claim7.holds Tryd.pinned (.plain (OpenSpec.upto fnExactGroupsTextSpec)) fnExactGroupsTextUptoCard

/-- THE SECOND FORM's CARD OF 'laws.FnExactSinceText'. -/
def fnExactSinceTextUptoCard : Claim7 := { stood := { row := fnExactSinceTextUptoRow, standIns := [], harness := (true, "0a1b0523f959f228e3720158738f9895b48d260d65afecacba2880ca0992eecc"), looks := false }, kinds := [], alts := [], laidByText := true, laidKinds := [.data, .data, .data], laidTests := true, laidLooks := .later }
def FnExactSinceTextUptoCardSaid : Prop := Claim7.holds Tryd.pinned (.plain (OpenSpec.upto fnExactSinceTextSpec)) fnExactSinceTextUptoCard

/-- THE SECOND FORM's CARD OF 'laws.FnExactSidesText'. -/
def fnExactSidesTextUptoCard : Claim7 := { stood := { row := fnExactSidesTextUptoRow, standIns := [], harness := (true, "0a1b0523f959f228e3720158738f9895b48d260d65afecacba2880ca0992eecc"), looks := false }, kinds := [], alts := [], laidByText := true, laidKinds := [.data, .data, .data], laidTests := true, laidLooks := .later }
def FnExactSidesTextUptoCardSaid : Prop := Claim7.holds Tryd.pinned (.plain (OpenSpec.upto fnExactSidesTextSpec)) fnExactSidesTextUptoCard

/-- THE SECOND FORM's CARD OF 'laws.FnSince'. -/
def fnSinceUptoCard : Claim7 := { stood := { row := fnSinceUptoRow, standIns := [], harness := (true, "0a1b0523f959f228e3720158738f9895b48d260d65afecacba2880ca0992eecc"), looks := false }, kinds := [], alts := [], laidByText := true, laidKinds := [.data, .data, .data], laidTests := true, laidLooks := .later }
def FnSinceUptoCardSaid : Prop := Claim7.holds Tryd.pinned (.plain (OpenSpec.upto fnSinceSpec)) fnSinceUptoCard

/-- THE SECOND FORM's CARD OF 'laws.FnExactEdText'. -/
def fnExactEdTextUptoCard : Claim7 := { stood := { row := fnExactEdTextUptoRow, standIns := [], harness := (true, "0a1b0523f959f228e3720158738f9895b48d260d65afecacba2880ca0992eecc"), looks := false }, kinds := [], alts := [], laidByText := true, laidKinds := [.data, .data, .data, .widerDeep], laidTests := true, laidLooks := .later }
def FnExactEdTextUptoCardSaid : Prop := Claim7.holds Tryd.pinned (.plain (OpenSpec.upto fnExactEdTextSpec)) fnExactEdTextUptoCard

/-- THE SECOND FORM's CARD OF 'laws.FnExactUnifiedText'. -/
def fnExactUnifiedTextUptoCard : Claim7 := { stood := { row := fnExactUnifiedTextUptoRow, standIns := [], harness := (true, "0a1b0523f959f228e3720158738f9895b48d260d65afecacba2880ca0992eecc"), looks := false }, kinds := [], alts := [], laidByText := true, laidKinds := [.data, .data, .data], laidTests := true, laidLooks := .later }
def FnExactUnifiedTextUptoCardSaid : Prop := Claim7.holds Tryd.pinned (.plain (OpenSpec.upto fnExactUnifiedTextSpec)) fnExactUnifiedTextUptoCard

/-- THE SECOND FORM's CARD OF 'laws.FnExactContextText'. -/
def fnExactContextTextUptoCard : Claim7 := { stood := { row := fnExactContextTextUptoRow, standIns := [], harness := (true, "0a1b0523f959f228e3720158738f9895b48d260d65afecacba2880ca0992eecc"), looks := false }, kinds := [], alts := [], laidByText := true, laidKinds := [.data, .data, .data], laidTests := true, laidLooks := .later }
def FnExactContextTextUptoCardSaid : Prop := Claim7.holds Tryd.pinned (.plain (OpenSpec.upto fnExactContextTextSpec)) fnExactContextTextUptoCard
end Rows
end Go.Proofs.YtegfhigkmghmjaaDoor
