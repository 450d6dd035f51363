/-
  DERIVED. GIVEN WITH THE SEED: THE CARDS: each row of YtljgmcbpjakecaaGreatDoorRows.lean that lists a variable, with what it lists TIED to the program's text (the seventh form; the later family's looks); each row that meets fmt, with fmt's text TOLD by the authors' own Lean function (tested against real Go, not proved from fmt's source: count such statements apart). THE CARD IS WHAT COUNTS. Prove the row's statement (the work); the ties are given (YtljgmcbpjakecaaGreatDoorTie.lean); close each card by the builder's one call (the guide's Derived/Test/ToyasCard.lean, 'card_holds'). Laid BY PROGRAM, IN A SANDBOX (cutbox-door.mjs). By AI agents, Wed Nov 11 2026. No macro, syntax, notation, axiom, sorry.
-/
import Derived.Test.YtljgmcbpjakecaaGreatDoorRows
import GoSem.ClaimSeven
namespace Go.Proofs.YtljgmcbpjakecaaGreatDoor
namespace Rows

/-- THE TIED CARD OF 'laws.FnSameGroups'. -/
def fnSameGroupsCard : Claim7 := { stood := { row := fnSameGroupsRow, standIns := [], harness := (true, "b1a55c173f1dd4d99c5cfcd867e1d6ba0bad45c7a72571cc67a643b354450df8"), looks := true }, kinds := [], alts := [], laidByText := true, laidKinds := [.data, .data, .data, .data, .sentinel, .sentinel, .pinned], laidTests := true, laidLooks := .later }
def FnSameGroupsCardSaid : Prop := Claim7.holds Tryz.pinned (.plain (OpenSpec.ofChange fnSameGroupsSpec)) fnSameGroupsCard

/-- THE TIED CARD OF 'laws.FnExactIsPatch'. -/
def fnExactIsPatchCard : Claim7 := { stood := { row := fnExactIsPatchRow, standIns := [], harness := (true, "b1a55c173f1dd4d99c5cfcd867e1d6ba0bad45c7a72571cc67a643b354450df8"), looks := true }, kinds := [], alts := [], laidByText := true, laidKinds := [.data, .data, .data, .data, .sentinel, .sentinel, .widerDeep, .pinned], laidTests := true, laidLooks := .later }
def FnExactIsPatchCardSaid : Prop := Claim7.holds Tryz.pinned (.plain (OpenSpec.ofChange fnExactIsPatchSpec)) fnExactIsPatchCard

/-- THE TIED CARD OF 'laws.FnExactWaysOf'. -/
def fnExactWaysOfCard : Claim7 := { stood := { row := fnExactWaysOfRow, standIns := [], harness := (true, "b1a55c173f1dd4d99c5cfcd867e1d6ba0bad45c7a72571cc67a643b354450df8"), looks := true }, kinds := [], alts := [], laidByText := true, laidKinds := [.data, .data, .data, .data, .sentinel, .sentinel, .widerDeep, .pinned], laidTests := true, laidLooks := .later }
def FnExactWaysOfCardSaid : Prop := Claim7.holds Tryz.pinned (.plain (OpenSpec.ofChange fnExactWaysOfSpec)) fnExactWaysOfCard

/-- THE TIED CARD OF 'laws.FnSteps'. -/
def fnStepsCard : Claim7 := { stood := { row := fnStepsRow, standIns := [], harness := (true, "b1a55c173f1dd4d99c5cfcd867e1d6ba0bad45c7a72571cc67a643b354450df8"), looks := true }, kinds := [], alts := [], laidByText := true, laidKinds := [.data, .data, .data, .data, .sentinel, .sentinel, .pinned], laidTests := true, laidLooks := .later }
def FnStepsCardSaid : Prop := Claim7.holds Tryz.pinned (.plain (OpenSpec.ofChange fnStepsSpec)) fnStepsCard

/-- THE TIED CARD OF 'laws.FnExactSameSides'. -/
def fnExactSameSidesCard : Claim7 := { stood := { row := fnExactSameSidesRow, standIns := [], harness := (true, "b1a55c173f1dd4d99c5cfcd867e1d6ba0bad45c7a72571cc67a643b354450df8"), looks := true }, kinds := [], alts := [], laidByText := true, laidKinds := [.data, .data, .data, .data, .sentinel, .sentinel, .pinned], laidTests := true, laidLooks := .later }
def FnExactSameSidesCardSaid : Prop := Claim7.holds Tryz.pinned (.plain (OpenSpec.ofChange fnExactSameSidesSpec)) fnExactSameSidesCard

/-- THE TIED CARD OF 'laws.FnGroupsDone'. -/
def fnGroupsDoneCard : Claim7 := { stood := { row := fnGroupsDoneRow, standIns := [], harness := (true, "b1a55c173f1dd4d99c5cfcd867e1d6ba0bad45c7a72571cc67a643b354450df8"), looks := true }, kinds := [], alts := [], laidByText := true, laidKinds := [.data, .data, .data, .data, .sentinel, .sentinel, .pinned], laidTests := true, laidLooks := .later }
def FnGroupsDoneCardSaid : Prop := Claim7.holds Tryz.pinned (.plain (OpenSpec.ofChange fnGroupsDoneSpec)) fnGroupsDoneCard

/-- THE TIED CARD OF 'laws.FnContext'. -/
def fnContextCard : Claim7 := { stood := { row := fnContextRow, standIns := [], harness := (true, "b1a55c173f1dd4d99c5cfcd867e1d6ba0bad45c7a72571cc67a643b354450df8"), looks := true }, kinds := [], alts := [], laidByText := true, laidKinds := [.data, .data, .data, .data, .sentinel, .sentinel, .pinned], laidTests := true, laidLooks := .later }
def FnContextCardSaid : Prop := Claim7.holds Tryz.pinned (.plain (OpenSpec.ofChange fnContextSpec)) fnContextCard

/-- THE SECOND FORM's CARD OF 'laws.FnSameGroups'. -/
def fnSameGroupsUptoCard : Claim7 := { stood := { row := fnSameGroupsUptoRow, standIns := [], harness := (true, "b1a55c173f1dd4d99c5cfcd867e1d6ba0bad45c7a72571cc67a643b354450df8"), looks := true }, kinds := [], alts := [], laidByText := true, laidKinds := [.data, .data, .data, .data, .sentinel, .sentinel, .pinned], laidTests := true, laidLooks := .later }
def FnSameGroupsUptoCardSaid : Prop := Claim7.holds Tryz.pinned (.plain (OpenSpec.upto fnSameGroupsSpec)) fnSameGroupsUptoCard

/-- THE SECOND FORM's CARD OF 'laws.FnExactIsPatch'. -/
def fnExactIsPatchUptoCard : Claim7 := { stood := { row := fnExactIsPatchUptoRow, standIns := [], harness := (true, "b1a55c173f1dd4d99c5cfcd867e1d6ba0bad45c7a72571cc67a643b354450df8"), looks := true }, kinds := [], alts := [], laidByText := true, laidKinds := [.data, .data, .data, .data, .sentinel, .sentinel, .widerDeep, .pinned], laidTests := true, laidLooks := .later }
def FnExactIsPatchUptoCardSaid : Prop := Claim7.holds Tryz.pinned (.plain (OpenSpec.upto fnExactIsPatchSpec)) fnExactIsPatchUptoCard

/-- THE SECOND FORM's CARD OF 'laws.FnExactWaysOf'. -/
def fnExactWaysOfUptoCard : Claim7 := { stood := { row := fnExactWaysOfUptoRow, standIns := [], harness := (true, "b1a55c173f1dd4d99c5cfcd867e1d6ba0bad45c7a72571cc67a643b354450df8"), looks := true }, kinds := [], alts := [], laidByText := true, laidKinds := [.data, .data, .data, .data, .sentinel, .sentinel, .widerDeep, .pinned], laidTests := true, laidLooks := .later }
def FnExactWaysOfUptoCardSaid : Prop := Claim7.holds Tryz.pinned (.plain (OpenSpec.upto fnExactWaysOfSpec)) fnExactWaysOfUptoCard

/-- THE SECOND FORM's CARD OF 'laws.FnSteps'. -/
def fnStepsUptoCard : Claim7 := { stood := { row := fnStepsUptoRow, standIns := [], harness := (true, "b1a55c173f1dd4d99c5cfcd867e1d6ba0bad45c7a72571cc67a643b354450df8"), looks := true }, kinds := [], alts := [], laidByText := true, laidKinds := [.data, .data, .data, .data, .sentinel, .sentinel, .pinned], laidTests := true, laidLooks := .later }
def FnStepsUptoCardSaid : Prop := Claim7.holds Tryz.pinned (.plain (OpenSpec.upto fnStepsSpec)) fnStepsUptoCard

/-- THE SECOND FORM's CARD OF 'laws.FnExactSameSides'. -/
def fnExactSameSidesUptoCard : Claim7 := { stood := { row := fnExactSameSidesUptoRow, standIns := [], harness := (true, "b1a55c173f1dd4d99c5cfcd867e1d6ba0bad45c7a72571cc67a643b354450df8"), looks := true }, kinds := [], alts := [], laidByText := true, laidKinds := [.data, .data, .data, .data, .sentinel, .sentinel, .pinned], laidTests := true, laidLooks := .later }
def FnExactSameSidesUptoCardSaid : Prop := Claim7.holds Tryz.pinned (.plain (OpenSpec.upto fnExactSameSidesSpec)) fnExactSameSidesUptoCard

/-- THE SECOND FORM's CARD OF 'laws.FnGroupsDone'. -/
def fnGroupsDoneUptoCard : Claim7 := { stood := { row := fnGroupsDoneUptoRow, standIns := [], harness := (true, "b1a55c173f1dd4d99c5cfcd867e1d6ba0bad45c7a72571cc67a643b354450df8"), looks := true }, kinds := [], alts := [], laidByText := true, laidKinds := [.data, .data, .data, .data, .sentinel, .sentinel, .pinned], laidTests := true, laidLooks := .later }
def FnGroupsDoneUptoCardSaid : Prop := Claim7.holds Tryz.pinned (.plain (OpenSpec.upto fnGroupsDoneSpec)) fnGroupsDoneUptoCard

/-- THE SECOND FORM's CARD OF 'laws.FnContext'. -/
def fnContextUptoCard : Claim7 := { stood := { row := fnContextUptoRow, standIns := [], harness := (true, "b1a55c173f1dd4d99c5cfcd867e1d6ba0bad45c7a72571cc67a643b354450df8"), looks := true }, kinds := [], alts := [], laidByText := true, laidKinds := [.data, .data, .data, .data, .sentinel, .sentinel, .pinned], laidTests := true, laidLooks := .later }
def FnContextUptoCardSaid : Prop := Claim7.holds Tryz.pinned (.plain (OpenSpec.upto fnContextSpec)) fnContextUptoCard
end Rows
end Go.Proofs.YtljgmcbpjakecaaGreatDoor
