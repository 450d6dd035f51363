/-
  DERIVED. GIVEN WITH THE SEED: THE CARDS: each row of YtpefaecojdahfaaGreatDoorRows.lean that lists a variable, with what it lists TIED to the program's text (the seventh form; the later family's looks); each row that meets fmt, with fmt's text TOLD by the authors' own Lean function (tested against real Go, not proved from fmt's source: count such statements apart). THE CARD IS WHAT COUNTS. Prove the row's statement (the work); the ties are given (YtpefaecojdahfaaGreatDoorTie.lean); close each card by the builder's one call (the guide's Derived/Test/ToyasCard.lean, 'card_holds'). Laid BY PROGRAM, IN A SANDBOX (cutbox-door.mjs). By AI agents, Wed Nov 11 2026. No macro, syntax, notation, axiom, sorry.
-/
import Derived.Test.YtpefaecojdahfaaGreatDoorRows
import GoSem.ClaimSeven
namespace Go.Proofs.YtpefaecojdahfaaGreatDoor
namespace Rows

/-- THE TIED CARD OF 'laws.FnSameGroups'. -/
def fnSameGroupsCard : Claim7 := { stood := { row := fnSameGroupsRow, standIns := [], harness := (true, "f3b1a17007e5a81304b5fecbf7a0f88e318e96bd2ff94484c199104b3342184e"), looks := true }, kinds := [], alts := [], laidByText := true, laidKinds := [.data, .data, .data, .data, .sentinel, .sentinel, .pinned], laidTests := true, laidLooks := .later }
def FnSameGroupsCardSaid : Prop := Claim7.holds Tryz.pinned (.plain (OpenSpec.ofChange fnSameGroupsSpec)) fnSameGroupsCard

/-- THE TIED CARD OF 'laws.FnExactReadContext'. -/
def fnExactReadContextCard : Claim7 := { stood := { row := fnExactReadContextRow, standIns := [], harness := (true, "f3b1a17007e5a81304b5fecbf7a0f88e318e96bd2ff94484c199104b3342184e"), looks := true }, kinds := [], alts := [], laidByText := true, laidKinds := [.data, .data, .data, .data, .sentinel, .sentinel, .pinned], laidTests := true, laidLooks := .later }
def FnExactReadContextCardSaid : Prop := Claim7.holds Tryz.pinned (.plain (OpenSpec.ofChange fnExactReadContextSpec)) fnExactReadContextCard

/-- THE TIED CARD OF 'laws.FnExactSameSides'. -/
def fnExactSameSidesCard : Claim7 := { stood := { row := fnExactSameSidesRow, standIns := [], harness := (true, "f3b1a17007e5a81304b5fecbf7a0f88e318e96bd2ff94484c199104b3342184e"), looks := true }, kinds := [], alts := [], laidByText := true, laidKinds := [.data, .data, .data, .data, .sentinel, .sentinel, .pinned], laidTests := true, laidLooks := .later }
def FnExactSameSidesCardSaid : Prop := Claim7.holds Tryz.pinned (.plain (OpenSpec.ofChange fnExactSameSidesSpec)) fnExactSameSidesCard

/-- THE TIED CARD OF 'laws.FnContext'. -/
def fnContextCard : Claim7 := { stood := { row := fnContextRow, standIns := [], harness := (true, "f3b1a17007e5a81304b5fecbf7a0f88e318e96bd2ff94484c199104b3342184e"), looks := true }, kinds := [], alts := [], laidByText := true, laidKinds := [.data, .data, .data, .data, .sentinel, .sentinel, .pinned], laidTests := true, laidLooks := .later }
def FnContextCardSaid : Prop := Claim7.holds Tryz.pinned (.plain (OpenSpec.ofChange fnContextSpec)) fnContextCard

/-- THE SECOND FORM's CARD OF 'laws.FnSameGroups'. -/
def fnSameGroupsUptoCard : Claim7 := { stood := { row := fnSameGroupsUptoRow, standIns := [], harness := (true, "f3b1a17007e5a81304b5fecbf7a0f88e318e96bd2ff94484c199104b3342184e"), looks := true }, kinds := [], alts := [], laidByText := true, laidKinds := [.data, .data, .data, .data, .sentinel, .sentinel, .pinned], laidTests := true, laidLooks := .later }
def FnSameGroupsUptoCardSaid : Prop := Claim7.holds Tryz.pinned (.plain (OpenSpec.upto fnSameGroupsSpec)) fnSameGroupsUptoCard

/-- THE SECOND FORM's CARD OF 'laws.FnExactReadContext'. -/
def fnExactReadContextUptoCard : Claim7 := { stood := { row := fnExactReadContextUptoRow, standIns := [], harness := (true, "f3b1a17007e5a81304b5fecbf7a0f88e318e96bd2ff94484c199104b3342184e"), looks := true }, kinds := [], alts := [], laidByText := true, laidKinds := [.data, .data, .data, .data, .sentinel, .sentinel, .pinned], laidTests := true, laidLooks := .later }
def FnExactReadContextUptoCardSaid : Prop := Claim7.holds Tryz.pinned (.plain (OpenSpec.upto fnExactReadContextSpec)) fnExactReadContextUptoCard

/-- THE SECOND FORM's CARD OF 'laws.FnExactSameSides'. -/
def fnExactSameSidesUptoCard : Claim7 := { stood := { row := fnExactSameSidesUptoRow, standIns := [], harness := (true, "f3b1a17007e5a81304b5fecbf7a0f88e318e96bd2ff94484c199104b3342184e"), looks := true }, kinds := [], alts := [], laidByText := true, laidKinds := [.data, .data, .data, .data, .sentinel, .sentinel, .pinned], laidTests := true, laidLooks := .later }
def FnExactSameSidesUptoCardSaid : Prop := Claim7.holds Tryz.pinned (.plain (OpenSpec.upto fnExactSameSidesSpec)) fnExactSameSidesUptoCard

/-- THE SECOND FORM's CARD OF 'laws.FnContext'. -/
def fnContextUptoCard : Claim7 := { stood := { row := fnContextUptoRow, standIns := [], harness := (true, "f3b1a17007e5a81304b5fecbf7a0f88e318e96bd2ff94484c199104b3342184e"), looks := true }, kinds := [], alts := [], laidByText := true, laidKinds := [.data, .data, .data, .data, .sentinel, .sentinel, .pinned], laidTests := true, laidLooks := .later }
def FnContextUptoCardSaid : Prop := Claim7.holds Tryz.pinned (.plain (OpenSpec.upto fnContextSpec)) fnContextUptoCard
end Rows
end Go.Proofs.YtpefaecojdahfaaGreatDoor
