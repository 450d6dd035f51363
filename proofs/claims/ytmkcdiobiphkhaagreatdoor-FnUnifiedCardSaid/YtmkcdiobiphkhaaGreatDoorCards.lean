/-
  DERIVED. GIVEN WITH THE SEED: THE CARDS: each row of YtmkcdiobiphkhaaGreatDoorRows.lean that lists a variable, with what it lists TIED to the program's text (the seventh form; the later family's looks); each row that meets fmt, with fmt's text TOLD by the authors' own Lean function (tested against real Go, not proved from fmt's source: count such statements apart). THE CARD IS WHAT COUNTS. Prove the row's statement (the work); the ties are given (YtmkcdiobiphkhaaGreatDoorTie.lean); close each card by the builder's one call (the guide's Derived/Test/ToyasCard.lean, 'card_holds'). Laid BY PROGRAM, IN A SANDBOX (cutbox-door.mjs). By AI agents, Wed Nov 11 2026. No macro, syntax, notation, axiom, sorry.
-/
import Derived.Test.YtmkcdiobiphkhaaGreatDoorRows
import GoSem.ClaimSeven
namespace Go.Proofs.YtmkcdiobiphkhaaGreatDoor
namespace Rows

/-- THE TIED CARD OF 'laws.FnUnified'. -/
def fnUnifiedCard : Claim7 := { stood := { row := fnUnifiedRow, standIns := [], harness := (true, "9b5cac9b56a20869d0b275aed5ce31684c3d7d3c8ca4d4ccd67cd37d5f070b19"), looks := true }, kinds := [], alts := [], laidByText := true, laidKinds := [.data, .data, .data, .data, .sentinel, .sentinel, .pinned], laidTests := true, laidLooks := .later }
def FnUnifiedCardSaid : Prop := Claim7.holds Tryz.pinned (.plain (OpenSpec.ofChange fnUnifiedSpec)) fnUnifiedCard

/-- THE TIED CARD OF 'laws.FnGroupsDone'. -/
def fnGroupsDoneCard : Claim7 := { stood := { row := fnGroupsDoneRow, standIns := [], harness := (true, "9b5cac9b56a20869d0b275aed5ce31684c3d7d3c8ca4d4ccd67cd37d5f070b19"), looks := true }, kinds := [], alts := [], laidByText := true, laidKinds := [.data, .data, .data, .data, .sentinel, .sentinel, .pinned], laidTests := true, laidLooks := .later }
def FnGroupsDoneCardSaid : Prop := Claim7.holds Tryz.pinned (.plain (OpenSpec.ofChange fnGroupsDoneSpec)) fnGroupsDoneCard

/-- THE SECOND FORM's CARD OF 'laws.FnUnified'. -/
def fnUnifiedUptoCard : Claim7 := { stood := { row := fnUnifiedUptoRow, standIns := [], harness := (true, "9b5cac9b56a20869d0b275aed5ce31684c3d7d3c8ca4d4ccd67cd37d5f070b19"), looks := true }, kinds := [], alts := [], laidByText := true, laidKinds := [.data, .data, .data, .data, .sentinel, .sentinel, .pinned], laidTests := true, laidLooks := .later }
def FnUnifiedUptoCardSaid : Prop := Claim7.holds Tryz.pinned (.plain (OpenSpec.upto fnUnifiedSpec)) fnUnifiedUptoCard

/-- THE SECOND FORM's CARD OF 'laws.FnGroupsDone'. -/
def fnGroupsDoneUptoCard : Claim7 := { stood := { row := fnGroupsDoneUptoRow, standIns := [], harness := (true, "9b5cac9b56a20869d0b275aed5ce31684c3d7d3c8ca4d4ccd67cd37d5f070b19"), looks := true }, kinds := [], alts := [], laidByText := true, laidKinds := [.data, .data, .data, .data, .sentinel, .sentinel, .pinned], laidTests := true, laidLooks := .later }
def FnGroupsDoneUptoCardSaid : Prop := Claim7.holds Tryz.pinned (.plain (OpenSpec.upto fnGroupsDoneSpec)) fnGroupsDoneUptoCard
end Rows
end Go.Proofs.YtmkcdiobiphkhaaGreatDoor
