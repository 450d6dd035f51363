/- Groups are read back from their text all in one, and nothing else but ranges told longer is, for drawn groups and texts: for all arguments, without further conditions. -/
import Derived.Test.YtmkcdiobiphkhaaGreatDoorQd6
import Derived.SevenTiedAt
namespace Go.Proofs.YtmkcdiobiphkhaaGreatDoor
open Go Go.ChangeShapes Go.WideShapes Go.ChangeAt Go.RowKit Go.Dn R
set_option linter.unusedVariables false
theorem fnUnifiedCard_holds : Rows.FnUnifiedCardSaid :=
  Claim7.holds_tied_plain_at .later [] [.data, .data, .data, .data, .sentinel, .sentinel, .pinned] true (true, "9b5cac9b56a20869d0b275aed5ce31684c3d7d3c8ca4d4ccd67cd37d5f070b19") true
    fnUnified_over (fun _ h => by cases h) (by kernel_rfl) (fun _ h => by cases h) fnUnified_row_tie rfl ⟨rfl, rfl⟩ (by kernel_rfl) rfl
    (fun f fn hf hfn => by
      obtain rfl : f = 3 := Option.some.inj ((show Tryz.prog.funcNamed "loop.example/g00825/laws.FnUnified" = some 3 by kernel_rfl).symm.trans hf) |>.symm
      obtain rfl : fn = Tryz.f3 := (Option.some.inj (Tryz.func3.symm.trans hfn)).symm
      exact ⟨by kernel_rfl, fun j t ht => by
        rw [show Tryz.f3.params = #[22, 22] from by kernel_rfl] at ht
        have hm : t ∈ [22, 22] := by simpa using Array.mem_of_getElem? ht
        have hall : ([22, 22].all fun u => !Tryz.prog.wantsStandIn u) = true := by kernel_rfl
        exact (show Tryz.prog.wantsStandIn t = false by simpa using List.all_eq_true.1 hall t hm)⟩)
    (by kernel_rfl)

#print axioms fnUnifiedCard_holds
end Go.Proofs.YtmkcdiobiphkhaaGreatDoor
