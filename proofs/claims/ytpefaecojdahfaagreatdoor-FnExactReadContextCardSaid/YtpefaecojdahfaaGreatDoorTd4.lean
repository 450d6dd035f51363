/- FnExactReadContext: the program's ReadContext answers as the reference's, for all arguments; the tied card. -/
import Derived.Test.YtpefaecojdahfaaGreatDoorTd3
import Derived.SevenTiedAt
namespace Go.Proofs.YtpefaecojdahfaaGreatDoor
open Go Go.ChangeShapes Go.WideShapes Go.ChangeAt Go.RowKit Go.Dn R
set_option linter.unusedVariables false
theorem fnExactReadContextCard_holds : Rows.FnExactReadContextCardSaid :=
  Claim7.holds_tied_plain_at .later [] [.data, .data, .data, .data, .sentinel, .sentinel, .pinned] true (true, "f3b1a17007e5a81304b5fecbf7a0f88e318e96bd2ff94484c199104b3342184e") true
    fnExactReadContext_over (fun _ h => by cases h) (by kernel_rfl) (fun _ h => by cases h) fnExactReadContext_row_tie rfl ⟨rfl, rfl⟩ (by kernel_rfl) rfl
    (fun f fn hf hfn => by
      obtain rfl : f = 4 := Option.some.inj ((show Tryz.prog.funcNamed "loop.example/g00825/laws.FnExactReadContext" = some 4 by kernel_rfl).symm.trans hf) |>.symm
      obtain rfl : fn = Tryz.f4 := (Option.some.inj (Tryz.func4.symm.trans hfn)).symm
      exact ⟨by kernel_rfl, fun j t ht => by
        rw [show Tryz.f4.params = #[9] from by kernel_rfl] at ht
        have hm : t ∈ [9] := by simpa using Array.mem_of_getElem? ht
        have hall : ([9].all fun u => !Tryz.prog.wantsStandIn u) = true := by kernel_rfl
        exact (show Tryz.prog.wantsStandIn t = false by simpa using List.all_eq_true.1 hall t hm)⟩)
    (by kernel_rfl)

#print axioms fnExactReadContextCard_holds
end Go.Proofs.YtpefaecojdahfaaGreatDoor
