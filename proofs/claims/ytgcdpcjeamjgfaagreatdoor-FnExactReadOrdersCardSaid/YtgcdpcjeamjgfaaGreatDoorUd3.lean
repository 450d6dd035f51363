/- The program's reader of orders answers what the reference's answers, for every text. -/
import Derived.Test.YtgcdpcjeamjgfaaGreatDoorUd2
import Derived.SevenTiedAt
namespace Go.Proofs.YtgcdpcjeamjgfaaGreatDoor
open Go Go.ChangeShapes Go.WideShapes Go.ChangeAt Go.RowKit Go.Dn R
set_option linter.unusedVariables false
theorem fnExactReadOrdersCard_holds : Rows.FnExactReadOrdersCardSaid :=
  Claim7.holds_tied_plain_at .later [] [.data, .data, .data, .data, .sentinel, .sentinel, .widerDeep, .pinned] true (true, "55f40698bc9712736d94ce0c308843442c264688a72af322ac3a3a3d96e0c211") true
    fnExactReadOrders_over (fun _ h => by cases h) (by kernel_rfl) (fun _ h => by cases h) fnExactReadOrders_row_tie rfl ⟨rfl, rfl⟩ (by kernel_rfl) rfl
    (fun f fn hf hfn => by
      obtain rfl : f = 3 := Option.some.inj ((show Tryz.prog.funcNamed "loop.example/g00825/laws.FnExactReadOrders" = some 3 by kernel_rfl).symm.trans hf) |>.symm
      obtain rfl : fn = Tryz.f3 := (Option.some.inj (Tryz.func3.symm.trans hfn)).symm
      exact ⟨by kernel_rfl, fun j t ht => by
        rw [show Tryz.f3.params = #[9] from by kernel_rfl] at ht
        have hm : t ∈ [9] := by simpa using Array.mem_of_getElem? ht
        have hall : ([9].all fun u => !Tryz.prog.wantsStandIn u) = true := by kernel_rfl
        exact (show Tryz.prog.wantsStandIn t = false by simpa using List.all_eq_true.1 hall t hm)⟩)
    (by kernel_rfl)

#print axioms fnExactReadOrdersCard_holds
end Go.Proofs.YtgcdpcjeamjgfaaGreatDoor
