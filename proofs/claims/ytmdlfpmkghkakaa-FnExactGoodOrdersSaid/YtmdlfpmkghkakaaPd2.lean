/- The law FnExactGoodOrders returns true for every input and leaves its argument as it was; no condition. -/
import Derived.Test.YtmdlfpmkghkakaaPl2
import Derived.Test.YtmdlfpmkghkakaaRows
import Derived.Test.YtmdlfpmkghkakaaFc
namespace Go.Proofs.Ytmdlfpmkghkakaa
open Go.ChangeShapes Go.WideShapes Go.ChangeAt Go.RowKit Go.Dn R
set_option linter.unusedVariables false

set_option maxRecDepth 100000 in
theorem fnExactGoodOrders_lifted (os : Os) (started : os.Started) (H : Type) (enc : TypeId × Value → H) :
    ReturnsInHanded {} Try.checked os 5 .any (Rows.fnExactGoodOrdersSpec.pre6 enc Try.prog Try.f5 Rows.fnExactGoodOrdersRow.domain false) (Rows.fnExactGoodOrdersSpec.post enc Try.prog Try.f5 false true false false) :=
  law_row (C := Try.checked) (tab := tab) (tb := 4) (by kernel_rfl) started (by kernel_rfl) Try.func5
    (ChangeSpec.witness6 (enc := enc) (C := Try.checked) false ⟨#[], #[.slice none 0 0], []⟩ 8 (by kernel_rfl) (by kernel_rfl) (by kernel_rfl) (by kernel_rfl))
    (by kernel_rfl) (by kernel_rfl) (by kernel_rfl) (by kernel_rfl) rfl (by kernel_rfl) Try.underlying4
    (fun ds h => by
      match ds, h with
      | [d0], _ => exact ⟨rfl, rfl, rfl⟩)
    tabOk ok_L_FnExactGoodOrders (by kernel_rfl) (fun x h => ⟨(), law_GoodOrders x.1 h.1⟩)

theorem fnExactGoodOrders_over : Rows.fnExactGoodOrdersRow.holds Try.pinned (OpenSpec.ofChange Rows.fnExactGoodOrdersSpec) :=
  OpenClaim.holds_of_wide 5 Try.f5 rfl rfl rfl rfl rfl rfl rfl ⟨rfl, rfl, rfl, rfl, rfl⟩ rfl rfl rfl rfl rfl (by kernel_rfl) Try.func5 (by kernel_rfl)
    (of_decide_eq_true (by kernel_rfl)) (by unfold Func.isWrapper; first | (rw [if_pos (by decide +kernel)]; kernel_rfl) | (rw [if_neg (by decide +kernel)]; exact ⟨rfl, rfl⟩))
    (fun os started H enc _ => fnExactGoodOrders_lifted os started H enc)

theorem fnExactGoodOrders_holds : Rows.FnExactGoodOrdersSaid := fnExactGoodOrders_over

#print axioms fnExactGoodOrders_holds
end Go.Proofs.Ytmdlfpmkghkakaa
