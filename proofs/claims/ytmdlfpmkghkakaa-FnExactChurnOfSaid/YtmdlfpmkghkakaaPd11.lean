/- The law FnExactChurnOf returns true for every input and leaves its argument as it was; no condition. -/
import Derived.Test.YtmdlfpmkghkakaaPl11
import Derived.Test.YtmdlfpmkghkakaaRows
import Derived.Test.YtmdlfpmkghkakaaFc
namespace Go.Proofs.Ytmdlfpmkghkakaa
open Go.ChangeShapes Go.WideShapes Go.ChangeAt Go.RowKit Go.Dn R
set_option linter.unusedVariables false

set_option maxRecDepth 100000 in
theorem fnExactChurnOf_lifted (os : Os) (started : os.Started) (H : Type) (enc : TypeId × Value → H) :
    ReturnsInHanded {} Try.checked os 7 .any (Rows.fnExactChurnOfSpec.pre6 enc Try.prog Try.f7 Rows.fnExactChurnOfRow.domain false) (Rows.fnExactChurnOfSpec.post enc Try.prog Try.f7 false true false false) :=
  law_row (C := Try.checked) (tab := tab) (tb := 4) (by kernel_rfl) started (by kernel_rfl) Try.func7
    (ChangeSpec.witness6 (enc := enc) (C := Try.checked) false ⟨#[], #[.slice none 0 0], []⟩ 8 (by kernel_rfl) (by kernel_rfl) (by kernel_rfl) (by kernel_rfl))
    (by kernel_rfl) (by kernel_rfl) (by kernel_rfl) (by kernel_rfl) rfl (by kernel_rfl) Try.underlying4
    (fun ds h => by
      match ds, h with
      | [d0], _ => exact ⟨rfl, rfl, rfl⟩)
    tabOk ok_L_FnExactChurnOf (by kernel_rfl) (fun x h => ⟨(), law_ChurnOf x.1 h.1⟩)

theorem fnExactChurnOf_over : Rows.fnExactChurnOfRow.holds Try.pinned (OpenSpec.ofChange Rows.fnExactChurnOfSpec) :=
  OpenClaim.holds_of_wide 7 Try.f7 rfl rfl rfl rfl rfl rfl rfl ⟨rfl, rfl, rfl, rfl, rfl⟩ rfl rfl rfl rfl rfl (by kernel_rfl) Try.func7 (by kernel_rfl)
    (of_decide_eq_true (by kernel_rfl)) (by unfold Func.isWrapper; first | (rw [if_pos (by decide +kernel)]; kernel_rfl) | (rw [if_neg (by decide +kernel)]; exact ⟨rfl, rfl⟩))
    (fun os started H enc _ => fnExactChurnOf_lifted os started H enc)

theorem fnExactChurnOf_holds : Rows.FnExactChurnOfSaid := fnExactChurnOf_over

#print axioms fnExactChurnOf_holds
end Go.Proofs.Ytmdlfpmkghkakaa
