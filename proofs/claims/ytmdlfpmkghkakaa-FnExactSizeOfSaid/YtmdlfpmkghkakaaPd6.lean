/- The law FnExactSizeOf returns true for every input and leaves its argument as it was; no condition. -/
import Derived.Test.YtmdlfpmkghkakaaPl6
import Derived.Test.YtmdlfpmkghkakaaRows
import Derived.Test.YtmdlfpmkghkakaaFc
namespace Go.Proofs.Ytmdlfpmkghkakaa
open Go.ChangeShapes Go.WideShapes Go.ChangeAt Go.RowKit Go.Dn R
set_option linter.unusedVariables false

set_option maxRecDepth 100000 in
theorem fnExactSizeOf_lifted (os : Os) (started : os.Started) (H : Type) (enc : TypeId × Value → H) :
    ReturnsInHanded {} Try.checked os 11 .any (Rows.fnExactSizeOfSpec.pre6 enc Try.prog Try.f11 Rows.fnExactSizeOfRow.domain false) (Rows.fnExactSizeOfSpec.post enc Try.prog Try.f11 false true false false) :=
  law_row (C := Try.checked) (tab := tab) (tb := 4) (by kernel_rfl) started (by kernel_rfl) Try.func11
    (ChangeSpec.witness6 (enc := enc) (C := Try.checked) false ⟨#[], #[.agg #[.slice none 0 0, .slice none 0 0]], []⟩ 8 (by kernel_rfl) (by kernel_rfl) (by kernel_rfl) (by kernel_rfl))
    (by kernel_rfl) (by kernel_rfl) (by kernel_rfl) (by kernel_rfl) rfl (by kernel_rfl) Try.underlying4
    (fun ds h => by
      match ds, h with
      | [d0], _ => exact ⟨rfl, rfl, rfl⟩)
    tabOk ok_L_FnExactSizeOf (by kernel_rfl) (fun x h => ⟨(), law_SizeOf x.1 h.1⟩)

theorem fnExactSizeOf_over : Rows.fnExactSizeOfRow.holds Try.pinned (OpenSpec.ofChange Rows.fnExactSizeOfSpec) :=
  OpenClaim.holds_of_wide 11 Try.f11 rfl rfl rfl rfl rfl rfl rfl ⟨rfl, rfl, rfl, rfl, rfl⟩ rfl rfl rfl rfl rfl (by kernel_rfl) Try.func11 (by kernel_rfl)
    (of_decide_eq_true (by kernel_rfl)) (by unfold Func.isWrapper; first | (rw [if_pos (by decide +kernel)]; kernel_rfl) | (rw [if_neg (by decide +kernel)]; exact ⟨rfl, rfl⟩))
    (fun os started H enc _ => fnExactSizeOf_lifted os started H enc)

theorem fnExactSizeOf_holds : Rows.FnExactSizeOfSaid := fnExactSizeOf_over

#print axioms fnExactSizeOf_holds
end Go.Proofs.Ytmdlfpmkghkakaa
