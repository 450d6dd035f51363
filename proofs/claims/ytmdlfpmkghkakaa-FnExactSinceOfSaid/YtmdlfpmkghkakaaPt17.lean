/- SinceOf: the program's and the reference's answer the same. -/
import Derived.Test.YtmdlfpmkghkakaaPt16
import Derived.Test.YtmdlfpmkghkakaaRows
import Derived.Test.YtmdlfpmkghkakaaFc
namespace Go.Proofs.Ytmdlfpmkghkakaa
open Go.ChangeShapes Go.WideShapes Go.ChangeAt Go.RowKit Go.Dn R
set_option linter.unusedVariables false

set_option maxRecDepth 100000 in
theorem fnExactSinceOf_lifted (os : Os) (started : os.Started) (H : Type) (enc : TypeId × Value → H) :
    ReturnsInHanded {} Try.checked os 13 .any (Rows.fnExactSinceOfSpec.pre6 enc Try.prog Try.f13 Rows.fnExactSinceOfRow.domain false) (Rows.fnExactSinceOfSpec.post enc Try.prog Try.f13 false true false false) :=
  law_row (C := Try.checked) (tab := tab) (tb := 4) (by kernel_rfl) started (by kernel_rfl) Try.func13
    (ChangeSpec.witness6 (enc := enc) (C := Try.checked) false ⟨#[], #[.slice none 0 0], []⟩ 8 (by kernel_rfl) (by kernel_rfl) (by kernel_rfl) (by kernel_rfl))
    (by kernel_rfl) (by kernel_rfl) (by kernel_rfl) (by kernel_rfl) rfl (by kernel_rfl) Try.underlying4
    (fun ds h => by
      match ds, h with
      | [d0], _ => exact ⟨rfl, rfl, rfl⟩)
    tabOk ok_L_FnExactSinceOf (by kernel_rfl) (fun x h => ⟨(), law_SinceOf x.1 h.1⟩)

theorem fnExactSinceOf_over : Rows.fnExactSinceOfRow.holds Try.pinned (OpenSpec.ofChange Rows.fnExactSinceOfSpec) :=
  OpenClaim.holds_of_wide 13 Try.f13 rfl rfl rfl rfl rfl rfl rfl ⟨rfl, rfl, rfl, rfl, rfl⟩ rfl rfl rfl rfl rfl (by kernel_rfl) Try.func13 (by kernel_rfl)
    (of_decide_eq_true (by kernel_rfl)) (by unfold Func.isWrapper; first | (rw [if_pos (by decide +kernel)]; kernel_rfl) | (rw [if_neg (by decide +kernel)]; exact ⟨rfl, rfl⟩))
    (fun os started H enc _ => fnExactSinceOf_lifted os started H enc)

theorem fnExactSinceOf_holds : Rows.FnExactSinceOfSaid := fnExactSinceOf_over

#print axioms fnExactSinceOf_holds
end Go.Proofs.Ytmdlfpmkghkakaa
