/- LinesSince: the program's and the reference's answer the same. -/
import Derived.Test.YtmdlfpmkghkakaaPt18
import Derived.Test.YtmdlfpmkghkakaaRows
import Derived.Test.YtmdlfpmkghkakaaFc
namespace Go.Proofs.Ytmdlfpmkghkakaa
open Go.ChangeShapes Go.WideShapes Go.ChangeAt Go.RowKit Go.Dn R
set_option linter.unusedVariables false

set_option maxRecDepth 100000 in
theorem fnExactLinesSince_lifted (os : Os) (started : os.Started) (H : Type) (enc : TypeId × Value → H) :
    ReturnsInHanded {} Try.checked os 14 .any (Rows.fnExactLinesSinceSpec.pre6 enc Try.prog Try.f14 Rows.fnExactLinesSinceRow.domain false) (Rows.fnExactLinesSinceSpec.post enc Try.prog Try.f14 false true false false) :=
  law_row (C := Try.checked) (tab := tab) (tb := 4) (by kernel_rfl) started (by kernel_rfl) Try.func14
    (ChangeSpec.witness6 (enc := enc) (C := Try.checked) false ⟨#[], #[.slice none 0 0, .int .i64 0], []⟩ 8 (by kernel_rfl) (by kernel_rfl) (by kernel_rfl) (by kernel_rfl))
    (by kernel_rfl) (by kernel_rfl) (by kernel_rfl) (by kernel_rfl) rfl (by kernel_rfl) Try.underlying4
    (fun ds h => by
      match ds, h with
      | [d0, d1], _ => exact ⟨rfl, rfl, rfl⟩)
    tabOk ok_L_FnExactLinesSince (by kernel_rfl) (fun x h => ⟨(), law_LinesSince x.1 x.2.1 h.1 h.2.1⟩)

theorem fnExactLinesSince_over : Rows.fnExactLinesSinceRow.holds Try.pinned (OpenSpec.ofChange Rows.fnExactLinesSinceSpec) :=
  OpenClaim.holds_of_wide 14 Try.f14 rfl rfl rfl rfl rfl rfl rfl ⟨rfl, rfl, rfl, rfl, rfl⟩ rfl rfl rfl rfl rfl (by kernel_rfl) Try.func14 (by kernel_rfl)
    (of_decide_eq_true (by kernel_rfl)) (by unfold Func.isWrapper; first | (rw [if_pos (by decide +kernel)]; kernel_rfl) | (rw [if_neg (by decide +kernel)]; exact ⟨rfl, rfl⟩))
    (fun os started H enc _ => fnExactLinesSince_lifted os started H enc)

theorem fnExactLinesSince_holds : Rows.FnExactLinesSinceSaid := fnExactLinesSince_over

#print axioms fnExactLinesSince_holds
end Go.Proofs.Ytmdlfpmkghkakaa
