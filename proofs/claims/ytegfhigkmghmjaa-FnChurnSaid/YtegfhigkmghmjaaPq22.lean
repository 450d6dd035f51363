/- Churn: the law answers true at every call. -/
import Derived.Test.YtegfhigkmghmjaaQPq221
import Derived.Test.YtegfhigkmghmjaaRows
import Derived.Test.YtegfhigkmghmjaaL3
namespace Go.Proofs.Ytegfhigkmghmjaa
open Go.ChangeShapes Go.WideShapes Go.ChangeAt Go.RowKit Go.Dn R
set_option linter.unusedVariables false

set_option maxRecDepth 100000 in
theorem fnChurn_lifted (os : Os) (started : os.Started) (H : Type) (enc : TypeId × Value → H) :
    ReturnsInHanded {} Try.checked os 4 .any (Rows.fnChurnSpec.pre6 enc Try.prog Try.f4 Rows.fnChurnRow.domain false) (Rows.fnChurnSpec.post enc Try.prog Try.f4 false true false false) :=
  law_row (C := Try.checked) (tab := tab) (tb := 4) (by kernel_rfl) started (by kernel_rfl) Try.func4
    (ChangeSpec.witness6 (enc := enc) (C := Try.checked) false ⟨#[], #[.slice none 0 0, .slice none 0 0], []⟩ 8 (by kernel_rfl) (by kernel_rfl) (by kernel_rfl) (by kernel_rfl))
    (by kernel_rfl) (by kernel_rfl) (by kernel_rfl) (by kernel_rfl) rfl (by kernel_rfl) Try.underlying4
    (fun ds h => by
      match ds, h with
      | [d0, d1], _ => exact ⟨rfl, rfl, rfl⟩)
    tabOk ok_L_FnChurn (by kernel_rfl) (fun x h => ⟨(), law_Churn x.1 x.2.1 h.1 h.2.1⟩)

theorem fnChurn_over : Rows.fnChurnRow.holds Try.pinned (OpenSpec.ofChange Rows.fnChurnSpec) :=
  OpenClaim.holds_of_wide 4 Try.f4 rfl rfl rfl rfl rfl rfl rfl ⟨rfl, rfl, rfl, rfl, rfl⟩ rfl rfl rfl rfl rfl (by kernel_rfl) Try.func4 (by kernel_rfl)
    (of_decide_eq_true (by kernel_rfl)) (by unfold Func.isWrapper; first | (rw [if_pos (by decide +kernel)]; kernel_rfl) | (rw [if_neg (by decide +kernel)]; exact ⟨rfl, rfl⟩))
    (fun os started H enc _ => fnChurn_lifted os started H enc)

theorem fnChurn_holds : Rows.FnChurnSaid := fnChurn_over

#print axioms fnChurn_holds
end Go.Proofs.Ytegfhigkmghmjaa
