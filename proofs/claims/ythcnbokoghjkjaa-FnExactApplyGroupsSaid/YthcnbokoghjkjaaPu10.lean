/- FnExactApplyGroups: the program's ApplyGroups answers as the reference's, for all arguments. -/
import Derived.Test.YthcnbokoghjkjaaPu8
import Derived.Test.YthcnbokoghjkjaaRows
import Derived.Test.YthcnbokoghjkjaaFc
namespace Go.Proofs.Ythcnbokoghjkjaa
open Go.ChangeShapes Go.WideShapes Go.ChangeAt Go.RowKit Go.Dn R
set_option linter.unusedVariables false

set_option maxRecDepth 100000 in
theorem fnExactApplyGroups_lifted (os : Os) (started : os.Started) (H : Type) (enc : TypeId × Value → H) :
    ReturnsInHanded {} Try.checked os 12 .any (Rows.fnExactApplyGroupsSpec.pre6 enc Try.prog Try.f12 Rows.fnExactApplyGroupsRow.domain false) (Rows.fnExactApplyGroupsSpec.post enc Try.prog Try.f12 false true false false) :=
  law_row (C := Try.checked) (tab := tab) (tb := 4) (by kernel_rfl) started (by kernel_rfl) Try.func12
    (ChangeSpec.witness6 (enc := enc) (C := Try.checked) false ⟨#[], #[.slice none 0 0, .slice none 0 0], []⟩ 8 (by kernel_rfl) (by kernel_rfl) (by kernel_rfl) (by kernel_rfl))
    (by kernel_rfl) (by kernel_rfl) (by kernel_rfl) (by kernel_rfl) rfl (by kernel_rfl) Try.underlying4
    (fun ds h => by
      match ds, h with
      | [d0, d1], _ => exact ⟨rfl, rfl, rfl⟩)
    tabOk ok_L_FnExactApplyGroups (by kernel_rfl) (fun x h => ⟨(), law_ApplyGroups x.1 x.2.1 h.1 h.2.1⟩)

theorem fnExactApplyGroups_over : Rows.fnExactApplyGroupsRow.holds Try.pinned (OpenSpec.ofChange Rows.fnExactApplyGroupsSpec) :=
  OpenClaim.holds_of_wide 12 Try.f12 rfl rfl rfl rfl rfl rfl rfl ⟨rfl, rfl, rfl, rfl, rfl⟩ rfl rfl rfl rfl rfl (by kernel_rfl) Try.func12 (by kernel_rfl)
    (of_decide_eq_true (by kernel_rfl)) (by unfold Func.isWrapper; first | (rw [if_pos (by decide +kernel)]; kernel_rfl) | (rw [if_neg (by decide +kernel)]; exact ⟨rfl, rfl⟩))
    (fun os started H enc _ => fnExactApplyGroups_lifted os started H enc)

theorem fnExactApplyGroups_holds : Rows.FnExactApplyGroupsSaid := fnExactApplyGroups_over

#print axioms fnExactApplyGroups_holds
end Go.Proofs.Ythcnbokoghjkjaa
