/- FnExactBackGroups: the program's BackGroups answers as the reference's, for all arguments. -/
import Derived.Test.YthcnbokoghjkjaaPu4
import Derived.Test.YthcnbokoghjkjaaRows
import Derived.Test.YthcnbokoghjkjaaFc
namespace Go.Proofs.Ythcnbokoghjkjaa
open Go.ChangeShapes Go.WideShapes Go.ChangeAt Go.RowKit Go.Dn R
set_option linter.unusedVariables false

set_option maxRecDepth 100000 in
theorem fnExactBackGroups_lifted (os : Os) (started : os.Started) (H : Type) (enc : TypeId × Value → H) :
    ReturnsInHanded {} Try.checked os 3 .any (Rows.fnExactBackGroupsSpec.pre6 enc Try.prog Try.f3 Rows.fnExactBackGroupsRow.domain false) (Rows.fnExactBackGroupsSpec.post enc Try.prog Try.f3 false true false false) :=
  law_row (C := Try.checked) (tab := tab) (tb := 4) (by kernel_rfl) started (by kernel_rfl) Try.func3
    (ChangeSpec.witness6 (enc := enc) (C := Try.checked) false ⟨#[], #[.slice none 0 0], []⟩ 8 (by kernel_rfl) (by kernel_rfl) (by kernel_rfl) (by kernel_rfl))
    (by kernel_rfl) (by kernel_rfl) (by kernel_rfl) (by kernel_rfl) rfl (by kernel_rfl) Try.underlying4
    (fun ds h => by
      match ds, h with
      | [d0], _ => exact ⟨rfl, rfl, rfl⟩)
    tabOk ok_L_FnExactBackGroups (by kernel_rfl) (fun x h => ⟨(), law_BackGroups x.1 h.1⟩)

theorem fnExactBackGroups_over : Rows.fnExactBackGroupsRow.holds Try.pinned (OpenSpec.ofChange Rows.fnExactBackGroupsSpec) :=
  OpenClaim.holds_of_wide 3 Try.f3 rfl rfl rfl rfl rfl rfl rfl ⟨rfl, rfl, rfl, rfl, rfl⟩ rfl rfl rfl rfl rfl (by kernel_rfl) Try.func3 (by kernel_rfl)
    (of_decide_eq_true (by kernel_rfl)) (by unfold Func.isWrapper; first | (rw [if_pos (by decide +kernel)]; kernel_rfl) | (rw [if_neg (by decide +kernel)]; exact ⟨rfl, rfl⟩))
    (fun os started H enc _ => fnExactBackGroups_lifted os started H enc)

theorem fnExactBackGroups_holds : Rows.FnExactBackGroupsSaid := fnExactBackGroups_over

#print axioms fnExactBackGroups_holds
end Go.Proofs.Ythcnbokoghjkjaa
