/- Merged with what is unchanged the other is, both ways alike, and marks are there just where they clash, for drawn texts: for all arguments, without further conditions. -/
import Derived.Test.YtifjjdpgheoogaaQQm291
import Derived.Test.YtifjjdpgheoogaaRows
import Derived.Test.YtifjjdpgheoogaaL3
namespace Go.Proofs.Ytifjjdpgheoogaa
open Go.ChangeShapes Go.WideShapes Go.ChangeAt Go.RowKit Go.Dn R
set_option linter.unusedVariables false

set_option maxRecDepth 100000 in
theorem fnMerged_lifted (os : Os) (started : os.Started) (H : Type) (enc : TypeId × Value → H) :
    ReturnsInHanded {} Try.checked os 7 .any (Rows.fnMergedSpec.pre6 enc Try.prog Try.f7 Rows.fnMergedRow.domain false) (Rows.fnMergedSpec.post enc Try.prog Try.f7 false true false false) :=
  law_row (C := Try.checked) (tab := tab) (tb := 4) (by kernel_rfl) started (by kernel_rfl) Try.func7
    (ChangeSpec.witness6 (enc := enc) (C := Try.checked) false ⟨#[], #[.slice none 0 0, .slice none 0 0], []⟩ 8 (by kernel_rfl) (by kernel_rfl) (by kernel_rfl) (by kernel_rfl))
    (by kernel_rfl) (by kernel_rfl) (by kernel_rfl) (by kernel_rfl) rfl (by kernel_rfl) Try.underlying4
    (fun ds h => by
      match ds, h with
      | [d0, d1], _ => exact ⟨rfl, rfl, rfl⟩)
    tabOk ok_L_FnMerged (by kernel_rfl) (fun x h => ⟨(), law_Merged x.1 x.2.1 h.1 h.2.1⟩)

theorem fnMerged_over : Rows.fnMergedRow.holds Try.pinned (OpenSpec.ofChange Rows.fnMergedSpec) :=
  OpenClaim.holds_of_wide 7 Try.f7 rfl rfl rfl rfl rfl rfl rfl ⟨rfl, rfl, rfl, rfl, rfl⟩ rfl rfl rfl rfl rfl (by kernel_rfl) Try.func7 (by kernel_rfl)
    (of_decide_eq_true (by kernel_rfl)) (by unfold Func.isWrapper; first | (rw [if_pos (by decide +kernel)]; kernel_rfl) | (rw [if_neg (by decide +kernel)]; exact ⟨rfl, rfl⟩))
    (fun os started H enc _ => fnMerged_lifted os started H enc)

theorem fnMerged_holds : Rows.FnMergedSaid := fnMerged_over

#print axioms fnMerged_holds
end Go.Proofs.Ytifjjdpgheoogaa
