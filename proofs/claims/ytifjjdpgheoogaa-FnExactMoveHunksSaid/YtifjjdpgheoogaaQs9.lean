/- MoveHunks: the law answers true at every call. -/
import Derived.Test.YtifjjdpgheoogaaQQs91
import Derived.Test.YtifjjdpgheoogaaRows
import Derived.Test.YtifjjdpgheoogaaL3
namespace Go.Proofs.Ytifjjdpgheoogaa
open Go.ChangeShapes Go.WideShapes Go.ChangeAt Go.RowKit Go.Dn R
set_option linter.unusedVariables false

set_option maxRecDepth 100000 in
theorem fnExactMoveHunks_lifted (os : Os) (started : os.Started) (H : Type) (enc : TypeId × Value → H) :
    ReturnsInHanded {} Try.checked os 3 .any (Rows.fnExactMoveHunksSpec.pre6 enc Try.prog Try.f3 Rows.fnExactMoveHunksRow.domain false) (Rows.fnExactMoveHunksSpec.post enc Try.prog Try.f3 false true false false) :=
  law_row (C := Try.checked) (tab := tab) (tb := 4) (by kernel_rfl) started (by kernel_rfl) Try.func3
    (ChangeSpec.witness6 (enc := enc) (C := Try.checked) false ⟨#[], #[.slice none 0 0, .slice none 0 0, .slice none 0 0], []⟩ 8 (by kernel_rfl) (by kernel_rfl) (by kernel_rfl) (by kernel_rfl))
    (by kernel_rfl) (by kernel_rfl) (by kernel_rfl) (by kernel_rfl) rfl (by kernel_rfl) Try.underlying4
    (fun ds h => by
      match ds, h with
      | [d0, d1, d2], _ => exact ⟨rfl, rfl, rfl⟩)
    tabOk ok_L_FnExactMoveHunks (by kernel_rfl) (fun x h => ⟨(), law_MoveHunks x.1 x.2.1 x.2.2.1 h.1 h.2.1 h.2.2.1⟩)

theorem fnExactMoveHunks_over : Rows.fnExactMoveHunksRow.holds Try.pinned (OpenSpec.ofChange Rows.fnExactMoveHunksSpec) :=
  OpenClaim.holds_of_wide 3 Try.f3 rfl rfl rfl rfl rfl rfl rfl ⟨rfl, rfl, rfl, rfl, rfl⟩ rfl rfl rfl rfl rfl (by kernel_rfl) Try.func3 (by kernel_rfl)
    (of_decide_eq_true (by kernel_rfl)) (by unfold Func.isWrapper; first | (rw [if_pos (by decide +kernel)]; kernel_rfl) | (rw [if_neg (by decide +kernel)]; exact ⟨rfl, rfl⟩))
    (fun os started H enc _ => fnExactMoveHunks_lifted os started H enc)

theorem fnExactMoveHunks_holds : Rows.FnExactMoveHunksSaid := fnExactMoveHunks_over

#print axioms fnExactMoveHunks_holds
end Go.Proofs.Ytifjjdpgheoogaa
