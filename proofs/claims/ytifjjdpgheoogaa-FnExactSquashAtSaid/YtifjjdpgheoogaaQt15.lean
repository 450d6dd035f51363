/- SquashAt: the law answers true at every call. -/
import Derived.Test.YtifjjdpgheoogaaQQt151
import Derived.Test.YtifjjdpgheoogaaRows
import Derived.Test.YtifjjdpgheoogaaL3
namespace Go.Proofs.Ytifjjdpgheoogaa
open Go.ChangeShapes Go.WideShapes Go.ChangeAt Go.RowKit Go.Dn R
set_option linter.unusedVariables false

set_option maxRecDepth 100000 in
theorem fnExactSquashAt_lifted (os : Os) (started : os.Started) (H : Type) (enc : TypeId × Value → H) :
    ReturnsInHanded {} Try.checked os 8 .any (Rows.fnExactSquashAtSpec.pre6 enc Try.prog Try.f8 Rows.fnExactSquashAtRow.domain false) (Rows.fnExactSquashAtSpec.post enc Try.prog Try.f8 false true false false) :=
  law_row (C := Try.checked) (tab := tab) (tb := 4) (by kernel_rfl) started (by kernel_rfl) Try.func8
    (ChangeSpec.witness6 (enc := enc) (C := Try.checked) false ⟨#[], #[.agg #[.slice none 0 0, .slice none 0 0], .int .i64 0], []⟩ 8 (by kernel_rfl) (by kernel_rfl) (by kernel_rfl) (by kernel_rfl))
    (by kernel_rfl) (by kernel_rfl) (by kernel_rfl) (by kernel_rfl) rfl (by kernel_rfl) Try.underlying4
    (fun ds h => by
      match ds, h with
      | [d0, d1], _ => exact ⟨rfl, rfl, rfl⟩)
    tabOk ok_L_FnExactSquashAt (by kernel_rfl) (fun x h => ⟨(), law_SquashAt x.1 x.2.1 h.1 h.2.1⟩)

theorem fnExactSquashAt_over : Rows.fnExactSquashAtRow.holds Try.pinned (OpenSpec.ofChange Rows.fnExactSquashAtSpec) :=
  OpenClaim.holds_of_wide 8 Try.f8 rfl rfl rfl rfl rfl rfl rfl ⟨rfl, rfl, rfl, rfl, rfl⟩ rfl rfl rfl rfl rfl (by kernel_rfl) Try.func8 (by kernel_rfl)
    (of_decide_eq_true (by kernel_rfl)) (by unfold Func.isWrapper; first | (rw [if_pos (by decide +kernel)]; kernel_rfl) | (rw [if_neg (by decide +kernel)]; exact ⟨rfl, rfl⟩))
    (fun os started H enc _ => fnExactSquashAt_lifted os started H enc)

theorem fnExactSquashAt_holds : Rows.FnExactSquashAtSaid := fnExactSquashAt_over

#print axioms fnExactSquashAt_holds
end Go.Proofs.Ytifjjdpgheoogaa
