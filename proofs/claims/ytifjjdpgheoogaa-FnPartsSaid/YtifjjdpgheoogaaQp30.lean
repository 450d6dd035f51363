/- Parts of three texts make each of them again, both sides alike when they are changed for one another, for drawn texts: for all arguments, without further conditions. -/
import Derived.Test.YtifjjdpgheoogaaQQp301
import Derived.Test.YtifjjdpgheoogaaRows
import Derived.Test.YtifjjdpgheoogaaL3
namespace Go.Proofs.Ytifjjdpgheoogaa
open Go.ChangeShapes Go.WideShapes Go.ChangeAt Go.RowKit Go.Dn R
set_option linter.unusedVariables false

set_option maxRecDepth 100000 in
theorem fnParts_lifted (os : Os) (started : os.Started) (H : Type) (enc : TypeId × Value → H) :
    ReturnsInHanded {} Try.checked os 6 .any (Rows.fnPartsSpec.pre6 enc Try.prog Try.f6 Rows.fnPartsRow.domain false) (Rows.fnPartsSpec.post enc Try.prog Try.f6 false true false false) :=
  law_row (C := Try.checked) (tab := tab) (tb := 4) (by kernel_rfl) started (by kernel_rfl) Try.func6
    (ChangeSpec.witness6 (enc := enc) (C := Try.checked) false ⟨#[], #[.slice none 0 0, .slice none 0 0], []⟩ 8 (by kernel_rfl) (by kernel_rfl) (by kernel_rfl) (by kernel_rfl))
    (by kernel_rfl) (by kernel_rfl) (by kernel_rfl) (by kernel_rfl) rfl (by kernel_rfl) Try.underlying4
    (fun ds h => by
      match ds, h with
      | [d0, d1], _ => exact ⟨rfl, rfl, rfl⟩)
    tabOk ok_L_FnParts (by kernel_rfl) (fun x h => ⟨(), law_Parts x.1 x.2.1 h.1 h.2.1⟩)

theorem fnParts_over : Rows.fnPartsRow.holds Try.pinned (OpenSpec.ofChange Rows.fnPartsSpec) :=
  OpenClaim.holds_of_wide 6 Try.f6 rfl rfl rfl rfl rfl rfl rfl ⟨rfl, rfl, rfl, rfl, rfl⟩ rfl rfl rfl rfl rfl (by kernel_rfl) Try.func6 (by kernel_rfl)
    (of_decide_eq_true (by kernel_rfl)) (by unfold Func.isWrapper; first | (rw [if_pos (by decide +kernel)]; kernel_rfl) | (rw [if_neg (by decide +kernel)]; exact ⟨rfl, rfl⟩))
    (fun os started H enc _ => fnParts_lifted os started H enc)

theorem fnParts_holds : Rows.FnPartsSaid := fnParts_over

#print axioms fnParts_holds
end Go.Proofs.Ytifjjdpgheoogaa
