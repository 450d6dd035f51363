/- MarkedText: the law answers true at every call. -/
import Derived.Test.YthcnbokoghjkjaaQPo281
import Derived.Test.YthcnbokoghjkjaaRows
import Derived.Test.YthcnbokoghjkjaaL3
namespace Go.Proofs.Ythcnbokoghjkjaa
open Go.ChangeShapes Go.WideShapes Go.ChangeAt Go.RowKit Go.Dn R
set_option linter.unusedVariables false

set_option maxRecDepth 100000 in
theorem fnExactMarkedText_lifted (os : Os) (started : os.Started) (H : Type) (enc : TypeId × Value → H) :
    ReturnsInHanded {} Try.checked os 11 .any (Rows.fnExactMarkedTextSpec.pre6 enc Try.prog Try.f11 Rows.fnExactMarkedTextRow.domain false) (Rows.fnExactMarkedTextSpec.post enc Try.prog Try.f11 false true false false) :=
  law_row (C := Try.checked) (tab := tab) (tb := 4) (by kernel_rfl) started (by kernel_rfl) Try.func11
    (ChangeSpec.witness6 (enc := enc) (C := Try.checked) false ⟨#[], #[.slice none 0 0, .slice none 0 0, .slice none 0 0], []⟩ 8 (by kernel_rfl) (by kernel_rfl) (by kernel_rfl) (by kernel_rfl))
    (by kernel_rfl) (by kernel_rfl) (by kernel_rfl) (by kernel_rfl) rfl (by kernel_rfl) Try.underlying4
    (fun ds h => by
      match ds, h with
      | [d0, d1, d2], _ => exact ⟨rfl, rfl, rfl⟩)
    tabOk ok_L_FnExactMarkedText (by kernel_rfl) (fun x h => ⟨(), law_MarkedText x.1 x.2.1 x.2.2.1 h.1 h.2.1 h.2.2.1⟩)

theorem fnExactMarkedText_over : Rows.fnExactMarkedTextRow.holds Try.pinned (OpenSpec.ofChange Rows.fnExactMarkedTextSpec) :=
  OpenClaim.holds_of_wide 11 Try.f11 rfl rfl rfl rfl rfl rfl rfl ⟨rfl, rfl, rfl, rfl, rfl⟩ rfl rfl rfl rfl rfl (by kernel_rfl) Try.func11 (by kernel_rfl)
    (of_decide_eq_true (by kernel_rfl)) (by unfold Func.isWrapper; first | (rw [if_pos (by decide +kernel)]; kernel_rfl) | (rw [if_neg (by decide +kernel)]; exact ⟨rfl, rfl⟩))
    (fun os started H enc _ => fnExactMarkedText_lifted os started H enc)

theorem fnExactMarkedText_holds : Rows.FnExactMarkedTextSaid := fnExactMarkedText_over

#print axioms fnExactMarkedText_holds
end Go.Proofs.Ythcnbokoghjkjaa
