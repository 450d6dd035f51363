/- TillOf: the program's and the reference's answer the same. -/
import Derived.Test.YthcnbokoghjkjaaPv15
import Derived.Test.YthcnbokoghjkjaaRows
import Derived.Test.YthcnbokoghjkjaaFc
namespace Go.Proofs.Ythcnbokoghjkjaa
open Go.ChangeShapes Go.WideShapes Go.ChangeAt Go.RowKit Go.Dn R
set_option linter.unusedVariables false

set_option maxRecDepth 100000 in
theorem fnExactTillOf_lifted (os : Os) (started : os.Started) (H : Type) (enc : TypeId × Value → H) :
    ReturnsInHanded {} Try.checked os 7 .any (Rows.fnExactTillOfSpec.pre6 enc Try.prog Try.f7 Rows.fnExactTillOfRow.domain false) (Rows.fnExactTillOfSpec.post enc Try.prog Try.f7 false true false false) :=
  law_row (C := Try.checked) (tab := tab) (tb := 4) (by kernel_rfl) started (by kernel_rfl) Try.func7
    (ChangeSpec.witness6 (enc := enc) (C := Try.checked) false ⟨#[], #[.slice none 0 0], []⟩ 8 (by kernel_rfl) (by kernel_rfl) (by kernel_rfl) (by kernel_rfl))
    (by kernel_rfl) (by kernel_rfl) (by kernel_rfl) (by kernel_rfl) rfl (by kernel_rfl) Try.underlying4
    (fun ds h => by
      match ds, h with
      | [d0], _ => exact ⟨rfl, rfl, rfl⟩)
    tabOk ok_L_FnExactTillOf (by kernel_rfl) (fun x h => ⟨(), law_TillOf x.1 h.1⟩)

theorem fnExactTillOf_over : Rows.fnExactTillOfRow.holds Try.pinned (OpenSpec.ofChange Rows.fnExactTillOfSpec) :=
  OpenClaim.holds_of_wide 7 Try.f7 rfl rfl rfl rfl rfl rfl rfl ⟨rfl, rfl, rfl, rfl, rfl⟩ rfl rfl rfl rfl rfl (by kernel_rfl) Try.func7 (by kernel_rfl)
    (of_decide_eq_true (by kernel_rfl)) (by unfold Func.isWrapper; first | (rw [if_pos (by decide +kernel)]; kernel_rfl) | (rw [if_neg (by decide +kernel)]; exact ⟨rfl, rfl⟩))
    (fun os started H enc _ => fnExactTillOf_lifted os started H enc)

theorem fnExactTillOf_holds : Rows.FnExactTillOfSaid := fnExactTillOf_over

#print axioms fnExactTillOf_holds
end Go.Proofs.Ythcnbokoghjkjaa
