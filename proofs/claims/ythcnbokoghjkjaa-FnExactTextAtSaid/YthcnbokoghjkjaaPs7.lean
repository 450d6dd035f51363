/- The law FnExactTextAt returns true for every input and leaves its arguments as they were; no condition. -/
import Derived.Test.YthcnbokoghjkjaaPs6
import Derived.Test.YthcnbokoghjkjaaRows
import Derived.Test.YthcnbokoghjkjaaFc
namespace Go.Proofs.Ythcnbokoghjkjaa
open Go.ChangeShapes Go.WideShapes Go.ChangeAt Go.RowKit Go.Dn R
set_option linter.unusedVariables false

set_option maxRecDepth 100000 in
theorem fnExactTextAt_lifted (os : Os) (started : os.Started) (H : Type) (enc : TypeId × Value → H) :
    ReturnsInHanded {} Try.checked os 5 .any (Rows.fnExactTextAtSpec.pre6 enc Try.prog Try.f5 Rows.fnExactTextAtRow.domain false) (Rows.fnExactTextAtSpec.post enc Try.prog Try.f5 false true false false) :=
  law_row (C := Try.checked) (tab := tab) (tb := 4) (by kernel_rfl) started (by kernel_rfl) Try.func5
    (ChangeSpec.witness6 (enc := enc) (C := Try.checked) false ⟨#[], #[.agg #[.slice none 0 0, .slice none 0 0], .int .i64 0], []⟩ 8 (by kernel_rfl) (by kernel_rfl) (by kernel_rfl) (by kernel_rfl))
    (by kernel_rfl) (by kernel_rfl) (by kernel_rfl) (by kernel_rfl) rfl (by kernel_rfl) Try.underlying4
    (fun ds h => by
      match ds, h with
      | [d0, d1], _ => exact ⟨rfl, rfl, rfl⟩)
    tabOk ok_L_FnExactTextAt (by kernel_rfl) (fun x h => ⟨(), law_TextAt x.1 x.2.1 h.1 h.2.1⟩)

theorem fnExactTextAt_over : Rows.fnExactTextAtRow.holds Try.pinned (OpenSpec.ofChange Rows.fnExactTextAtSpec) :=
  OpenClaim.holds_of_wide 5 Try.f5 rfl rfl rfl rfl rfl rfl rfl ⟨rfl, rfl, rfl, rfl, rfl⟩ rfl rfl rfl rfl rfl (by kernel_rfl) Try.func5 (by kernel_rfl)
    (of_decide_eq_true (by kernel_rfl)) (by unfold Func.isWrapper; first | (rw [if_pos (by decide +kernel)]; kernel_rfl) | (rw [if_neg (by decide +kernel)]; exact ⟨rfl, rfl⟩))
    (fun os started H enc _ => fnExactTextAt_lifted os started H enc)

theorem fnExactTextAt_holds : Rows.FnExactTextAtSaid := fnExactTextAt_over

#print axioms fnExactTextAt_holds
end Go.Proofs.Ythcnbokoghjkjaa
