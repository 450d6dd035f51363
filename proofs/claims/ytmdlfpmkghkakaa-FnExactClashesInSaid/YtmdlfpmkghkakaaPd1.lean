/- The law FnExactClashesIn returns true for every input and leaves its argument as it was; no condition. -/
import Derived.Test.YtmdlfpmkghkakaaPc1
import Derived.Test.YtmdlfpmkghkakaaRows
import Derived.Test.YtmdlfpmkghkakaaFc
namespace Go.Proofs.Ytmdlfpmkghkakaa
open Go.ChangeShapes Go.WideShapes Go.ChangeAt Go.RowKit Go.Dn R1
set_option linter.unusedVariables false

set_option maxRecDepth 100000 in
theorem fnExactClashesIn_lifted (os : Os) (started : os.Started) (H : Type) (enc : TypeId × Value → H) :
    ReturnsInHanded {} Try.checked os 3 .any (Rows.fnExactClashesInSpec.pre6 enc Try.prog Try.f3 Rows.fnExactClashesInRow.domain false) (Rows.fnExactClashesInSpec.post enc Try.prog Try.f3 false true false false) :=
  law_row (C := Try.checked) (tab := tab) (tb := 4) (by kernel_rfl) started (by kernel_rfl) Try.func3
    (ChangeSpec.witness6 (enc := enc) (C := Try.checked) false ⟨#[], #[.slice none 0 0], []⟩ 8 (by kernel_rfl) (by kernel_rfl) (by kernel_rfl) (by kernel_rfl))
    (by kernel_rfl) (by kernel_rfl) (by kernel_rfl) (by kernel_rfl) rfl (by kernel_rfl) Try.underlying4
    (fun ds h => by
      match ds, h with
      | [d0], _ => exact ⟨rfl, rfl, rfl⟩)
    tabOk ok_L_FnExactClashesIn (by kernel_rfl) (fun x h => ⟨(), law x.1 h.1⟩)

theorem fnExactClashesIn_over : Rows.fnExactClashesInRow.holds Try.pinned (OpenSpec.ofChange Rows.fnExactClashesInSpec) :=
  OpenClaim.holds_of_wide 3 Try.f3 rfl rfl rfl rfl rfl rfl rfl ⟨rfl, rfl, rfl, rfl, rfl⟩ rfl rfl rfl rfl rfl (by kernel_rfl) Try.func3 (by kernel_rfl)
    (of_decide_eq_true (by kernel_rfl)) (by unfold Func.isWrapper; first | (rw [if_pos (by decide +kernel)]; kernel_rfl) | (rw [if_neg (by decide +kernel)]; exact ⟨rfl, rfl⟩))
    (fun os started H enc _ => fnExactClashesIn_lifted os started H enc)

theorem fnExactClashesIn_holds : Rows.FnExactClashesInSaid := fnExactClashesIn_over

#print axioms fnExactClashesIn_holds
end Go.Proofs.Ytmdlfpmkghkakaa
