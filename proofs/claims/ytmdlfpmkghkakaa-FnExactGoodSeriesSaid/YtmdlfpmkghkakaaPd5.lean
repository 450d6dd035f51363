/- The law FnExactGoodSeries returns true for every input and leaves its argument as it was; no condition. -/
import Derived.Test.YtmdlfpmkghkakaaPl5
import Derived.Test.YtmdlfpmkghkakaaRows
import Derived.Test.YtmdlfpmkghkakaaFc
namespace Go.Proofs.Ytmdlfpmkghkakaa
open Go.ChangeShapes Go.WideShapes Go.ChangeAt Go.RowKit Go.Dn R
set_option linter.unusedVariables false

set_option maxRecDepth 100000 in
theorem fnExactGoodSeries_lifted (os : Os) (started : os.Started) (H : Type) (enc : TypeId × Value → H) :
    ReturnsInHanded {} Try.checked os 9 .any (Rows.fnExactGoodSeriesSpec.pre6 enc Try.prog Try.f9 Rows.fnExactGoodSeriesRow.domain false) (Rows.fnExactGoodSeriesSpec.post enc Try.prog Try.f9 false true false false) :=
  law_row (C := Try.checked) (tab := tab) (tb := 4) (by kernel_rfl) started (by kernel_rfl) Try.func9
    (ChangeSpec.witness6 (enc := enc) (C := Try.checked) false ⟨#[], #[.agg #[.slice none 0 0, .slice none 0 0]], []⟩ 8 (by kernel_rfl) (by kernel_rfl) (by kernel_rfl) (by kernel_rfl))
    (by kernel_rfl) (by kernel_rfl) (by kernel_rfl) (by kernel_rfl) rfl (by kernel_rfl) Try.underlying4
    (fun ds h => by
      match ds, h with
      | [d0], _ => exact ⟨rfl, rfl, rfl⟩)
    tabOk ok_L_FnExactGoodSeries (by kernel_rfl) (fun x h => ⟨(), law_GoodSeries x.1 h.1⟩)

theorem fnExactGoodSeries_over : Rows.fnExactGoodSeriesRow.holds Try.pinned (OpenSpec.ofChange Rows.fnExactGoodSeriesSpec) :=
  OpenClaim.holds_of_wide 9 Try.f9 rfl rfl rfl rfl rfl rfl rfl ⟨rfl, rfl, rfl, rfl, rfl⟩ rfl rfl rfl rfl rfl (by kernel_rfl) Try.func9 (by kernel_rfl)
    (of_decide_eq_true (by kernel_rfl)) (by unfold Func.isWrapper; first | (rw [if_pos (by decide +kernel)]; kernel_rfl) | (rw [if_neg (by decide +kernel)]; exact ⟨rfl, rfl⟩))
    (fun os started H enc _ => fnExactGoodSeries_lifted os started H enc)

theorem fnExactGoodSeries_holds : Rows.FnExactGoodSeriesSaid := fnExactGoodSeries_over

#print axioms fnExactGoodSeries_holds
end Go.Proofs.Ytmdlfpmkghkakaa
