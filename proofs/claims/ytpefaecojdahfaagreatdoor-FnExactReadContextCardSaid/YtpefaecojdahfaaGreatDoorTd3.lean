/- FnExactReadContext: the program's ReadContext answers as the reference's, for all arguments; the tied card. -/
import Derived.Test.YtpefaecojdahfaaGreatDoorTd2
import Derived.SevenTiedAt
namespace Go.Proofs.YtpefaecojdahfaaGreatDoor
open Go Go.ChangeShapes Go.WideShapes Go.ChangeAt Go.RowKit Go.Dn R
set_option linter.unusedVariables false
theorem and_both {a b : Bool} (h1 : a = true) (h2 : b = true) : (a && b) = true := by rw [h1, h2]; rfl
theorem jf_1 : (Rows.fnExactReadContextRow.wf (OpenSpec.ofChange Rows.fnExactReadContextSpec)) = true := by kernel_rfl
theorem jf_2 : (laidOutB Tryz.pinned.checked.prog) = true := by kernel_rfl
theorem jf_3 : (mapsRowed Tryz.pinned.checked.prog) = true := by kernel_rfl
theorem jf_4 : (Tryz.f4.params.all (Tryz.pinned.checked.prog.readableRec ·)) = true := by kernel_rfl
theorem jf_5 : (namedTie Tryz.pinned.checked.prog Rows.fnExactReadContextRow.named Rows.fnExactReadContextSpec.vars) = true := by kernel_rfl
theorem jf_6 : (Rows.fnExactReadContextRow.stops == []) = true := by kernel_rfl
theorem jf_7 : (Tryz.pinned.checked.prog.stops == []) = true := by kernel_rfl
theorem jf_8 : (Rows.fnExactReadContextRow.knobs == []) = true := by kernel_rfl
theorem jf_9 : (Tryz.pinned.checked.prog.stopKnobs == []) = true := by kernel_rfl
theorem jf_10 : (Rows.fnExactReadContextRow.inPlace == Tryz.pinned.checked.prog.inPlace 4) = true := by kernel_rfl
theorem jf_11 : (Rows.fnExactReadContextRow.unfollowed == Tryz.pinned.checked.prog.unfollowed 4) = true := by kernel_rfl
theorem jf_12 : (Rows.fnExactReadContextRow.recurses == Tryz.pinned.checked.prog.recurses 4) = true := by kernel_rfl
theorem jf_13 : (Rows.fnExactReadContextRow.named == Tryz.pinned.checked.prog.varsNamed 4) = true := by kernel_rfl
theorem jf_14 : (Rows.fnExactReadContextRow.maps == (Tryz.f4.params.toList ++ Rows.fnExactReadContextSpec.plain.varTypes Tryz.pinned.checked.prog).any (Tryz.pinned.checked.prog.mapsRec ·)) = true := by kernel_rfl
theorem jf_15 : (Rows.fnExactReadContextRow.ifaces == (Tryz.f4.params.toList ++ Rows.fnExactReadContextSpec.plain.varTypes Tryz.pinned.checked.prog).any (Tryz.pinned.checked.prog.ifacesRec ·)) = true := by kernel_rfl
theorem jf_16 : (Rows.fnExactReadContextRow.mapsOut == Tryz.pinned.checked.prog.mapsAmong Tryz.f4.resultTypes.toList) = true := by kernel_rfl
theorem jf_17 : (Rows.fnExactReadContextRow.loops == (Tryz.f4.params.toList ++ Rows.fnExactReadContextSpec.plain.varTypes Tryz.pinned.checked.prog).any (Tryz.pinned.checked.prog.loopsFrom ·)) = true := by kernel_rfl
theorem jf_18 : (Rows.fnExactReadContextRow.wideKeys == (Tryz.f4.params.toList ++ Rows.fnExactReadContextSpec.plain.varTypes Tryz.pinned.checked.prog ++ Tryz.f4.resultTypes.toList).any (Tryz.pinned.checked.prog.wideKeysFrom ·)) = true := by kernel_rfl
theorem jf_19 : (Rows.fnExactReadContextSpec.vars.all (Tryz.pinned.checked.prog.varReadable ·)) = true := by kernel_rfl
theorem jf_20 : (Tryz.f4.resultTypes.all (fun t => Tryz.pinned.checked.prog.readableRec t && decide (t < Tryz.pinned.checked.prog.types.size))) = true := by kernel_rfl
theorem jf_21 : (Rows.fnExactReadContextRow.ifacesOut == Tryz.f4.resultTypes.toList.any (Tryz.pinned.checked.prog.ifacesRec ·)) = true := by kernel_rfl
theorem jf_22 : (Rows.fnExactReadContextRow.loopsOut == Tryz.f4.resultTypes.toList.any (Tryz.pinned.checked.prog.loopsFrom ·)) = true := by kernel_rfl
theorem jf_23 : (Rows.fnExactReadContextRow.plainKeys == Tryz.pinned.checked.prog.plainKeys) = true := by kernel_rfl
theorem jf_24 : (Rows.fnExactReadContextRow.shortTexts.isNone) = true := by kernel_rfl
theorem jf_25 : (Tryz.pinned.checked.prog.stopsHeard) = true := by kernel_rfl
theorem jf_26 : (Tryz.pinned.checked.prog.mayEnter) = true := by kernel_rfl
theorem jf_27 : (Rows.fnExactReadContextRow.lifted == Tryz.pinned.checked.prog.liftsFinal) = true := by kernel_rfl
theorem jf_28 : (Tryz.pinned.checked.prog.make == some Rows.fnExactReadContextRow.make) = true := by kernel_rfl
theorem jf_30 : (Rows.fnExactReadContextRow.pinned == Rows.fnExactReadContextRow.pinnedBy) = true := by kernel_rfl
theorem jf_31 : (Rows.fnExactReadContextRow.veiled == (Tryz.f4.params.toList ++ Rows.fnExactReadContextSpec.plain.varTypes Tryz.pinned.checked.prog ++ Tryz.f4.resultTypes.toList).any (Tryz.pinned.checked.prog.veiledRec ·)) = true := by kernel_rfl
theorem jf_32 : (Rows.fnExactReadContextRow.veiledFits Tryz.pinned.checked.prog Tryz.f4.params.toList (Tryz.f4.params.toList ++ Rows.fnExactReadContextSpec.plain.varTypes Tryz.pinned.checked.prog ++ Tryz.f4.resultTypes.toList)) = true := by kernel_rfl
theorem jf_all : joinedFacts Tryz.pinned.checked.prog 4 Tryz.f4 Rows.fnExactReadContextSpec Rows.fnExactReadContextRow = true := by
  unfold joinedFacts
  exact and_both (and_both (and_both (and_both (and_both (and_both (and_both (and_both (and_both (and_both (and_both (and_both (and_both (and_both (and_both (and_both (and_both (and_both (and_both (and_both (and_both (and_both (and_both (and_both (and_both (and_both (and_both (and_both (and_both (and_both (and_both jf_1 jf_2) jf_3) jf_4) jf_5) jf_6) jf_7) jf_8) jf_9) jf_10) jf_11) jf_12) jf_13) jf_14) jf_15) jf_16) jf_17) jf_18) jf_19) jf_20) jf_21) jf_22) jf_23) jf_24) jf_25) jf_26) jf_27) jf_28) (by kernel_rfl)) jf_30) jf_31) jf_32

theorem fnExactReadContext_over : Rows.fnExactReadContextRow.holds Tryz.pinned (OpenSpec.ofChange Rows.fnExactReadContextSpec) :=
  OpenClaim.holds_of_wide 4 Tryz.f4 rfl rfl rfl rfl rfl rfl rfl ⟨rfl, rfl, rfl, rfl, rfl⟩ rfl rfl rfl rfl rfl (by kernel_rfl) Tryz.func4 jf_all
    (of_decide_eq_true (by kernel_rfl)) (by unfold Func.isWrapper; first | (rw [if_pos (by decide +kernel)]; kernel_rfl) | (rw [if_neg (by decide +kernel)]; exact ⟨rfl, rfl⟩))
    (fun os started H enc _ => fnExactReadContext_lifted os started H enc)
end Go.Proofs.YtpefaecojdahfaaGreatDoor
