/- Groups are read back from their text all in one, and nothing else but ranges told longer is, for drawn groups and texts: for all arguments, without further conditions. -/
import Derived.Test.YtmkcdiobiphkhaaGreatDoorQd5
import Derived.SevenTiedAt
namespace Go.Proofs.YtmkcdiobiphkhaaGreatDoor
open Go Go.ChangeShapes Go.WideShapes Go.ChangeAt Go.RowKit Go.Dn R
set_option linter.unusedVariables false
theorem and_both {a b : Bool} (h1 : a = true) (h2 : b = true) : (a && b) = true := by rw [h1, h2]; rfl
theorem jf_1 : (Rows.fnUnifiedRow.wf (OpenSpec.ofChange Rows.fnUnifiedSpec)) = true := by kernel_rfl
theorem jf_2 : (laidOutB Tryz.pinned.checked.prog) = true := by kernel_rfl
theorem jf_3 : (mapsRowed Tryz.pinned.checked.prog) = true := by kernel_rfl
theorem jf_4 : (Tryz.f3.params.all (Tryz.pinned.checked.prog.readableRec ·)) = true := by kernel_rfl
theorem jf_5 : (namedTie Tryz.pinned.checked.prog Rows.fnUnifiedRow.named Rows.fnUnifiedSpec.vars) = true := by kernel_rfl
theorem jf_6 : (Rows.fnUnifiedRow.stops == []) = true := by kernel_rfl
theorem jf_7 : (Tryz.pinned.checked.prog.stops == []) = true := by kernel_rfl
theorem jf_8 : (Rows.fnUnifiedRow.knobs == []) = true := by kernel_rfl
theorem jf_9 : (Tryz.pinned.checked.prog.stopKnobs == []) = true := by kernel_rfl
theorem jf_10 : (Rows.fnUnifiedRow.inPlace == Tryz.pinned.checked.prog.inPlace 3) = true := by kernel_rfl
theorem jf_11 : (Rows.fnUnifiedRow.unfollowed == Tryz.pinned.checked.prog.unfollowed 3) = true := by kernel_rfl
theorem jf_12 : (Rows.fnUnifiedRow.recurses == Tryz.pinned.checked.prog.recurses 3) = true := by kernel_rfl
theorem jf_13 : (Rows.fnUnifiedRow.named == Tryz.pinned.checked.prog.varsNamed 3) = true := by kernel_rfl
theorem jf_14 : (Rows.fnUnifiedRow.maps == (Tryz.f3.params.toList ++ Rows.fnUnifiedSpec.plain.varTypes Tryz.pinned.checked.prog).any (Tryz.pinned.checked.prog.mapsRec ·)) = true := by kernel_rfl
theorem jf_15 : (Rows.fnUnifiedRow.ifaces == (Tryz.f3.params.toList ++ Rows.fnUnifiedSpec.plain.varTypes Tryz.pinned.checked.prog).any (Tryz.pinned.checked.prog.ifacesRec ·)) = true := by kernel_rfl
theorem jf_16 : (Rows.fnUnifiedRow.mapsOut == Tryz.pinned.checked.prog.mapsAmong Tryz.f3.resultTypes.toList) = true := by kernel_rfl
theorem jf_17 : (Rows.fnUnifiedRow.loops == (Tryz.f3.params.toList ++ Rows.fnUnifiedSpec.plain.varTypes Tryz.pinned.checked.prog).any (Tryz.pinned.checked.prog.loopsFrom ·)) = true := by kernel_rfl
theorem jf_18 : (Rows.fnUnifiedRow.wideKeys == (Tryz.f3.params.toList ++ Rows.fnUnifiedSpec.plain.varTypes Tryz.pinned.checked.prog ++ Tryz.f3.resultTypes.toList).any (Tryz.pinned.checked.prog.wideKeysFrom ·)) = true := by kernel_rfl
theorem jf_19 : (Rows.fnUnifiedSpec.vars.all (Tryz.pinned.checked.prog.varReadable ·)) = true := by kernel_rfl
theorem jf_20 : (Tryz.f3.resultTypes.all (fun t => Tryz.pinned.checked.prog.readableRec t && decide (t < Tryz.pinned.checked.prog.types.size))) = true := by kernel_rfl
theorem jf_21 : (Rows.fnUnifiedRow.ifacesOut == Tryz.f3.resultTypes.toList.any (Tryz.pinned.checked.prog.ifacesRec ·)) = true := by kernel_rfl
theorem jf_22 : (Rows.fnUnifiedRow.loopsOut == Tryz.f3.resultTypes.toList.any (Tryz.pinned.checked.prog.loopsFrom ·)) = true := by kernel_rfl
theorem jf_23 : (Rows.fnUnifiedRow.plainKeys == Tryz.pinned.checked.prog.plainKeys) = true := by kernel_rfl
theorem jf_24 : (Rows.fnUnifiedRow.shortTexts.isNone) = true := by kernel_rfl
theorem jf_25 : (Tryz.pinned.checked.prog.stopsHeard) = true := by kernel_rfl
theorem jf_26 : (Tryz.pinned.checked.prog.mayEnter) = true := by kernel_rfl
theorem jf_27 : (Rows.fnUnifiedRow.lifted == Tryz.pinned.checked.prog.liftsFinal) = true := by kernel_rfl
theorem jf_28 : (Tryz.pinned.checked.prog.make == some Rows.fnUnifiedRow.make) = true := by kernel_rfl
theorem jf_30 : (Rows.fnUnifiedRow.pinned == Rows.fnUnifiedRow.pinnedBy) = true := by kernel_rfl
theorem jf_31 : (Rows.fnUnifiedRow.veiled == (Tryz.f3.params.toList ++ Rows.fnUnifiedSpec.plain.varTypes Tryz.pinned.checked.prog ++ Tryz.f3.resultTypes.toList).any (Tryz.pinned.checked.prog.veiledRec ·)) = true := by kernel_rfl
theorem jf_32 : (Rows.fnUnifiedRow.veiledFits Tryz.pinned.checked.prog Tryz.f3.params.toList (Tryz.f3.params.toList ++ Rows.fnUnifiedSpec.plain.varTypes Tryz.pinned.checked.prog ++ Tryz.f3.resultTypes.toList)) = true := by kernel_rfl
theorem jf_all : joinedFacts Tryz.pinned.checked.prog 3 Tryz.f3 Rows.fnUnifiedSpec Rows.fnUnifiedRow = true := by
  unfold joinedFacts
  exact and_both (and_both (and_both (and_both (and_both (and_both (and_both (and_both (and_both (and_both (and_both (and_both (and_both (and_both (and_both (and_both (and_both (and_both (and_both (and_both (and_both (and_both (and_both (and_both (and_both (and_both (and_both (and_both (and_both (and_both (and_both jf_1 jf_2) jf_3) jf_4) jf_5) jf_6) jf_7) jf_8) jf_9) jf_10) jf_11) jf_12) jf_13) jf_14) jf_15) jf_16) jf_17) jf_18) jf_19) jf_20) jf_21) jf_22) jf_23) jf_24) jf_25) jf_26) jf_27) jf_28) (by kernel_rfl)) jf_30) jf_31) jf_32

theorem fnUnified_over : Rows.fnUnifiedRow.holds Tryz.pinned (OpenSpec.ofChange Rows.fnUnifiedSpec) :=
  OpenClaim.holds_of_wide 3 Tryz.f3 rfl rfl rfl rfl rfl rfl rfl ⟨rfl, rfl, rfl, rfl, rfl⟩ rfl rfl rfl rfl rfl (by kernel_rfl) Tryz.func3 jf_all
    (of_decide_eq_true (by kernel_rfl)) (by unfold Func.isWrapper; first | (rw [if_pos (by decide +kernel)]; kernel_rfl) | (rw [if_neg (by decide +kernel)]; exact ⟨rfl, rfl⟩))
    (fun os started H enc _ => fnUnified_lifted os started H enc)
end Go.Proofs.YtmkcdiobiphkhaaGreatDoor
