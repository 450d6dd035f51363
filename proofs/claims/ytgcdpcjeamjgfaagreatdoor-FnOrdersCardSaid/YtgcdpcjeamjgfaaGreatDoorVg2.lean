/- Orders are read back from their text, and nothing else is, for drawn orders and texts. -/
import Derived.Test.YtgcdpcjeamjgfaaGreatDoorVg1
import Derived.SevenTiedAt
namespace Go.Proofs.YtgcdpcjeamjgfaaGreatDoor
open Go Go.ChangeShapes Go.WideShapes Go.ChangeAt Go.RowKit Go.Dn R
set_option linter.unusedVariables false
theorem and_both {a b:Bool}(h1:a=true)(h2:b=true):(a&&b)=true:=by rw[h1,h2];rfl
theorem jf_1:(Rows.fnOrdersRow.wf (OpenSpec.ofChange Rows.fnOrdersSpec))=true:=by kernel_rfl
theorem jf_2:(laidOutB Tryz.pinned.checked.prog)=true:=by kernel_rfl
theorem jf_3:(mapsRowed Tryz.pinned.checked.prog)=true:=by kernel_rfl
theorem jf_4:(Tryz.f4.params.all (Tryz.pinned.checked.prog.readableRec ·))=true:=by kernel_rfl
theorem jf_5:(namedTie Tryz.pinned.checked.prog Rows.fnOrdersRow.named Rows.fnOrdersSpec.vars)=true:=by kernel_rfl
theorem jf_6:(Rows.fnOrdersRow.stops==[])=true:=by kernel_rfl
theorem jf_7:(Tryz.pinned.checked.prog.stops==[])=true:=by kernel_rfl
theorem jf_8:(Rows.fnOrdersRow.knobs==[])=true:=by kernel_rfl
theorem jf_9:(Tryz.pinned.checked.prog.stopKnobs==[])=true:=by kernel_rfl
theorem jf_10:(Rows.fnOrdersRow.inPlace==Tryz.pinned.checked.prog.inPlace 4)=true:=by kernel_rfl
theorem jf_11:(Rows.fnOrdersRow.unfollowed==Tryz.pinned.checked.prog.unfollowed 4)=true:=by kernel_rfl
theorem jf_12:(Rows.fnOrdersRow.recurses==Tryz.pinned.checked.prog.recurses 4)=true:=by kernel_rfl
theorem jf_13:(Rows.fnOrdersRow.named==Tryz.pinned.checked.prog.varsNamed 4)=true:=by kernel_rfl
theorem jf_14:(Rows.fnOrdersRow.maps==(Tryz.f4.params.toList++Rows.fnOrdersSpec.plain.varTypes Tryz.pinned.checked.prog).any (Tryz.pinned.checked.prog.mapsRec ·))=true:=by kernel_rfl
theorem jf_15:(Rows.fnOrdersRow.ifaces==(Tryz.f4.params.toList++Rows.fnOrdersSpec.plain.varTypes Tryz.pinned.checked.prog).any (Tryz.pinned.checked.prog.ifacesRec ·))=true:=by kernel_rfl
theorem jf_16:(Rows.fnOrdersRow.mapsOut==Tryz.pinned.checked.prog.mapsAmong Tryz.f4.resultTypes.toList)=true:=by kernel_rfl
theorem jf_17:(Rows.fnOrdersRow.loops==(Tryz.f4.params.toList++Rows.fnOrdersSpec.plain.varTypes Tryz.pinned.checked.prog).any (Tryz.pinned.checked.prog.loopsFrom ·))=true:=by kernel_rfl
theorem jf_18:(Rows.fnOrdersRow.wideKeys==(Tryz.f4.params.toList++Rows.fnOrdersSpec.plain.varTypes Tryz.pinned.checked.prog++Tryz.f4.resultTypes.toList).any (Tryz.pinned.checked.prog.wideKeysFrom ·))=true:=by kernel_rfl
theorem jf_19:(Rows.fnOrdersSpec.vars.all (Tryz.pinned.checked.prog.varReadable ·))=true:=by kernel_rfl
theorem jf_20:(Tryz.f4.resultTypes.all (fun t=>Tryz.pinned.checked.prog.readableRec t&&decide (t<Tryz.pinned.checked.prog.types.size)))=true:=by kernel_rfl
theorem jf_21:(Rows.fnOrdersRow.ifacesOut==Tryz.f4.resultTypes.toList.any (Tryz.pinned.checked.prog.ifacesRec ·))=true:=by kernel_rfl
theorem jf_22:(Rows.fnOrdersRow.loopsOut==Tryz.f4.resultTypes.toList.any (Tryz.pinned.checked.prog.loopsFrom ·))=true:=by kernel_rfl
theorem jf_23:(Rows.fnOrdersRow.plainKeys==Tryz.pinned.checked.prog.plainKeys)=true:=by kernel_rfl
theorem jf_24:(Rows.fnOrdersRow.shortTexts.isNone)=true:=by kernel_rfl
theorem jf_25:(Tryz.pinned.checked.prog.stopsHeard)=true:=by kernel_rfl
theorem jf_26:(Tryz.pinned.checked.prog.mayEnter)=true:=by kernel_rfl
theorem jf_27:(Rows.fnOrdersRow.lifted==Tryz.pinned.checked.prog.liftsFinal)=true:=by kernel_rfl
theorem jf_28:(Tryz.pinned.checked.prog.make==some Rows.fnOrdersRow.make)=true:=by kernel_rfl
theorem jf_30:(Rows.fnOrdersRow.pinned==Rows.fnOrdersRow.pinnedBy)=true:=by kernel_rfl
theorem jf_31:(Rows.fnOrdersRow.veiled==(Tryz.f4.params.toList++Rows.fnOrdersSpec.plain.varTypes Tryz.pinned.checked.prog++Tryz.f4.resultTypes.toList).any (Tryz.pinned.checked.prog.veiledRec ·))=true:=by kernel_rfl
theorem jf_32:(Rows.fnOrdersRow.veiledFits Tryz.pinned.checked.prog Tryz.f4.params.toList (Tryz.f4.params.toList++Rows.fnOrdersSpec.plain.varTypes Tryz.pinned.checked.prog++Tryz.f4.resultTypes.toList))=true:=by kernel_rfl
theorem jf_all:joinedFacts Tryz.pinned.checked.prog 4 Tryz.f4 Rows.fnOrdersSpec Rows.fnOrdersRow=true:=by
 unfold joinedFacts
 exact and_both (and_both (and_both (and_both (and_both (and_both (and_both (and_both (and_both (and_both (and_both (and_both (and_both (and_both (and_both (and_both (and_both (and_both (and_both (and_both (and_both (and_both (and_both (and_both (and_both (and_both (and_both (and_both (and_both (and_both (and_both jf_1 jf_2) jf_3) jf_4) jf_5) jf_6) jf_7) jf_8) jf_9) jf_10) jf_11) jf_12) jf_13) jf_14) jf_15) jf_16) jf_17) jf_18) jf_19) jf_20) jf_21) jf_22) jf_23) jf_24) jf_25) jf_26) jf_27) jf_28) (by kernel_rfl)) jf_30) jf_31) jf_32
theorem fnOrders_over:Rows.fnOrdersRow.holds Tryz.pinned (OpenSpec.ofChange Rows.fnOrdersSpec):=
 OpenClaim.holds_of_wide 4 Tryz.f4 rfl rfl rfl rfl rfl rfl rfl ⟨rfl,rfl,rfl,rfl,rfl⟩ rfl rfl rfl rfl rfl (by kernel_rfl) Tryz.func4 jf_all
  (of_decide_eq_true (by kernel_rfl)) (by unfold Func.isWrapper;first|(rw[if_pos (by decide+kernel)];kernel_rfl)|(rw[if_neg (by decide+kernel)];exact⟨rfl,rfl⟩))
  (fun os started H enc _=>fnOrders_lifted os started H enc)
end Go.Proofs.YtgcdpcjeamjgfaaGreatDoor
