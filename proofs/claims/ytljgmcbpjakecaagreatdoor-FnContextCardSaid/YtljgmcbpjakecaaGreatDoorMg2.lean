/- Groups are read back from their text side by side, and nothing else is, for drawn groups and texts. -/
import Derived.Test.YtljgmcbpjakecaaGreatDoorMg1
import Derived.SevenTiedAt
namespace Go.Proofs.YtljgmcbpjakecaaGreatDoor
open Go Go.ChangeShapes Go.WideShapes Go.ChangeAt Go.RowKit Go.Dn R
set_option linter.unusedVariables false
theorem and_both {a b:Bool}(h1:a=true)(h2:b=true):(a&&b)=true:=by rw[h1,h2];rfl
theorem jf_1:(Rows.fnContextRow.wf (OpenSpec.ofChange Rows.fnContextSpec))=true:=by kernel_rfl
theorem jf_2:(laidOutB Tryz.pinned.checked.prog)=true:=by kernel_rfl
theorem jf_3:(mapsRowed Tryz.pinned.checked.prog)=true:=by kernel_rfl
theorem jf_4:(Tryz.f9.params.all (Tryz.pinned.checked.prog.readableRec ·))=true:=by kernel_rfl
theorem jf_5:(namedTie Tryz.pinned.checked.prog Rows.fnContextRow.named Rows.fnContextSpec.vars)=true:=by kernel_rfl
theorem jf_6:(Rows.fnContextRow.stops==[])=true:=by kernel_rfl
theorem jf_7:(Tryz.pinned.checked.prog.stops==[])=true:=by kernel_rfl
theorem jf_8:(Rows.fnContextRow.knobs==[])=true:=by kernel_rfl
theorem jf_9:(Tryz.pinned.checked.prog.stopKnobs==[])=true:=by kernel_rfl
theorem jf_10:(Rows.fnContextRow.inPlace==Tryz.pinned.checked.prog.inPlace 9)=true:=by kernel_rfl
theorem jf_11:(Rows.fnContextRow.unfollowed==Tryz.pinned.checked.prog.unfollowed 9)=true:=by kernel_rfl
theorem jf_12:(Rows.fnContextRow.recurses==Tryz.pinned.checked.prog.recurses 9)=true:=by kernel_rfl
theorem jf_13:(Rows.fnContextRow.named==Tryz.pinned.checked.prog.varsNamed 9)=true:=by kernel_rfl
theorem jf_14:(Rows.fnContextRow.maps==(Tryz.f9.params.toList++Rows.fnContextSpec.plain.varTypes Tryz.pinned.checked.prog).any (Tryz.pinned.checked.prog.mapsRec ·))=true:=by kernel_rfl
theorem jf_15:(Rows.fnContextRow.ifaces==(Tryz.f9.params.toList++Rows.fnContextSpec.plain.varTypes Tryz.pinned.checked.prog).any (Tryz.pinned.checked.prog.ifacesRec ·))=true:=by kernel_rfl
theorem jf_16:(Rows.fnContextRow.mapsOut==Tryz.pinned.checked.prog.mapsAmong Tryz.f9.resultTypes.toList)=true:=by kernel_rfl
theorem jf_17:(Rows.fnContextRow.loops==(Tryz.f9.params.toList++Rows.fnContextSpec.plain.varTypes Tryz.pinned.checked.prog).any (Tryz.pinned.checked.prog.loopsFrom ·))=true:=by kernel_rfl
theorem jf_18:(Rows.fnContextRow.wideKeys==(Tryz.f9.params.toList++Rows.fnContextSpec.plain.varTypes Tryz.pinned.checked.prog++Tryz.f9.resultTypes.toList).any (Tryz.pinned.checked.prog.wideKeysFrom ·))=true:=by kernel_rfl
theorem jf_19:(Rows.fnContextSpec.vars.all (Tryz.pinned.checked.prog.varReadable ·))=true:=by kernel_rfl
theorem jf_20:(Tryz.f9.resultTypes.all (fun t=>Tryz.pinned.checked.prog.readableRec t&&decide (t<Tryz.pinned.checked.prog.types.size)))=true:=by kernel_rfl
theorem jf_21:(Rows.fnContextRow.ifacesOut==Tryz.f9.resultTypes.toList.any (Tryz.pinned.checked.prog.ifacesRec ·))=true:=by kernel_rfl
theorem jf_22:(Rows.fnContextRow.loopsOut==Tryz.f9.resultTypes.toList.any (Tryz.pinned.checked.prog.loopsFrom ·))=true:=by kernel_rfl
theorem jf_23:(Rows.fnContextRow.plainKeys==Tryz.pinned.checked.prog.plainKeys)=true:=by kernel_rfl
theorem jf_24:(Rows.fnContextRow.shortTexts.isNone)=true:=by kernel_rfl
theorem jf_25:(Tryz.pinned.checked.prog.stopsHeard)=true:=by kernel_rfl
theorem jf_26:(Tryz.pinned.checked.prog.mayEnter)=true:=by kernel_rfl
theorem jf_27:(Rows.fnContextRow.lifted==Tryz.pinned.checked.prog.liftsFinal)=true:=by kernel_rfl
theorem jf_28:(Tryz.pinned.checked.prog.make==some Rows.fnContextRow.make)=true:=by kernel_rfl
theorem jf_30:(Rows.fnContextRow.pinned==Rows.fnContextRow.pinnedBy)=true:=by kernel_rfl
theorem jf_31:(Rows.fnContextRow.veiled==(Tryz.f9.params.toList++Rows.fnContextSpec.plain.varTypes Tryz.pinned.checked.prog++Tryz.f9.resultTypes.toList).any (Tryz.pinned.checked.prog.veiledRec ·))=true:=by kernel_rfl
theorem jf_32:(Rows.fnContextRow.veiledFits Tryz.pinned.checked.prog Tryz.f9.params.toList (Tryz.f9.params.toList++Rows.fnContextSpec.plain.varTypes Tryz.pinned.checked.prog++Tryz.f9.resultTypes.toList))=true:=by kernel_rfl
theorem jf_all:joinedFacts Tryz.pinned.checked.prog 9 Tryz.f9 Rows.fnContextSpec Rows.fnContextRow=true:=by
 unfold joinedFacts
 exact and_both (and_both (and_both (and_both (and_both (and_both (and_both (and_both (and_both (and_both (and_both (and_both (and_both (and_both (and_both (and_both (and_both (and_both (and_both (and_both (and_both (and_both (and_both (and_both (and_both (and_both (and_both (and_both (and_both (and_both (and_both jf_1 jf_2) jf_3) jf_4) jf_5) jf_6) jf_7) jf_8) jf_9) jf_10) jf_11) jf_12) jf_13) jf_14) jf_15) jf_16) jf_17) jf_18) jf_19) jf_20) jf_21) jf_22) jf_23) jf_24) jf_25) jf_26) jf_27) jf_28) (by kernel_rfl)) jf_30) jf_31) jf_32
theorem fnContext_over:Rows.fnContextRow.holds Tryz.pinned (OpenSpec.ofChange Rows.fnContextSpec):=
 OpenClaim.holds_of_wide 9 Tryz.f9 rfl rfl rfl rfl rfl rfl rfl ⟨rfl,rfl,rfl,rfl,rfl⟩ rfl rfl rfl rfl rfl (by kernel_rfl) Tryz.func9 jf_all
  (of_decide_eq_true (by kernel_rfl)) (by unfold Func.isWrapper;first|(rw[if_pos (by decide+kernel)];kernel_rfl)|(rw[if_neg (by decide+kernel)];exact⟨rfl,rfl⟩))
  (fun os started H enc _=>fnContext_lifted os started H enc)
end Go.Proofs.YtljgmcbpjakecaaGreatDoor
