/- The program tells whether a text is a patch of a way just as the reference does, for all ways and texts. -/
import Derived.Test.YtljgmcbpjakecaaGreatDoorKr1
import Derived.SevenTiedAt
set_option linter.unusedVariables false
namespace Go.Proofs.YtljgmcbpjakecaaGreatDoor
open Go Go.ChangeShapes Go.WideShapes Go.ChangeAt Go.RowKit Go.Dn R
theorem zaf {a b:Bool}(h1:a=true)(h2:b=true):(a&&b)=true:=by rw[h1,h2];rfl
theorem jf_1:(Rows.fnExactIsPatchRow.wf (OpenSpec.ofChange Rows.fnExactIsPatchSpec))=true:=by kernel_rfl
theorem jf_2:(laidOutB Tryz.pinned.checked.prog)=true:=by kernel_rfl
theorem jf_3:(mapsRowed Tryz.pinned.checked.prog)=true:=by kernel_rfl
theorem jf_4:(Tryz.f4.params.all (Tryz.pinned.checked.prog.readableRec ·))=true:=by kernel_rfl
theorem jf_5:(namedTie Tryz.pinned.checked.prog Rows.fnExactIsPatchRow.named Rows.fnExactIsPatchSpec.vars)=true:=by kernel_rfl
theorem jf_6:(Rows.fnExactIsPatchRow.stops==[])=true:=by kernel_rfl
theorem jf_7:(Tryz.pinned.checked.prog.stops==[])=true:=by kernel_rfl
theorem jf_8:(Rows.fnExactIsPatchRow.knobs==[])=true:=by kernel_rfl
theorem jf_9:(Tryz.pinned.checked.prog.stopKnobs==[])=true:=by kernel_rfl
theorem jb2:(Rows.fnExactIsPatchRow.inPlace==Tryz.pinned.checked.prog.inPlace 4)=true:=by kernel_rfl
theorem jb3:(Rows.fnExactIsPatchRow.unfollowed==Tryz.pinned.checked.prog.unfollowed 4)=true:=by kernel_rfl
theorem jb4:(Rows.fnExactIsPatchRow.recurses==Tryz.pinned.checked.prog.recurses 4)=true:=by kernel_rfl
theorem jb5:(Rows.fnExactIsPatchRow.named==Tryz.pinned.checked.prog.varsNamed 4)=true:=by kernel_rfl
theorem jb6:(Rows.fnExactIsPatchRow.maps==(Tryz.f4.params.toList++Rows.fnExactIsPatchSpec.plain.varTypes Tryz.pinned.checked.prog).any (Tryz.pinned.checked.prog.mapsRec ·))=true:=by kernel_rfl
theorem jb7:(Rows.fnExactIsPatchRow.ifaces==(Tryz.f4.params.toList++Rows.fnExactIsPatchSpec.plain.varTypes Tryz.pinned.checked.prog).any (Tryz.pinned.checked.prog.ifacesRec ·))=true:=by kernel_rfl
theorem jb8:(Rows.fnExactIsPatchRow.mapsOut==Tryz.pinned.checked.prog.mapsAmong Tryz.f4.resultTypes.toList)=true:=by kernel_rfl
theorem jb9:(Rows.fnExactIsPatchRow.loops==(Tryz.f4.params.toList++Rows.fnExactIsPatchSpec.plain.varTypes Tryz.pinned.checked.prog).any (Tryz.pinned.checked.prog.loopsFrom ·))=true:=by kernel_rfl
theorem jca:(Rows.fnExactIsPatchRow.wideKeys==(Tryz.f4.params.toList++Rows.fnExactIsPatchSpec.plain.varTypes Tryz.pinned.checked.prog++Tryz.f4.resultTypes.toList).any (Tryz.pinned.checked.prog.wideKeysFrom ·))=true:=by kernel_rfl
theorem jcb:(Rows.fnExactIsPatchSpec.vars.all (Tryz.pinned.checked.prog.varReadable ·))=true:=by kernel_rfl
theorem jcc:(Tryz.f4.resultTypes.all (λt=>Tryz.pinned.checked.prog.readableRec t&&decide (t<Tryz.pinned.checked.prog.types.size)))=true:=by kernel_rfl
theorem jcd:(Rows.fnExactIsPatchRow.ifacesOut==Tryz.f4.resultTypes.toList.any (Tryz.pinned.checked.prog.ifacesRec ·))=true:=by kernel_rfl
theorem jce:(Rows.fnExactIsPatchRow.loopsOut==Tryz.f4.resultTypes.toList.any (Tryz.pinned.checked.prog.loopsFrom ·))=true:=by kernel_rfl
theorem jcf:(Rows.fnExactIsPatchRow.plainKeys==Tryz.pinned.checked.prog.plainKeys)=true:=by kernel_rfl
theorem jcg:(Rows.fnExactIsPatchRow.shortTexts.isNone)=true:=by kernel_rfl
theorem jch:(Tryz.pinned.checked.prog.stopsHeard)=true:=by kernel_rfl
theorem jci:(Tryz.pinned.checked.prog.mayEnter)=true:=by kernel_rfl
theorem jcj:(Rows.fnExactIsPatchRow.lifted==Tryz.pinned.checked.prog.liftsFinal)=true:=by kernel_rfl
theorem jck:(Tryz.pinned.checked.prog.make==some Rows.fnExactIsPatchRow.make)=true:=by kernel_rfl
theorem jcl:(Rows.fnExactIsPatchRow.pinned==Rows.fnExactIsPatchRow.pinnedBy)=true:=by kernel_rfl
theorem jcm:(Rows.fnExactIsPatchRow.veiled==(Tryz.f4.params.toList++Rows.fnExactIsPatchSpec.plain.varTypes Tryz.pinned.checked.prog++Tryz.f4.resultTypes.toList).any (Tryz.pinned.checked.prog.veiledRec ·))=true:=by kernel_rfl
theorem jcn:(Rows.fnExactIsPatchRow.veiledFits Tryz.pinned.checked.prog Tryz.f4.params.toList (Tryz.f4.params.toList++Rows.fnExactIsPatchSpec.plain.varTypes Tryz.pinned.checked.prog++Tryz.f4.resultTypes.toList))=true:=by kernel_rfl
theorem jbp:joinedFacts Tryz.pinned.checked.prog 4 Tryz.f4 Rows.fnExactIsPatchSpec Rows.fnExactIsPatchRow=true:=by
 unfold joinedFacts;exact zaf (zaf (zaf (zaf (zaf (zaf (zaf (zaf (zaf (zaf (zaf (zaf (zaf (zaf (zaf (zaf (zaf (zaf (zaf (zaf (zaf (zaf (zaf (zaf (zaf (zaf (zaf (zaf (zaf (zaf (zaf jf_1 jf_2) jf_3) jf_4) jf_5) jf_6) jf_7) jf_8) jf_9) jb2) jb3) jb4) jb5) jb6) jb7) jb8) jb9) jca) jcb) jcc) jcd) jce) jcf) jcg) jch) jci) jcj) jck) (by kernel_rfl)) jcl) jcm) jcn
theorem qix:Rows.fnExactIsPatchRow.holds Tryz.pinned (OpenSpec.ofChange Rows.fnExactIsPatchSpec):=
 OpenClaim.holds_of_wide 4 Tryz.f4 rfl rfl rfl rfl rfl rfl rfl ⟨rfl,rfl,rfl,rfl,rfl⟩ rfl rfl rfl rfl rfl (by kernel_rfl) Tryz.func4 jbp
  (of_decide_eq_true (by kernel_rfl)) (by unfold Func.isWrapper;first|(rw[yx0 (by decide+kernel)];kernel_rfl)|(rw[yw0 (by decide+kernel)];exact⟨rfl,rfl⟩))
  (λos started H enc _=>qhu os started H enc)
end Go.Proofs.YtljgmcbpjakecaaGreatDoor
