/- The program tells all ways of which a text is a patch just as the reference does, for all texts. -/
import Derived.Test.YtljgmcbpjakecaaGreatDoorNr1
import Derived.SevenTiedAt
set_option linter.unusedVariables false
namespace Go.Proofs.YtljgmcbpjakecaaGreatDoor
open Go Go.ChangeShapes Go.WideShapes Go.ChangeAt Go.RowKit Go.Dn R
theorem zai {a b:Bool}(h1:a=true)(h2:b=true):(a&&b)=true:=by rw[h1,h2];rfl
theorem jf_1:(Rows.fnExactWaysOfRow.wf (OpenSpec.ofChange Rows.fnExactWaysOfSpec))=true:=by kernel_rfl
theorem jf_2:(laidOutB Tryz.pinned.checked.prog)=true:=by kernel_rfl
theorem jf_3:(mapsRowed Tryz.pinned.checked.prog)=true:=by kernel_rfl
theorem jf_4:(Tryz.f5.params.all (Tryz.pinned.checked.prog.readableRec ·))=true:=by kernel_rfl
theorem jf_5:(namedTie Tryz.pinned.checked.prog Rows.fnExactWaysOfRow.named Rows.fnExactWaysOfSpec.vars)=true:=by kernel_rfl
theorem jf_6:(Rows.fnExactWaysOfRow.stops==[])=true:=by kernel_rfl
theorem jf_7:(Tryz.pinned.checked.prog.stops==[])=true:=by kernel_rfl
theorem jf_8:(Rows.fnExactWaysOfRow.knobs==[])=true:=by kernel_rfl
theorem jf_9:(Tryz.pinned.checked.prog.stopKnobs==[])=true:=by kernel_rfl
theorem jdc:(Rows.fnExactWaysOfRow.inPlace==Tryz.pinned.checked.prog.inPlace 5)=true:=by kernel_rfl
theorem jdd:(Rows.fnExactWaysOfRow.unfollowed==Tryz.pinned.checked.prog.unfollowed 5)=true:=by kernel_rfl
theorem jde:(Rows.fnExactWaysOfRow.recurses==Tryz.pinned.checked.prog.recurses 5)=true:=by kernel_rfl
theorem jdf:(Rows.fnExactWaysOfRow.named==Tryz.pinned.checked.prog.varsNamed 5)=true:=by kernel_rfl
theorem jdg:(Rows.fnExactWaysOfRow.maps==(Tryz.f5.params.toList++Rows.fnExactWaysOfSpec.plain.varTypes Tryz.pinned.checked.prog).any (Tryz.pinned.checked.prog.mapsRec ·))=true:=by kernel_rfl
theorem jdh:(Rows.fnExactWaysOfRow.ifaces==(Tryz.f5.params.toList++Rows.fnExactWaysOfSpec.plain.varTypes Tryz.pinned.checked.prog).any (Tryz.pinned.checked.prog.ifacesRec ·))=true:=by kernel_rfl
theorem jdi:(Rows.fnExactWaysOfRow.mapsOut==Tryz.pinned.checked.prog.mapsAmong Tryz.f5.resultTypes.toList)=true:=by kernel_rfl
theorem jdj:(Rows.fnExactWaysOfRow.loops==(Tryz.f5.params.toList++Rows.fnExactWaysOfSpec.plain.varTypes Tryz.pinned.checked.prog).any (Tryz.pinned.checked.prog.loopsFrom ·))=true:=by kernel_rfl
theorem jdk:(Rows.fnExactWaysOfRow.wideKeys==(Tryz.f5.params.toList++Rows.fnExactWaysOfSpec.plain.varTypes Tryz.pinned.checked.prog++Tryz.f5.resultTypes.toList).any (Tryz.pinned.checked.prog.wideKeysFrom ·))=true:=by kernel_rfl
theorem jdl:(Rows.fnExactWaysOfSpec.vars.all (Tryz.pinned.checked.prog.varReadable ·))=true:=by kernel_rfl
theorem jdm:(Tryz.f5.resultTypes.all (λt=>Tryz.pinned.checked.prog.readableRec t&&decide (t<Tryz.pinned.checked.prog.types.size)))=true:=by kernel_rfl
theorem jdn:(Rows.fnExactWaysOfRow.ifacesOut==Tryz.f5.resultTypes.toList.any (Tryz.pinned.checked.prog.ifacesRec ·))=true:=by kernel_rfl
theorem jdo:(Rows.fnExactWaysOfRow.loopsOut==Tryz.f5.resultTypes.toList.any (Tryz.pinned.checked.prog.loopsFrom ·))=true:=by kernel_rfl
theorem jdp:(Rows.fnExactWaysOfRow.plainKeys==Tryz.pinned.checked.prog.plainKeys)=true:=by kernel_rfl
theorem jdq:(Rows.fnExactWaysOfRow.shortTexts.isNone)=true:=by kernel_rfl
theorem jdr:(Tryz.pinned.checked.prog.stopsHeard)=true:=by kernel_rfl
theorem jds:(Tryz.pinned.checked.prog.mayEnter)=true:=by kernel_rfl
theorem jdt:(Rows.fnExactWaysOfRow.lifted==Tryz.pinned.checked.prog.liftsFinal)=true:=by kernel_rfl
theorem jdu:(Tryz.pinned.checked.prog.make==some Rows.fnExactWaysOfRow.make)=true:=by kernel_rfl
theorem jdv:(Rows.fnExactWaysOfRow.pinned==Rows.fnExactWaysOfRow.pinnedBy)=true:=by kernel_rfl
theorem jdw:(Rows.fnExactWaysOfRow.veiled==(Tryz.f5.params.toList++Rows.fnExactWaysOfSpec.plain.varTypes Tryz.pinned.checked.prog++Tryz.f5.resultTypes.toList).any (Tryz.pinned.checked.prog.veiledRec ·))=true:=by kernel_rfl
theorem jdx:(Rows.fnExactWaysOfRow.veiledFits Tryz.pinned.checked.prog Tryz.f5.params.toList (Tryz.f5.params.toList++Rows.fnExactWaysOfSpec.plain.varTypes Tryz.pinned.checked.prog++Tryz.f5.resultTypes.toList))=true:=by kernel_rfl
theorem jcz:joinedFacts Tryz.pinned.checked.prog 5 Tryz.f5 Rows.fnExactWaysOfSpec Rows.fnExactWaysOfRow=true:=by
 unfold joinedFacts;exact zai (zai (zai (zai (zai (zai (zai (zai (zai (zai (zai (zai (zai (zai (zai (zai (zai (zai (zai (zai (zai (zai (zai (zai (zai (zai (zai (zai (zai (zai (zai jf_1 jf_2) jf_3) jf_4) jf_5) jf_6) jf_7) jf_8) jf_9) jdc) jdd) jde) jdf) jdg) jdh) jdi) jdj) jdk) jdl) jdm) jdn) jdo) jdp) jdq) jdr) jds) jdt) jdu) (by kernel_rfl)) jdv) jdw) jdx
theorem qj0:Rows.fnExactWaysOfRow.holds Tryz.pinned (OpenSpec.ofChange Rows.fnExactWaysOfSpec):=
 OpenClaim.holds_of_wide 5 Tryz.f5 rfl rfl rfl rfl rfl rfl rfl ⟨rfl,rfl,rfl,rfl,rfl⟩ rfl rfl rfl rfl rfl (by kernel_rfl) Tryz.func5 jcz
  (of_decide_eq_true (by kernel_rfl)) (by unfold Func.isWrapper;first|(rw[yx0 (by decide+kernel)];kernel_rfl)|(rw[yw0 (by decide+kernel)];exact⟨rfl,rfl⟩))
  (λos started H enc _=>qi2 os started H enc)
end Go.Proofs.YtljgmcbpjakecaaGreatDoor
