/- The same groups: written two ways, read back the same. -/
import Derived.Test.YtljgmcbpjakecaaGreatDoorSr1
import Derived.SevenTiedAt
set_option linter.unusedVariables false
namespace Go.Proofs.YtljgmcbpjakecaaGreatDoor
open Go Go.ChangeShapes Go.WideShapes Go.ChangeAt Go.RowKit Go.Dn R
theorem zah {a b:Bool}(h1:a=true)(h2:b=true):(a&&b)=true:=by rw[h1,h2];rfl
theorem jf_1:(Rows.fnSameGroupsRow.wf (OpenSpec.ofChange Rows.fnSameGroupsSpec))=true:=by kernel_rfl
theorem jf_2:(laidOutB Tryz.pinned.checked.prog)=true:=by kernel_rfl
theorem jf_3:(mapsRowed Tryz.pinned.checked.prog)=true:=by kernel_rfl
theorem jf_4:(Tryz.f3.params.all (Tryz.pinned.checked.prog.readableRec ·))=true:=by kernel_rfl
theorem jf_5:(namedTie Tryz.pinned.checked.prog Rows.fnSameGroupsRow.named Rows.fnSameGroupsSpec.vars)=true:=by kernel_rfl
theorem jf_6:(Rows.fnSameGroupsRow.stops==[])=true:=by kernel_rfl
theorem jf_7:(Tryz.pinned.checked.prog.stops==[])=true:=by kernel_rfl
theorem jf_8:(Rows.fnSameGroupsRow.knobs==[])=true:=by kernel_rfl
theorem jf_9:(Tryz.pinned.checked.prog.stopKnobs==[])=true:=by kernel_rfl
theorem ja2:(Rows.fnSameGroupsRow.inPlace==Tryz.pinned.checked.prog.inPlace 3)=true:=by kernel_rfl
theorem ja3:(Rows.fnSameGroupsRow.unfollowed==Tryz.pinned.checked.prog.unfollowed 3)=true:=by kernel_rfl
theorem ja4:(Rows.fnSameGroupsRow.recurses==Tryz.pinned.checked.prog.recurses 3)=true:=by kernel_rfl
theorem ja5:(Rows.fnSameGroupsRow.named==Tryz.pinned.checked.prog.varsNamed 3)=true:=by kernel_rfl
theorem ja6:(Rows.fnSameGroupsRow.maps==(Tryz.f3.params.toList++Rows.fnSameGroupsSpec.plain.varTypes Tryz.pinned.checked.prog).any (Tryz.pinned.checked.prog.mapsRec ·))=true:=by kernel_rfl
theorem ja7:(Rows.fnSameGroupsRow.ifaces==(Tryz.f3.params.toList++Rows.fnSameGroupsSpec.plain.varTypes Tryz.pinned.checked.prog).any (Tryz.pinned.checked.prog.ifacesRec ·))=true:=by kernel_rfl
theorem ja8:(Rows.fnSameGroupsRow.mapsOut==Tryz.pinned.checked.prog.mapsAmong Tryz.f3.resultTypes.toList)=true:=by kernel_rfl
theorem ja9:(Rows.fnSameGroupsRow.loops==(Tryz.f3.params.toList++Rows.fnSameGroupsSpec.plain.varTypes Tryz.pinned.checked.prog).any (Tryz.pinned.checked.prog.loopsFrom ·))=true:=by kernel_rfl
theorem jba:(Rows.fnSameGroupsRow.wideKeys==(Tryz.f3.params.toList++Rows.fnSameGroupsSpec.plain.varTypes Tryz.pinned.checked.prog++Tryz.f3.resultTypes.toList).any (Tryz.pinned.checked.prog.wideKeysFrom ·))=true:=by kernel_rfl
theorem jbb:(Rows.fnSameGroupsSpec.vars.all (Tryz.pinned.checked.prog.varReadable ·))=true:=by kernel_rfl
theorem jbc:(Tryz.f3.resultTypes.all (λt=>Tryz.pinned.checked.prog.readableRec t&&decide (t<Tryz.pinned.checked.prog.types.size)))=true:=by kernel_rfl
theorem jbd:(Rows.fnSameGroupsRow.ifacesOut==Tryz.f3.resultTypes.toList.any (Tryz.pinned.checked.prog.ifacesRec ·))=true:=by kernel_rfl
theorem jbe:(Rows.fnSameGroupsRow.loopsOut==Tryz.f3.resultTypes.toList.any (Tryz.pinned.checked.prog.loopsFrom ·))=true:=by kernel_rfl
theorem jbf:(Rows.fnSameGroupsRow.plainKeys==Tryz.pinned.checked.prog.plainKeys)=true:=by kernel_rfl
theorem jbg:(Rows.fnSameGroupsRow.shortTexts.isNone)=true:=by kernel_rfl
theorem jbh:(Tryz.pinned.checked.prog.stopsHeard)=true:=by kernel_rfl
theorem jbi:(Tryz.pinned.checked.prog.mayEnter)=true:=by kernel_rfl
theorem jbj:(Rows.fnSameGroupsRow.lifted==Tryz.pinned.checked.prog.liftsFinal)=true:=by kernel_rfl
theorem jbk:(Tryz.pinned.checked.prog.make==some Rows.fnSameGroupsRow.make)=true:=by kernel_rfl
theorem jbl:(Rows.fnSameGroupsRow.pinned==Rows.fnSameGroupsRow.pinnedBy)=true:=by kernel_rfl
theorem jbm:(Rows.fnSameGroupsRow.veiled==(Tryz.f3.params.toList++Rows.fnSameGroupsSpec.plain.varTypes Tryz.pinned.checked.prog++Tryz.f3.resultTypes.toList).any (Tryz.pinned.checked.prog.veiledRec ·))=true:=by kernel_rfl
theorem jbn:(Rows.fnSameGroupsRow.veiledFits Tryz.pinned.checked.prog Tryz.f3.params.toList (Tryz.f3.params.toList++Rows.fnSameGroupsSpec.plain.varTypes Tryz.pinned.checked.prog++Tryz.f3.resultTypes.toList))=true:=by kernel_rfl
theorem jar:joinedFacts Tryz.pinned.checked.prog 3 Tryz.f3 Rows.fnSameGroupsSpec Rows.fnSameGroupsRow=true:=by
 unfold joinedFacts;exact zah (zah (zah (zah (zah (zah (zah (zah (zah (zah (zah (zah (zah (zah (zah (zah (zah (zah (zah (zah (zah (zah (zah (zah (zah (zah (zah (zah (zah (zah (zah jf_1 jf_2) jf_3) jf_4) jf_5) jf_6) jf_7) jf_8) jf_9) ja2) ja3) ja4) ja5) ja6) ja7) ja8) ja9) jba) jbb) jbc) jbd) jbe) jbf) jbg) jbh) jbi) jbj) jbk) (by kernel_rfl)) jbl) jbm) jbn
theorem qkm:Rows.fnSameGroupsRow.holds Tryz.pinned (OpenSpec.ofChange Rows.fnSameGroupsSpec):=
 OpenClaim.holds_of_wide 3 Tryz.f3 rfl rfl rfl rfl rfl rfl rfl ⟨rfl,rfl,rfl,rfl,rfl⟩ rfl rfl rfl rfl rfl (by kernel_rfl) Tryz.func3 jar
  (of_decide_eq_true (by kernel_rfl)) (by unfold Func.isWrapper;first|(rw[yx0 (by decide+kernel)];kernel_rfl)|(rw[yw0 (by decide+kernel)];exact⟨rfl,rfl⟩))
  (λos started H enc _=>qit os started H enc)
end Go.Proofs.YtljgmcbpjakecaaGreatDoor
