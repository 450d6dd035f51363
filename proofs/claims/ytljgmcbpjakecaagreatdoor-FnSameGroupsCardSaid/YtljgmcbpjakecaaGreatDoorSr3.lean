/- The same groups: written two ways, read back the same. -/
import Derived.Test.YtljgmcbpjakecaaGreatDoorSr2
import Derived.SevenTiedAt
set_option linter.unusedVariables false
namespace Go.Proofs.YtljgmcbpjakecaaGreatDoor
open Go Go.ChangeShapes Go.WideShapes Go.ChangeAt Go.RowKit Go.Dn R
theorem jbo:Rows.fnSameGroupsRow.wfByText (OpenSpec.ofChange Rows.fnSameGroupsSpec)=true:=by kernel_rfl
theorem q9h:Tryz.pinned.checked.prog.mainIs=some (((true, "b1a55c173f1dd4d99c5cfcd867e1d6ba0bad45c7a72571cc67a643b354450df8"):Bool×String).1,((true, "b1a55c173f1dd4d99c5cfcd867e1d6ba0bad45c7a72571cc67a643b354450df8"):Bool×String).2.toList):=by kernel_rfl
theorem q6v:Tryz.prog.funcNamed "loop.example/g00825/laws.FnSameGroups"=some 3:=by kernel_rfl
theorem q6w:true=Tryz.pinned.checked.prog.looks []:=by kernel_rfl
theorem q4s:Tryz.f3.params= #[22,22]:=by kernel_rfl
theorem jas:([22,22].all λu=> !Tryz.prog.wantsStandIn u)=true:=by kernel_rfl
theorem q9i:false=Rows.fnSameGroupsRow.goesBy Tryz.pinned.checked.prog:=by kernel_rfl
theorem fnSameGroupsCard_holds:Rows.FnSameGroupsCardSaid:=
 Claim7.holds_tied_plain_at .later [] [.data,.data,.data,.data,.sentinel,.sentinel,.pinned] true (true, "b1a55c173f1dd4d99c5cfcd867e1d6ba0bad45c7a72571cc67a643b354450df8") true
  qkm (λ_ h=>by cases h) jbo (λ_ h=>by cases h) fnSameGroups_row_tie rfl ⟨rfl,rfl⟩ q9h rfl
  (λf fn hf hfn=>by
    obtain rfl:f=3:=(yl0 (q6v.symm.trans hf)).symm;obtain rfl:fn=Tryz.f3:=(yl0 (Tryz.func3.symm.trans hfn)).symm
    exact⟨q6w,λj t ht=>by
     rw[q4s] at ht;have hm:t∈[22,22]:=by simpa using Array.mem_of_getElem? ht
     exact(show Tryz.prog.wantsStandIn t=false by simpa using ys2.1 jas t hm)⟩)
  q9i
#print axioms fnSameGroupsCard_holds
end Go.Proofs.YtljgmcbpjakecaaGreatDoor
