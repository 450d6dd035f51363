/- The program tells whether a text is a patch of a way just as the reference does, for all ways and texts. -/
import Derived.Test.YtljgmcbpjakecaaGreatDoorKr2
import Derived.SevenTiedAt
set_option linter.unusedVariables false
namespace Go.Proofs.YtljgmcbpjakecaaGreatDoor
open Go Go.ChangeShapes Go.WideShapes Go.ChangeAt Go.RowKit Go.Dn R
theorem jco:Rows.fnExactIsPatchRow.wfByText (OpenSpec.ofChange Rows.fnExactIsPatchSpec)=true:=by kernel_rfl
theorem jan:Tryz.pinned.checked.prog.mainIs=some (((true, "b1a55c173f1dd4d99c5cfcd867e1d6ba0bad45c7a72571cc67a643b354450df8"):Bool×String).1,((true, "b1a55c173f1dd4d99c5cfcd867e1d6ba0bad45c7a72571cc67a643b354450df8"):Bool×String).2.toList):=by kernel_rfl
theorem q8h:Tryz.prog.funcNamed "loop.example/g00825/laws.FnExactIsPatch"=some 4:=by kernel_rfl
theorem q8i:true=Tryz.pinned.checked.prog.looks []:=by kernel_rfl
theorem q5u:Tryz.f4.params= #[3,9]:=by kernel_rfl
theorem jbq:([3,9].all λu=> !Tryz.prog.wantsStandIn u)=true:=by kernel_rfl
theorem jao:false=Rows.fnExactIsPatchRow.goesBy Tryz.pinned.checked.prog:=by kernel_rfl
theorem fnExactIsPatchCard_holds:Rows.FnExactIsPatchCardSaid:=
 Claim7.holds_tied_plain_at .later [] [.data,.data,.data,.data,.sentinel,.sentinel,.widerDeep,.pinned] true (true, "b1a55c173f1dd4d99c5cfcd867e1d6ba0bad45c7a72571cc67a643b354450df8") true
  qix (λ_ h=>by cases h) jco (λ_ h=>by cases h) fnExactIsPatch_row_tie rfl ⟨rfl,rfl⟩ jan rfl
  (λf fn hf hfn=>by
    obtain rfl:f=4:=(yl0 (q8h.symm.trans hf)).symm;obtain rfl:fn=Tryz.f4:=(yl0 (Tryz.func4.symm.trans hfn)).symm
    exact⟨q8i,λj t ht=>by
     rw[q5u] at ht;have hm:t∈[3,9]:=by simpa using Array.mem_of_getElem? ht
     exact(show Tryz.prog.wantsStandIn t=false by simpa using List.all_eq_true.1 jbq t hm)⟩)
  jao
#print axioms fnExactIsPatchCard_holds
end Go.Proofs.YtljgmcbpjakecaaGreatDoor
