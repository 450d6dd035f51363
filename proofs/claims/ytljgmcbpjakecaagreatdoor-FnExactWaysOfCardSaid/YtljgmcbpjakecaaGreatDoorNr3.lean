/- The program tells all ways of which a text is a patch just as the reference does, for all texts. -/
import Derived.Test.YtljgmcbpjakecaaGreatDoorNr2
import Derived.SevenTiedAt
set_option linter.unusedVariables false
namespace Go.Proofs.YtljgmcbpjakecaaGreatDoor
open Go Go.ChangeShapes Go.WideShapes Go.ChangeAt Go.RowKit Go.Dn R
theorem jdy:Rows.fnExactWaysOfRow.wfByText (OpenSpec.ofChange Rows.fnExactWaysOfSpec)=true:=by kernel_rfl
theorem jbx:Tryz.pinned.checked.prog.mainIs=some (((true, "b1a55c173f1dd4d99c5cfcd867e1d6ba0bad45c7a72571cc67a643b354450df8"):Bool×String).1,((true, "b1a55c173f1dd4d99c5cfcd867e1d6ba0bad45c7a72571cc67a643b354450df8"):Bool×String).2.toList):=by kernel_rfl
theorem jac:Tryz.prog.funcNamed "loop.example/g00825/laws.FnExactWaysOf"=some 5:=by kernel_rfl
theorem jad:true=Tryz.pinned.checked.prog.looks []:=by kernel_rfl
theorem q7r:Tryz.f5.params= #[9]:=by kernel_rfl
theorem jc0:([9].all λu=> !Tryz.prog.wantsStandIn u)=true:=by kernel_rfl
theorem jby:false=Rows.fnExactWaysOfRow.goesBy Tryz.pinned.checked.prog:=by kernel_rfl
theorem fnExactWaysOfCard_holds:Rows.FnExactWaysOfCardSaid:=
 Claim7.holds_tied_plain_at .later [] [.data,.data,.data,.data,.sentinel,.sentinel,.widerDeep,.pinned] true (true, "b1a55c173f1dd4d99c5cfcd867e1d6ba0bad45c7a72571cc67a643b354450df8") true
  qj0 (λ_ h=>by cases h) jdy (λ_ h=>by cases h) fnExactWaysOf_row_tie rfl ⟨rfl,rfl⟩ jbx rfl
  (λf fn hf hfn=>by
    obtain rfl:f=5:=(yl0 (jac.symm.trans hf)).symm;obtain rfl:fn=Tryz.f5:=(yl0 (Tryz.func5.symm.trans hfn)).symm
    exact⟨jad,λj t ht=>by
     rw[q7r] at ht;have hm:t∈[9]:=by simpa using Array.mem_of_getElem? ht
     exact(show Tryz.prog.wantsStandIn t=false by simpa using yu2.1 jc0 t hm)⟩)
  jby
#print axioms fnExactWaysOfCard_holds
end Go.Proofs.YtljgmcbpjakecaaGreatDoor
