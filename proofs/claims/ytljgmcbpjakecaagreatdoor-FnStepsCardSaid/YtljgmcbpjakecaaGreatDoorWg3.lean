/- Steps are read back from their text, and nothing else is, for drawn steps and texts. -/
import Derived.Test.YtljgmcbpjakecaaGreatDoorWg2
import Derived.SevenTiedAt
namespace Go.Proofs.YtljgmcbpjakecaaGreatDoor
open Go Go.ChangeShapes Go.WideShapes Go.ChangeAt Go.RowKit Go.Dn R
set_option linter.unusedVariables false
theorem fnStepsCard_holds:Rows.FnStepsCardSaid:=
 Claim7.holds_tied_plain_at .later [] [.data,.data,.data,.data,.sentinel,.sentinel,.pinned] true (true, "b1a55c173f1dd4d99c5cfcd867e1d6ba0bad45c7a72571cc67a643b354450df8") true
  fnSteps_over (fun _ h=>by cases h) (by kernel_rfl) (fun _ h=>by cases h) fnSteps_row_tie rfl ⟨rfl,rfl⟩ (by kernel_rfl) rfl
  (fun f fn hf hfn=>by
    obtain rfl:f=6:=Option.some.inj ((show Tryz.prog.funcNamed "loop.example/g00825/laws.FnSteps"=some 6 by kernel_rfl).symm.trans hf) |>.symm
    obtain rfl:fn=Tryz.f6:=(Option.some.inj (Tryz.func6.symm.trans hfn)).symm
    exact⟨by kernel_rfl,fun j t ht=>by
     rw[show Tryz.f6.params= #[22,22] from by kernel_rfl] at ht
     have hm:t∈[22,22]:=by simpa using Array.mem_of_getElem? ht
     have hall:([22,22].all fun u=> !Tryz.prog.wantsStandIn u)=true:=by kernel_rfl
     exact(show Tryz.prog.wantsStandIn t=false by simpa using List.all_eq_true.1 hall t hm)⟩)
  (by kernel_rfl)
#print axioms fnStepsCard_holds
end Go.Proofs.YtljgmcbpjakecaaGreatDoor
