/- The program tells whether two texts tell the same groups just as the reference does, for all texts. -/
import Derived.Test.YtljgmcbpjakecaaGreatDoorXg2
import Derived.SevenTiedAt
namespace Go.Proofs.YtljgmcbpjakecaaGreatDoor
open Go Go.ChangeShapes Go.WideShapes Go.ChangeAt Go.RowKit Go.Dn R
set_option linter.unusedVariables false
theorem cf_wf:Rows.fnExactSameSidesRow.wfByText (OpenSpec.ofChange Rows.fnExactSameSidesSpec)=true:=by kernel_rfl
theorem cf_main:Tryz.pinned.checked.prog.mainIs=some (((true, "b1a55c173f1dd4d99c5cfcd867e1d6ba0bad45c7a72571cc67a643b354450df8"):Bool×String).1,((true, "b1a55c173f1dd4d99c5cfcd867e1d6ba0bad45c7a72571cc67a643b354450df8"):Bool×String).2.toList):=by kernel_rfl
theorem cf_named:Tryz.prog.funcNamed "loop.example/g00825/laws.FnExactSameSides"=some 7:=by kernel_rfl
theorem cf_looks:true=Tryz.pinned.checked.prog.looks []:=by kernel_rfl
theorem cf_params:Tryz.f7.params= #[9,9]:=by kernel_rfl
theorem cf_all:([9,9].all fun u=> !Tryz.prog.wantsStandIn u)=true:=by kernel_rfl
theorem cf_goes:false=Rows.fnExactSameSidesRow.goesBy Tryz.pinned.checked.prog:=by kernel_rfl
theorem fnExactSameSidesCard_holds:Rows.FnExactSameSidesCardSaid:=
 Claim7.holds_tied_plain_at .later [] [.data,.data,.data,.data,.sentinel,.sentinel,.pinned] true (true, "b1a55c173f1dd4d99c5cfcd867e1d6ba0bad45c7a72571cc67a643b354450df8") true
  fnExactSameSides_over (fun _ h=>by cases h) cf_wf (fun _ h=>by cases h) fnExactSameSides_row_tie rfl ⟨rfl,rfl⟩ cf_main rfl
  (fun f fn hf hfn=>by
    obtain rfl:f=7:=(Option.some.inj (cf_named.symm.trans hf)).symm
    obtain rfl:fn=Tryz.f7:=(Option.some.inj (Tryz.func7.symm.trans hfn)).symm
    exact⟨cf_looks,fun j t ht=>by
     rw[cf_params] at ht
     have hm:t∈[9,9]:=by simpa using Array.mem_of_getElem? ht
     exact(show Tryz.prog.wantsStandIn t=false by simpa using List.all_eq_true.1 cf_all t hm)⟩)
  cf_goes
#print axioms fnExactSameSidesCard_holds
end Go.Proofs.YtljgmcbpjakecaaGreatDoor
