/- Orders are read back from their text, and nothing else is, for drawn orders and texts. -/
import Derived.Test.YtgcdpcjeamjgfaaGreatDoorVg2
import Derived.SevenTiedAt
namespace Go.Proofs.YtgcdpcjeamjgfaaGreatDoor
open Go Go.ChangeShapes Go.WideShapes Go.ChangeAt Go.RowKit Go.Dn R
set_option linter.unusedVariables false
theorem fnOrdersCard_holds:Rows.FnOrdersCardSaid:=
 Claim7.holds_tied_plain_at .later [] [.data,.data,.data,.data,.sentinel,.sentinel,.widerDeep,.pinned] true (true, "55f40698bc9712736d94ce0c308843442c264688a72af322ac3a3a3d96e0c211") true
  fnOrders_over (fun _ h=>by cases h) (by kernel_rfl) (fun _ h=>by cases h) fnOrders_row_tie rfl ⟨rfl,rfl⟩ (by kernel_rfl) rfl
  (fun f fn hf hfn=>by
    obtain rfl:f=4:=Option.some.inj ((show Tryz.prog.funcNamed "loop.example/g00825/laws.FnOrders"=some 4 by kernel_rfl).symm.trans hf) |>.symm
    obtain rfl:fn=Tryz.f4:=(Option.some.inj (Tryz.func4.symm.trans hfn)).symm
    exact⟨by kernel_rfl,fun j t ht=>by
     rw[show Tryz.f4.params= #[28,28] from by kernel_rfl] at ht
     have hm:t∈[28,28]:=by simpa using Array.mem_of_getElem? ht
     have hall:([28,28].all fun u=> !Tryz.prog.wantsStandIn u)=true:=by kernel_rfl
     exact(show Tryz.prog.wantsStandIn t=false by simpa using List.all_eq_true.1 hall t hm)⟩)
  (by kernel_rfl)
#print axioms fnOrdersCard_holds
end Go.Proofs.YtgcdpcjeamjgfaaGreatDoor
