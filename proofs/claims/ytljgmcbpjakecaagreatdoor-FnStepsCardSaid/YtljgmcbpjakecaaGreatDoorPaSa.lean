/- The functions, part 2. -/
import Derived.Test.YtljgmcbpjakecaaGreatDoorPaSa1
open Go Go.Dn Go.Proofs
namespace R
set_option linter.unusedVariables false
set_option maxRecDepth 20000
open Go.Shelf
noncomputable def o_I_isTold_2:List Out:=[⟨.normal,⟨[],[0,1,2,19,29,30,31,32,33,34,35],[]⟩,mkSh 37 [(0,.val (.int .i64) .b),(1,.val (.int .i64) .b),(2,.val S_string .b),(19,.val .bool .b)]⟩]
noncomputable def pl_I_isTold:Plan:=⟨[(2,o_I_isTold_2)],[],0,0⟩
noncomputable def f_I_isTold (t0:PV (.int .i64))(t1:PV (.int .i64))(t2:PV S_string):Option (PVs [.bool]×PVs []):=(((f_I_in t0 0 1000).bind fun r8=>bif (!r8.1.1) then some (t0,t1,t2,true,()) else(f_I_in t1 0 1000).bind fun r9=>bif (!r9.1.1) then some (t0,t1,t2,true,()) else(f_I_goodLines t2).bind fun r10=>some (t0,t1,t2,(!r10.1.1),()):Option ((PV (.int .i64)×PV (.int .i64)×PV S_string×PV .bool×Unit)))).bind fun j11=>bif j11.2.2.2.1 then some ((false,()),()) else bif ((j11.2.2.1.length:Int)==0) then some (((j11.1==j11.2.1),()),()) else bif (decide (j11.1≥1)) then some ((((IntKind.wrap .i64 ((IntKind.wrap .i64 (j11.2.1 -j11.1))+1))==(j11.2.2.1.length:Int)),()),()) else some ((false,()),())
noncomputable def ct_I_isTold:Ct:=⟨[(.bor,(.int .i64)),(.bor,(.int .i64)),(.bor,S_string)],[(.bool,.b)],fun x=>f_I_isTold x.1 x.2.1 x.2.2.1⟩
noncomputable def cx_I_isTold:Cx:=⟨tab,arrs,[(88,ct_I_goodLines),(131,ct_I_in)],[],gl,[]⟩
theorem ef_I_isTold (t0:PV (.int .i64))(t1:PV (.int .i64))(t2:PV S_string):denF cx_I_isTold 0 pl_I_isTold Tryz.f135.ntmps (bodyOf Tryz.f135) Tryz.f135.results.toList [(.bor,(.int .i64)),(.bor,(.int .i64)),(.bor,S_string)] [(.bool,.b)] (t0,t1,t2,())=f_I_isTold t0 t1 t2:=by kernel_rfl
theorem ok_I_isTold:FnOk gl Tryz.prog 135 ct_I_isTold:=
 fnOk (cx:=cx_I_isTold) (pl:=pl_I_isTold) (dp:=0) (ok0_of tabOk (by unfold ArrOk;kernel_rfl) mix ⟨ok_I_goodLines,ok_I_in,trivial⟩ trivial) Tryz.func135 (by kernel_rfl) (by kernel_rfl) (by kernel_rfl)
  (by rw[show loopsOf (bodyOf Tryz.f135)=[] from by kernel_rfl];exact trivial) (fun x=>ef_I_isTold x.1 x.2.1 x.2.2.1)
noncomputable def pl_I_goodSteps_1:Plan:=⟨[],[],0,0⟩
noncomputable def f_I_goodSteps_1 (t0:PV Y_impl_Step):Option (PVs [.bool]×PVs []):=(f_I_isTold t0.1 t0.2.1 t0.2.2.1).bind fun r1=>bif (!r1.1.1) then some ((true,()),()) else(f_I_isTold t0.2.2.2.1 t0.2.2.2.2.1 t0.2.2.2.2.2.1).bind fun r2=>bif (!r2.1.1) then some ((true,()),()) else some ((((IntKind.wrap .i64 ((t0.2.2.1.length:Int)+(t0.2.2.2.2.2.1.length:Int)))==0),()),())
noncomputable def ct_I_goodSteps_1:Ct:=⟨[(.bor,Y_impl_Step)],[(.bool,.b)],fun x=>f_I_goodSteps_1 x.1⟩
noncomputable def cx_I_goodSteps_1:Cx:=⟨tab,arrs,[(135,ct_I_isTold)],[],gl,[]⟩
theorem ef_I_goodSteps_1 (t0:PV Y_impl_Step):denF cx_I_goodSteps_1 0 pl_I_goodSteps_1 Tryz.f134.ntmps (bodyOf Tryz.f134) Tryz.f134.results.toList [(.bor,Y_impl_Step)] [(.bool,.b)] (t0,())=f_I_goodSteps_1 t0:=by kernel_rfl
theorem ok_I_goodSteps_1:FnOk gl Tryz.prog 134 ct_I_goodSteps_1:=
 fnOk (cx:=cx_I_goodSteps_1) (pl:=pl_I_goodSteps_1) (dp:=0) (ok0_of tabOk (by unfold ArrOk;kernel_rfl) mix ⟨ok_I_isTold,trivial⟩ trivial) Tryz.func134 (by kernel_rfl) (by kernel_rfl) (by kernel_rfl)
  (by rw[show loopsOf (bodyOf Tryz.f134)=[] from by kernel_rfl];exact trivial) (fun x=>ef_I_goodSteps_1 x.1)
noncomputable def pl_I_goodSteps_133:Plan:=⟨[],[],1,11⟩
noncomputable def sh_I_goodSteps_204_2:List Sh:=mkSh 39 [(0,.val S_impl_Step .b),(2,.val .bool .b),(3,.val S_impl_Step .b),(4,.val (.int .i64) .b),(5,.val .bool .b),(6,.val .bool .b),(7,.val S_impl_Step .b),(11,.val S_impl_Step .b),(12,.fn 134 []),(15,.val .bool .b),(16,.val S_impl_Step .b),(17,.fn 134 []),(20,.val S_impl_Step .b),(21,.fn 134 []),(27,.val (.int .i64) .b),(28,.val (.int .i64) .b)]
noncomputable def o_I_goodSteps_204_2:List Out:=[⟨.exit 0,⟨[],[],[]⟩,mkSh 39 [(0,.val S_impl_Step .b),(2,.val .bool .b),(3,.val S_impl_Step .b),(4,.val (.int .i64) .b),(5,.val .bool .b),(6,.val .bool .b),(7,.val S_impl_Step .b),(11,.val S_impl_Step .b),(12,.fn 134 []),(15,.val .bool .b),(16,.val S_impl_Step .b),(17,.fn 134 [])]⟩,⟨.ret,⟨[],[4],[]⟩,mkSh 39 [(0,.val S_impl_Step .b),(2,.val .bool .b),(3,.val S_impl_Step .b),(4,.val (.int .i64) .b),(5,.val .bool .b),(6,.val .bool .b),(7,.val S_impl_Step .b),(11,.val S_impl_Step .b),(12,.fn 134 []),(15,.val .bool .b),(16,.val S_impl_Step .b),(17,.fn 134 []),(24,.val (.int .i64) .b)]⟩]
noncomputable def b_I_goodSteps_204_2 (t0:PV S_impl_Step)(t2:PV .bool)(t3:PV S_impl_Step)(t4:PV (.int .i64))(t5:PV .bool)(t6:PV .bool)(t7:PV S_impl_Step)(t11:PV S_impl_Step)(t15:PV .bool)(t16:PV S_impl_Step)(t20:PV S_impl_Step)(t27:PV (.int .i64))(t28:PV (.int .i64)):Option ((PV S_impl_Step×PV .bool×PV S_impl_Step×PV (.int .i64)×PV .bool×PV .bool×PV S_impl_Step×PV S_impl_Step×PV .bool×PV S_impl_Step×PV S_impl_Step×PV (.int .i64)×PV (.int .i64)×Unit)⊕((PV S_impl_Step×PV .bool×PV S_impl_Step×PV (.int .i64)×PV .bool×PV .bool×PV S_impl_Step×PV S_impl_Step×PV .bool×PV S_impl_Step×Unit)⊕(PV S_impl_Step×PV .bool×PV S_impl_Step×PV (.int .i64)×PV .bool×PV .bool×PV S_impl_Step×PV S_impl_Step×PV .bool×PV S_impl_Step×PV (.int .i64)×Unit))):=bif (decide (t28<t27)) then bif inB t28 t20.length then(f_I_goodSteps_1 (t20.getD t28.toNat (dflt Y_impl_Step))).bind fun r4=>bif r4.1.1 then some (.inr (.inr (t0,t2,t3,t4,t5,t6,t7,t11,t15,t16,t28,()))) else some (.inl (t0,t2,t3,t4,t5,t6,t7,t11,t15,t16,t20,t27,(IntKind.wrap .i64 (t28+1)),())) else none else some (.inr (.inl (t0,t2,t3,t4,t5,t6,t7,t11,t15,t16,())))
noncomputable def w_I_goodSteps_204_2:PV S_impl_Step×PV .bool×PV S_impl_Step×PV (.int .i64)×PV .bool×PV .bool×PV S_impl_Step×PV S_impl_Step×PV .bool×PV S_impl_Step×PV S_impl_Step×PV (.int .i64)×PV (.int .i64)×Unit→Option ((PV S_impl_Step×PV .bool×PV S_impl_Step×PV (.int .i64)×PV .bool×PV .bool×PV S_impl_Step×PV S_impl_Step×PV .bool×PV S_impl_Step×Unit)⊕(PV S_impl_Step×PV .bool×PV S_impl_Step×PV (.int .i64)×PV .bool×PV .bool×PV S_impl_Step×PV S_impl_Step×PV .bool×PV S_impl_Step×PV (.int .i64)×Unit)):=fix fun d=>b_I_goodSteps_204_2 d.1 d.2.1 d.2.2.1 d.2.2.2.1 d.2.2.2.2.1 d.2.2.2.2.2.1 d.2.2.2.2.2.2.1 d.2.2.2.2.2.2.2.1 d.2.2.2.2.2.2.2.2.1 d.2.2.2.2.2.2.2.2.2.1 d.2.2.2.2.2.2.2.2.2.2.1 d.2.2.2.2.2.2.2.2.2.2.2.1 d.2.2.2.2.2.2.2.2.2.2.2.2.1
noncomputable def lp_I_goodSteps_204_2:Lp:=⟨⟨[],[0,1,7,8],[]⟩,sh_I_goodSteps_204_2,o_I_goodSteps_204_2,fun d=>b_I_goodSteps_204_2 d.1 d.2.1 d.2.2.1 d.2.2.2.1 d.2.2.2.2.1 d.2.2.2.2.2.1 d.2.2.2.2.2.2.1 d.2.2.2.2.2.2.2.1 d.2.2.2.2.2.2.2.2.1 d.2.2.2.2.2.2.2.2.2.1 d.2.2.2.2.2.2.2.2.2.2.1 d.2.2.2.2.2.2.2.2.2.2.2.1 d.2.2.2.2.2.2.2.2.2.2.2.2.1⟩
noncomputable def pl_I_goodSteps_204:Plan:=⟨[],[(2,lp_I_goodSteps_204_2)],0,20⟩
noncomputable def pl_I_goodSteps:Plan:=⟨[],[],2,0⟩
noncomputable def f_I_goodSteps (t0:PV S_impl_Step):Option (PVs [.bool]×PVs []):=
 bif (decide ((t0.length:Int)≤20)) then
  (w_I_goodSteps_204_2 (t0,false,t0,(t0.length:Int),(decide ((t0.length:Int)≤20)),true,t0,t0,false,t0,t0,(t0.length:Int),0,())).bind fun x9=>
    match x9 with
    | .inl l7=>
      bif l7.2.2.2.2.2.1 then
       some (((!(decide ((-1)≥0))),()),())
      else
       some ((false,()),())
    | .inr l8=>
      bif l8.2.2.2.2.2.1 then
       some (((!(decide (l8.2.2.2.2.2.2.2.2.2.2.1≥0))),()),())
      else
       some ((false,()),())
 else
  some ((false,()),())
noncomputable def ct_I_goodSteps:Ct:=⟨[(.bor,S_impl_Step)],[(.bool,.b)],fun x=>f_I_goodSteps x.1⟩
noncomputable def cx_I_goodSteps:Cx:=⟨tab,arrs,[(134,ct_I_goodSteps_1)],[(133,Tryz.f133,pl_I_goodSteps_133),(204,Tryz.f204,pl_I_goodSteps_204)],gl,[]⟩
theorem eb_I_goodSteps_204_2 (t0:PV S_impl_Step)(t2:PV .bool)(t3:PV S_impl_Step)(t4:PV (.int .i64))(t5:PV .bool)(t6:PV .bool)(t7:PV S_impl_Step)(t11:PV S_impl_Step)(t15:PV .bool)(t16:PV S_impl_Step)(t20:PV S_impl_Step)(t27:PV (.int .i64))(t28:PV (.int .i64)):denK cx_I_goodSteps (rcN cx_I_goodSteps 0) pl_I_goodSteps_204 20 ((loopsOf (bodyOf Tryz.f204)).getD 0 .skip) (fillS sh_I_goodSteps_204_2 (t0,t2,t3,t4,t5,t6,t7,t11,t15,t16,t20,t27,t28,())) (roundK 20 lp_I_goodSteps_204_2)=b_I_goodSteps_204_2 t0 t2 t3 t4 t5 t6 t7 t11 t15 t16 t20 t27 t28:=by kernel_rfl
theorem ef_I_goodSteps (t0:PV S_impl_Step):denF cx_I_goodSteps 2 pl_I_goodSteps Tryz.f69.ntmps (bodyOf Tryz.f69) Tryz.f69.results.toList [(.bor,S_impl_Step)] [(.bool,.b)] (t0,())=f_I_goodSteps t0:=by kernel_rfl
theorem ok_I_goodSteps:FnOk gl Tryz.prog 69 ct_I_goodSteps:=
 fnOk (cx:=cx_I_goodSteps) (pl:=pl_I_goodSteps) (dp:=2) (ok0_of tabOk (by unfold ArrOk;kernel_rfl) mix ⟨ok_I_goodSteps_1,trivial⟩ ⟨⟨Tryz.func133,by kernel_rfl,(by rw[show loopsOf (bodyOf Tryz.f133)=[] from by kernel_rfl];exact trivial)⟩,⟨Tryz.func204,by kernel_rfl,(by rw[show loopsOf (bodyOf Tryz.f204)=[((loopsOf (bodyOf Tryz.f204)).getD 0 .skip)] from by kernel_rfl];exact⟨(by rw[show lookup pl_I_goodSteps_204.loops (firstId ((loopsOf (bodyOf Tryz.f204)).getD 0 .skip))=some lp_I_goodSteps_204_2 from by kernel_rfl];exact fun d z h=>(eb_I_goodSteps_204_2 d.1 d.2.1 d.2.2.1 d.2.2.2.1 d.2.2.2.2.1 d.2.2.2.2.2.1 d.2.2.2.2.2.2.1 d.2.2.2.2.2.2.2.1 d.2.2.2.2.2.2.2.2.1 d.2.2.2.2.2.2.2.2.2.1 d.2.2.2.2.2.2.2.2.2.2.1 d.2.2.2.2.2.2.2.2.2.2.2.1 d.2.2.2.2.2.2.2.2.2.2.2.2.1).trans h),trivial⟩)⟩,trivial⟩) Tryz.func69 (by kernel_rfl) (by kernel_rfl) (by kernel_rfl)
  (by rw[show loopsOf (bodyOf Tryz.f69)=[] from by kernel_rfl];exact trivial) (fun x=>ef_I_goodSteps x.1)
noncomputable def pl_I_pairOf:Plan:=⟨[],[],0,0⟩
noncomputable def f_I_pairOf (t0:PV (.int .i64))(t1:PV (.int .i64)):Option (PVs [.str]×PVs []):=bif (t0==t1) then(f_strconv_Itoa t0).bind fun r2=>some ((r2.1.1,()),()) else(f_strconv_Itoa t0).bind fun r3=>bif decide (r3.1.1.length+[44].length≤1099511627776) then(f_strconv_Itoa t1).bind fun r4=>bif decide ((r3.1.1++[44]).length+r4.1.1.length≤1099511627776) then some ((((r3.1.1++[44])++r4.1.1),()),()) else none else none
noncomputable def ct_I_pairOf:Ct:=⟨[(.bor,(.int .i64)),(.bor,(.int .i64))],[(.str,.b)],fun x=>f_I_pairOf x.1 x.2.1⟩
noncomputable def cx_I_pairOf:Cx:=⟨tab,arrs,[(205,ct_strconv_Itoa)],[],gl,[]⟩
theorem ef_I_pairOf (t0:PV (.int .i64))(t1:PV (.int .i64)):denF cx_I_pairOf 0 pl_I_pairOf Tryz.f136.ntmps (bodyOf Tryz.f136) Tryz.f136.results.toList [(.bor,(.int .i64)),(.bor,(.int .i64))] [(.str,.b)] (t0,t1,())=f_I_pairOf t0 t1:=by kernel_rfl
theorem ok_I_pairOf:FnOk gl Tryz.prog 136 ct_I_pairOf:=
 fnOk (cx:=cx_I_pairOf) (pl:=pl_I_pairOf) (dp:=0) (ok0_of tabOk (by unfold ArrOk;kernel_rfl) mix ⟨ok_strconv_Itoa,trivial⟩ trivial) Tryz.func136 (by kernel_rfl) (by kernel_rfl) (by kernel_rfl)
  (by rw[show loopsOf (bodyOf Tryz.f136)=[] from by kernel_rfl];exact trivial) (fun x=>ef_I_pairOf x.1 x.2.1)
noncomputable def pl_I_shown:Plan:=⟨[],[],0,0⟩
noncomputable def f_I_shown (t0:PV .str)(t1:PV .str):Option (PVs [.str]×PVs []):=(f_I_isEnded t1).bind fun r4=>bif r4.1.1 then bif decide (t0.length+t1.length≤1099511627776) then some (((t0++t1),()),()) else none else bif decide (t0.length+t1.length≤1099511627776) then bif decide ((t0++t1).length+[10].length≤1099511627776) then bif decide (((t0++t1)++[10]).length+[92,32,110,111,110,101,10].length≤1099511627776) then some (((((t0++t1)++[10])++[92,32,110,111,110,101,10]),()),()) else none else none else none
noncomputable def ct_I_shown:Ct:=⟨[(.bor,.str),(.bor,.str)],[(.str,.b)],fun x=>f_I_shown x.1 x.2.1⟩
noncomputable def cx_I_shown:Cx:=⟨tab,arrs,[(157,ct_I_isEnded)],[],gl,[]⟩
theorem ef_I_shown (t0:PV .str)(t1:PV .str):denF cx_I_shown 0 pl_I_shown Tryz.f181.ntmps (bodyOf Tryz.f181) Tryz.f181.results.toList [(.bor,.str),(.bor,.str)] [(.str,.b)] (t0,t1,())=f_I_shown t0 t1:=by kernel_rfl
theorem ok_I_shown:FnOk gl Tryz.prog 181 ct_I_shown:=
 fnOk (cx:=cx_I_shown) (pl:=pl_I_shown) (dp:=0) (ok0_of tabOk (by unfold ArrOk;kernel_rfl) mix ⟨ok_I_isEnded,trivial⟩ trivial) Tryz.func181 (by kernel_rfl) (by kernel_rfl) (by kernel_rfl)
  (by rw[show loopsOf (bodyOf Tryz.f181)=[] from by kernel_rfl];exact trivial) (fun x=>ef_I_shown x.1 x.2.1)
noncomputable def sh_I_allShown_3:List Sh:=mkSh 21 [(0,.val .str .b),(5,.val .str .b),(8,.val S_string .b),(9,.val (.int .i64) .b),(10,.val (.int .i64) .b)]
noncomputable def o_I_allShown_3:List Out:=[⟨.exit 0,⟨[],[5],[]⟩,mkSh 21 [(5,.val .str .b)]⟩]
noncomputable def b_I_allShown_3 (t0:PV .str)(t5:PV .str)(t8:PV S_string)(t9:PV (.int .i64))(t10:PV (.int .i64)):Option ((PV .str×PV .str×PV S_string×PV (.int .i64)×PV (.int .i64)×Unit)⊕((PV .str×Unit))):=bif (decide (t10<t9)) then bif inB t10 t8.length then(f_I_shown t0 (t8.getD t10.toNat [])).bind fun r2=>bif decide (t5.length+r2.1.1.length≤1099511627776) then some (.inl (t0,(t5++r2.1.1),t8,t9,(IntKind.wrap .i64 (t10+1)),())) else none else none else some (.inr (t5,()))
noncomputable def w_I_allShown_3:PV .str×PV .str×PV S_string×PV (.int .i64)×PV (.int .i64)×Unit→Option ((PV .str×Unit)):=fix fun d=>b_I_allShown_3 d.1 d.2.1 d.2.2.1 d.2.2.2.1 d.2.2.2.2.1
noncomputable def lp_I_allShown_3:Lp:=⟨⟨[],[0,5,8,9,10],[]⟩,sh_I_allShown_3,o_I_allShown_3,fun d=>b_I_allShown_3 d.1 d.2.1 d.2.2.1 d.2.2.2.1 d.2.2.2.2.1⟩
noncomputable def pl_I_allShown:Plan:=⟨[],[(3,lp_I_allShown_3)],0,0⟩
noncomputable def f_I_allShown (t0:PV .str)(t1:PV S_string):Option (PVs [.str]×PVs []):=(w_I_allShown_3 (t0,[],t1,(t1.length:Int),0,())).bind fun l4=>some ((l4.1,()),())
noncomputable def ct_I_allShown:Ct:=⟨[(.bor,.str),(.bor,S_string)],[(.str,.b)],fun x=>f_I_allShown x.1 x.2.1⟩
noncomputable def cx_I_allShown:Cx:=⟨tab,arrs,[(181,ct_I_shown)],[],gl,[]⟩
theorem eb_I_allShown_3 (t0:PV .str)(t5:PV .str)(t8:PV S_string)(t9:PV (.int .i64))(t10:PV (.int .i64)):denK cx_I_allShown (rcN cx_I_allShown 0) pl_I_allShown 0 ((loopsOf (bodyOf Tryz.f137)).getD 0 .skip) (fillS sh_I_allShown_3 (t0,t5,t8,t9,t10,())) (roundK 0 lp_I_allShown_3)=b_I_allShown_3 t0 t5 t8 t9 t10:=by kernel_rfl
theorem ef_I_allShown (t0:PV .str)(t1:PV S_string):denF cx_I_allShown 0 pl_I_allShown Tryz.f137.ntmps (bodyOf Tryz.f137) Tryz.f137.results.toList [(.bor,.str),(.bor,S_string)] [(.str,.b)] (t0,t1,())=f_I_allShown t0 t1:=by kernel_rfl
theorem ok_I_allShown:FnOk gl Tryz.prog 137 ct_I_allShown:=
 fnOk (cx:=cx_I_allShown) (pl:=pl_I_allShown) (dp:=0) (ok0_of tabOk (by unfold ArrOk;kernel_rfl) mix ⟨ok_I_shown,trivial⟩ trivial) Tryz.func137 (by kernel_rfl) (by kernel_rfl) (by kernel_rfl)
  (by rw[show loopsOf (bodyOf Tryz.f137)=[((loopsOf (bodyOf Tryz.f137)).getD 0 .skip)] from by kernel_rfl];exact⟨(by rw[show lookup pl_I_allShown.loops (firstId ((loopsOf (bodyOf Tryz.f137)).getD 0 .skip))=some lp_I_allShown_3 from by kernel_rfl];exact fun d z h=>(eb_I_allShown_3 d.1 d.2.1 d.2.2.1 d.2.2.2.1 d.2.2.2.2.1).trans h),trivial⟩) (fun x=>ef_I_allShown x.1 x.2.1)
noncomputable def o_I_stepText_6:List Out:=[⟨.normal,⟨[],[1,3,4],[]⟩,mkSh 39 [(1,.var Y_impl_Step .b),(3,.val .str .b),(4,.val .str .b)]⟩]
noncomputable def pl_I_stepText:Plan:=⟨[(6,o_I_stepText_6)],[],0,0⟩
noncomputable def f_I_stepText (t0:PV Y_impl_Step):Option (PVs [.str]×PVs []):=((bif ((t0.2.2.1.length:Int)==0) then some (t0,[97],[],()) else bif ((t0.2.2.2.2.2.1.length:Int)==0) then some (t0,[100],[],()) else some (t0,[99],[45,45,45,10],()):Option ((PV Y_impl_Step×PV .str×PV .str×Unit)))).bind fun j1=>(f_I_pairOf j1.1.1 j1.1.2.1).bind fun r2=>bif decide (r2.1.1.length+j1.2.1.length≤1099511627776) then(f_I_pairOf j1.1.2.2.2.1 j1.1.2.2.2.2.1).bind fun r3=>bif decide ((r2.1.1++j1.2.1).length+r3.1.1.length≤1099511627776) then bif decide (((r2.1.1++j1.2.1)++r3.1.1).length+[10].length≤1099511627776) then(f_I_allShown [60,32] j1.1.2.2.1).bind fun r4=>bif decide ((((r2.1.1++j1.2.1)++r3.1.1)++[10]).length+r4.1.1.length≤1099511627776) then bif decide (((((r2.1.1++j1.2.1)++r3.1.1)++[10])++r4.1.1).length+j1.2.2.1.length≤1099511627776) then(f_I_allShown [62,32] j1.1.2.2.2.2.2.1).bind fun r5=>bif decide ((((((r2.1.1++j1.2.1)++r3.1.1)++[10])++r4.1.1)++j1.2.2.1).length+r5.1.1.length≤1099511627776) then some ((((((((r2.1.1++j1.2.1)++r3.1.1)++[10])++r4.1.1)++j1.2.2.1)++r5.1.1),()),()) else none else none else none else none else none else none
noncomputable def ct_I_stepText:Ct:=⟨[(.bor,Y_impl_Step)],[(.str,.b)],fun x=>f_I_stepText x.1⟩
noncomputable def cx_I_stepText:Cx:=⟨tab,arrs,[(136,ct_I_pairOf),(137,ct_I_allShown)],[],gl,[]⟩
theorem ef_I_stepText (t0:PV Y_impl_Step):denF cx_I_stepText 0 pl_I_stepText Tryz.f70.ntmps (bodyOf Tryz.f70) Tryz.f70.results.toList [(.bor,Y_impl_Step)] [(.str,.b)] (t0,())=f_I_stepText t0:=by kernel_rfl
theorem ok_I_stepText:FnOk gl Tryz.prog 70 ct_I_stepText:=
 fnOk (cx:=cx_I_stepText) (pl:=pl_I_stepText) (dp:=0) (ok0_of tabOk (by unfold ArrOk;kernel_rfl) mix ⟨ok_I_pairOf,ok_I_allShown,trivial⟩ trivial) Tryz.func70 (by kernel_rfl) (by kernel_rfl) (by kernel_rfl)
  (by rw[show loopsOf (bodyOf Tryz.f70)=[] from by kernel_rfl];exact trivial) (fun x=>ef_I_stepText x.1)
noncomputable def pl_I_short:Plan:=⟨[],[],0,0⟩
noncomputable def f_I_short (t0:PV .str):Option (PVs [.str,.bool]×PVs []):=bif (decide ((t0.length:Int)>3000)) then some (([],false,()),()) else some ((t0,true,()),())
noncomputable def ct_I_short:Ct:=⟨[(.bor,.str)],[(.str,.b),(.bool,.b)],fun x=>f_I_short x.1⟩
noncomputable def cx_I_short:Cx:=⟨tab,arrs,[],[],gl,[]⟩
theorem ef_I_short (t0:PV .str):denF cx_I_short 0 pl_I_short Tryz.f71.ntmps (bodyOf Tryz.f71) Tryz.f71.results.toList [(.bor,.str)] [(.str,.b),(.bool,.b)] (t0,())=f_I_short t0:=by kernel_rfl
theorem ok_I_short:FnOk gl Tryz.prog 71 ct_I_short:=
 fnOk (cx:=cx_I_short) (pl:=pl_I_short) (dp:=0) (ok0_of tabOk (by unfold ArrOk;kernel_rfl) mix trivial trivial) Tryz.func71 (by kernel_rfl) (by kernel_rfl) (by kernel_rfl)
  (by rw[show loopsOf (bodyOf Tryz.f71)=[] from by kernel_rfl];exact trivial) (fun x=>ef_I_short x.1)
noncomputable def sh_I_StepsText_5:List Sh:=mkSh 25 [(4,.val .str .b),(10,.val S_impl_Step .b),(11,.val (.int .i64) .b),(12,.val (.int .i64) .b)]
noncomputable def o_I_StepsText_5:List Out:=[⟨.exit 0,⟨[],[4],[]⟩,mkSh 25 [(4,.val .str .b)]⟩]
noncomputable def b_I_StepsText_5 (t4:PV .str)(t10:PV S_impl_Step)(t11:PV (.int .i64))(t12:PV (.int .i64)):Option ((PV .str×PV S_impl_Step×PV (.int .i64)×PV (.int .i64)×Unit)⊕((PV .str×Unit))):=bif (decide (t12<t11)) then bif inB t12 t10.length then(f_I_stepText (t10.getD t12.toNat (dflt Y_impl_Step))).bind fun r6=>bif decide (t4.length+r6.1.1.length≤1099511627776) then some (.inl ((t4++r6.1.1),t10,t11,(IntKind.wrap .i64 (t12+1)),())) else none else none else some (.inr (t4,()))
noncomputable def w_I_StepsText_5:PV .str×PV S_impl_Step×PV (.int .i64)×PV (.int .i64)×Unit→Option ((PV .str×Unit)):=fix fun d=>b_I_StepsText_5 d.1 d.2.1 d.2.2.1 d.2.2.2.1
noncomputable def lp_I_StepsText_5:Lp:=⟨⟨[],[4,10,11,12],[]⟩,sh_I_StepsText_5,o_I_StepsText_5,fun d=>b_I_StepsText_5 d.1 d.2.1 d.2.2.1 d.2.2.2.1⟩
noncomputable def pl_I_StepsText:Plan:=⟨[],[(5,lp_I_StepsText_5)],0,0⟩
noncomputable def f_I_StepsText (t0:PV S_impl_Step):Option (PVs [.str,.bool]×PVs []):=(f_I_goodSteps t0).bind fun r4=>bif (!r4.1.1) then some (([],false,()),()) else(w_I_StepsText_5 ([],t0,(t0.length:Int),0,())).bind fun l8=>(f_I_short l8.1).bind fun r9=>some ((r9.1.1,r9.1.2.1,()),())
noncomputable def ct_I_StepsText:Ct:=⟨[(.bor,S_impl_Step)],[(.str,.b),(.bool,.b)],fun x=>f_I_StepsText x.1⟩
noncomputable def cx_I_StepsText:Cx:=⟨tab,arrs,[(69,ct_I_goodSteps),(70,ct_I_stepText),(71,ct_I_short)],[],gl,[]⟩
theorem eb_I_StepsText_5 (t4:PV .str)(t10:PV S_impl_Step)(t11:PV (.int .i64))(t12:PV (.int .i64)):denK cx_I_StepsText (rcN cx_I_StepsText 0) pl_I_StepsText 0 ((loopsOf (bodyOf Tryz.f26)).getD 0 .skip) (fillS sh_I_StepsText_5 (t4,t10,t11,t12,())) (roundK 0 lp_I_StepsText_5)=b_I_StepsText_5 t4 t10 t11 t12:=by kernel_rfl
theorem ef_I_StepsText (t0:PV S_impl_Step):denF cx_I_StepsText 0 pl_I_StepsText Tryz.f26.ntmps (bodyOf Tryz.f26) Tryz.f26.results.toList [(.bor,S_impl_Step)] [(.str,.b),(.bool,.b)] (t0,())=f_I_StepsText t0:=by kernel_rfl
theorem ok_I_StepsText:FnOk gl Tryz.prog 26 ct_I_StepsText:=
 fnOk (cx:=cx_I_StepsText) (pl:=pl_I_StepsText) (dp:=0) (ok0_of tabOk (by unfold ArrOk;kernel_rfl) mix ⟨ok_I_goodSteps,ok_I_stepText,ok_I_short,trivial⟩ trivial) Tryz.func26 (by kernel_rfl) (by kernel_rfl) (by kernel_rfl)
  (by rw[show loopsOf (bodyOf Tryz.f26)=[((loopsOf (bodyOf Tryz.f26)).getD 0 .skip)] from by kernel_rfl];exact⟨(by rw[show lookup pl_I_StepsText.loops (firstId ((loopsOf (bodyOf Tryz.f26)).getD 0 .skip))=some lp_I_StepsText_5 from by kernel_rfl];exact fun d z h=>(eb_I_StepsText_5 d.1 d.2.1 d.2.2.1 d.2.2.2.1).trans h),trivial⟩) (fun x=>ef_I_StepsText x.1)
noncomputable def o_S_l5Lines_5:List Out:=[⟨.normal,⟨[],[0,5,6,7,26],[]⟩,mkSh 31 [(0,.val S_string .b),(5,.val S_string .b),(6,.val (.int .i64) .b),(7,.val (.int .i64) .b),(26,.val .bool .b)]⟩]
noncomputable def sh_S_l5Lines_2:List Sh:=mkSh 31 [(0,.val S_string .b),(5,.val S_string .b),(6,.val (.int .i64) .b),(7,.val (.int .i64) .b)]
noncomputable def o_S_l5Lines_2:List Out:=[⟨.exit 0,⟨[],[0],[]⟩,mkSh 31 [(0,.val S_string .b)]⟩,⟨.ret,⟨[],[2],[]⟩,mkSh 31 [(2,.val .bool .b)]⟩]
noncomputable def b_S_l5Lines_2 (t0:PV S_string)(t5:PV S_string)(t6:PV (.int .i64))(t7:PV (.int .i64)):Option ((PV S_string×PV S_string×PV (.int .i64)×PV (.int .i64)×Unit)⊕((PV S_string×Unit)⊕(PV .bool×Unit))):=bif (decide (t7<t6)) then bif inB t7 t5.length then(((f_S_l1Line (t5.getD t7.toNat [])).bind fun r4=>bif (!r4.1.1) then some (t0,t5,t6,t7,true,()) else bif (decide (t7<(IntKind.wrap .i64 ((t0.length:Int) -1)))) then(f_S_l1Ends (t5.getD t7.toNat [])).bind fun r5=>some (t0,t5,t6,t7,(!r5.1.1),()) else some (t0,t5,t6,t7,false,()):Option ((PV S_string×PV S_string×PV (.int .i64)×PV (.int .i64)×PV .bool×Unit)))).bind fun j6=>bif j6.2.2.2.2.1 then some (.inr (.inr (false,()))) else some (.inl (j6.1,j6.2.1,j6.2.2.1,(IntKind.wrap .i64 (j6.2.2.2.1+1)),())) else none else some (.inr (.inl (t0,())))
noncomputable def w_S_l5Lines_2:PV S_string×PV S_string×PV (.int .i64)×PV (.int .i64)×Unit→Option ((PV S_string×Unit)⊕(PV .bool×Unit)):=fix fun d=>b_S_l5Lines_2 d.1 d.2.1 d.2.2.1 d.2.2.2.1
noncomputable def lp_S_l5Lines_2:Lp:=⟨⟨[],[0,5,6,7,16,17,18,19,20,21,22,23,24,25],[]⟩,sh_S_l5Lines_2,o_S_l5Lines_2,fun d=>b_S_l5Lines_2 d.1 d.2.1 d.2.2.1 d.2.2.2.1⟩
noncomputable def pl_S_l5Lines:Plan:=⟨[(5,o_S_l5Lines_5)],[(2,lp_S_l5Lines_2)],0,0⟩
noncomputable def f_S_l5Lines (t0:PV S_string):Option (PVs [.bool]×PVs []):=
 (w_S_l5Lines_2 (t0,t0,(t0.length:Int),0,())).bind fun x11=>
   match x11 with
   | .inl l9=>
     some (((decide ((l9.1.length:Int)≤40)),()),())
   | .inr l10=>
     some ((l10.1,()),())
noncomputable def ct_S_l5Lines:Ct:=⟨[(.bor,S_string)],[(.bool,.b)],fun x=>f_S_l5Lines x.1⟩
noncomputable def cx_S_l5Lines:Cx:=⟨tab,arrs,[(128,ct_S_l1Ends),(183,ct_S_l1Line)],[],gl,[]⟩
theorem eb_S_l5Lines_2 (t0:PV S_string)(t5:PV S_string)(t6:PV (.int .i64))(t7:PV (.int .i64)):denK cx_S_l5Lines (rcN cx_S_l5Lines 0) pl_S_l5Lines 0 ((loopsOf (bodyOf Tryz.f184)).getD 0 .skip) (fillS sh_S_l5Lines_2 (t0,t5,t6,t7,())) (roundK 0 lp_S_l5Lines_2)=b_S_l5Lines_2 t0 t5 t6 t7:=by kernel_rfl
theorem ef_S_l5Lines (t0:PV S_string):denF cx_S_l5Lines 0 pl_S_l5Lines Tryz.f184.ntmps (bodyOf Tryz.f184) Tryz.f184.results.toList [(.bor,S_string)] [(.bool,.b)] (t0,())=f_S_l5Lines t0:=by kernel_rfl
theorem ok_S_l5Lines:FnOk gl Tryz.prog 184 ct_S_l5Lines:=
 fnOk (cx:=cx_S_l5Lines) (pl:=pl_S_l5Lines) (dp:=0) (ok0_of tabOk (by unfold ArrOk;kernel_rfl) mix ⟨ok_S_l1Ends,ok_S_l1Line,trivial⟩ trivial) Tryz.func184 (by kernel_rfl) (by kernel_rfl) (by kernel_rfl)
  (by rw[show loopsOf (bodyOf Tryz.f184)=[((loopsOf (bodyOf Tryz.f184)).getD 0 .skip)] from by kernel_rfl];exact⟨(by rw[show lookup pl_S_l5Lines.loops (firstId ((loopsOf (bodyOf Tryz.f184)).getD 0 .skip))=some lp_S_l5Lines_2 from by kernel_rfl];exact fun d z h=>(eb_S_l5Lines_2 d.1 d.2.1 d.2.2.1 d.2.2.2.1).trans h),trivial⟩) (fun x=>ef_S_l5Lines x.1)
noncomputable def o_S_l5Side_2:List Out:=[⟨.normal,⟨[],[0,1,2,19,29,30,31,32,33,34,35],[]⟩,mkSh 37 [(0,.val (.int .i64) .b),(1,.val (.int .i64) .b),(2,.val S_string .b),(19,.val .bool .b)]⟩]
noncomputable def pl_S_l5Side:Plan:=⟨[(2,o_S_l5Side_2)],[],0,0⟩
noncomputable def f_S_l5Side (t0:PV (.int .i64))(t1:PV (.int .i64))(t2:PV S_string):Option (PVs [.bool]×PVs []):=(((f_S_l1In t0 0 1000).bind fun r8=>bif (!r8.1.1) then some (t0,t1,t2,true,()) else(f_S_l1In t1 0 1000).bind fun r9=>bif (!r9.1.1) then some (t0,t1,t2,true,()) else(f_S_l5Lines t2).bind fun r10=>some (t0,t1,t2,(!r10.1.1),()):Option ((PV (.int .i64)×PV (.int .i64)×PV S_string×PV .bool×Unit)))).bind fun j11=>bif j11.2.2.2.1 then some ((false,()),()) else bif ((j11.2.2.1.length:Int)==0) then some (((j11.2.1==j11.1),()),()) else bif (decide (j11.1≥1)) then some ((((IntKind.wrap .i64 ((IntKind.wrap .i64 (j11.2.1 -j11.1))+1))==(j11.2.2.1.length:Int)),()),()) else some ((false,()),())
noncomputable def ct_S_l5Side:Ct:=⟨[(.bor,(.int .i64)),(.bor,(.int .i64)),(.bor,S_string)],[(.bool,.b)],fun x=>f_S_l5Side x.1 x.2.1 x.2.2.1⟩
noncomputable def cx_S_l5Side:Cx:=⟨tab,arrs,[(114,ct_S_l1In),(184,ct_S_l5Lines)],[],gl,[]⟩
theorem ef_S_l5Side (t0:PV (.int .i64))(t1:PV (.int .i64))(t2:PV S_string):denF cx_S_l5Side 0 pl_S_l5Side Tryz.f140.ntmps (bodyOf Tryz.f140) Tryz.f140.results.toList [(.bor,(.int .i64)),(.bor,(.int .i64)),(.bor,S_string)] [(.bool,.b)] (t0,t1,t2,())=f_S_l5Side t0 t1 t2:=by kernel_rfl
theorem ok_S_l5Side:FnOk gl Tryz.prog 140 ct_S_l5Side:=
 fnOk (cx:=cx_S_l5Side) (pl:=pl_S_l5Side) (dp:=0) (ok0_of tabOk (by unfold ArrOk;kernel_rfl) mix ⟨ok_S_l1In,ok_S_l5Lines,trivial⟩ trivial) Tryz.func140 (by kernel_rfl) (by kernel_rfl) (by kernel_rfl)
  (by rw[show loopsOf (bodyOf Tryz.f140)=[] from by kernel_rfl];exact trivial) (fun x=>ef_S_l5Side x.1 x.2.1 x.2.2.1)
noncomputable def pl_S_l5Step:Plan:=⟨[],[],0,0⟩
noncomputable def f_S_l5Step (t0:PV Y_impl_Step):Option (PVs [.bool]×PVs []):=(f_S_l5Side t0.1 t0.2.1 t0.2.2.1).bind fun r1=>bif r1.1.1 then(f_S_l5Side t0.2.2.2.1 t0.2.2.2.2.1 t0.2.2.2.2.2.1).bind fun r2=>bif r2.1.1 then some (((decide ((IntKind.wrap .i64 ((t0.2.2.1.length:Int)+(t0.2.2.2.2.2.1.length:Int)))>0)),()),()) else some ((false,()),()) else some ((false,()),())
noncomputable def ct_S_l5Step:Ct:=⟨[(.bor,Y_impl_Step)],[(.bool,.b)],fun x=>f_S_l5Step x.1⟩
noncomputable def cx_S_l5Step:Cx:=⟨tab,arrs,[(140,ct_S_l5Side)],[],gl,[]⟩
theorem ef_S_l5Step (t0:PV Y_impl_Step):denF cx_S_l5Step 0 pl_S_l5Step Tryz.f73.ntmps (bodyOf Tryz.f73) Tryz.f73.results.toList [(.bor,Y_impl_Step)] [(.bool,.b)] (t0,())=f_S_l5Step t0:=by kernel_rfl
theorem ok_S_l5Step:FnOk gl Tryz.prog 73 ct_S_l5Step:=
 fnOk (cx:=cx_S_l5Step) (pl:=pl_S_l5Step) (dp:=0) (ok0_of tabOk (by unfold ArrOk;kernel_rfl) mix ⟨ok_S_l5Side,trivial⟩ trivial) Tryz.func73 (by kernel_rfl) (by kernel_rfl) (by kernel_rfl)
  (by rw[show loopsOf (bodyOf Tryz.f73)=[] from by kernel_rfl];exact trivial) (fun x=>ef_S_l5Step x.1)
noncomputable def sh_S_GoodSteps_2:List Sh:=mkSh 18 [(0,.val S_impl_Step .b),(5,.val S_impl_Step .b),(6,.val (.int .i64) .b),(7,.val (.int .i64) .b)]
noncomputable def o_S_GoodSteps_2:List Out:=[⟨.exit 0,⟨[],[0],[]⟩,mkSh 18 [(0,.val S_impl_Step .b)]⟩,⟨.ret,⟨[],[2],[]⟩,mkSh 18 [(2,.val .bool .b)]⟩]
noncomputable def b_S_GoodSteps_2 (t0:PV S_impl_Step)(t5:PV S_impl_Step)(t6:PV (.int .i64))(t7:PV (.int .i64)):Option ((PV S_impl_Step×PV S_impl_Step×PV (.int .i64)×PV (.int .i64)×Unit)⊕((PV S_impl_Step×Unit)⊕(PV .bool×Unit))):=bif (decide (t7<t6)) then bif inB t7 t5.length then(f_S_l5Step (t5.getD t7.toNat (dflt Y_impl_Step))).bind fun r4=>bif (!r4.1.1) then some (.inr (.inr (false,()))) else some (.inl (t0,t5,t6,(IntKind.wrap .i64 (t7+1)),())) else none else some (.inr (.inl (t0,())))
noncomputable def w_S_GoodSteps_2:PV S_impl_Step×PV S_impl_Step×PV (.int .i64)×PV (.int .i64)×Unit→Option ((PV S_impl_Step×Unit)⊕(PV .bool×Unit)):=fix fun d=>b_S_GoodSteps_2 d.1 d.2.1 d.2.2.1 d.2.2.2.1
noncomputable def lp_S_GoodSteps_2:Lp:=⟨⟨[],[0,5,6,7],[]⟩,sh_S_GoodSteps_2,o_S_GoodSteps_2,fun d=>b_S_GoodSteps_2 d.1 d.2.1 d.2.2.1 d.2.2.2.1⟩
noncomputable def pl_S_GoodSteps:Plan:=⟨[],[(2,lp_S_GoodSteps_2)],0,0⟩
noncomputable def f_S_GoodSteps (t0:PV S_impl_Step):Option (PVs [.bool]×PVs []):=
 (w_S_GoodSteps_2 (t0,t0,(t0.length:Int),0,())).bind fun x9=>
   match x9 with
   | .inl l7=>
     some (((decide ((l7.1.length:Int)≤20)),()),())
   | .inr l8=>
     some ((l8.1,()),())
noncomputable def ct_S_GoodSteps:Ct:=⟨[(.bor,S_impl_Step)],[(.bool,.b)],fun x=>f_S_GoodSteps x.1⟩
noncomputable def cx_S_GoodSteps:Cx:=⟨tab,arrs,[(73,ct_S_l5Step)],[],gl,[]⟩
theorem eb_S_GoodSteps_2 (t0:PV S_impl_Step)(t5:PV S_impl_Step)(t6:PV (.int .i64))(t7:PV (.int .i64)):denK cx_S_GoodSteps (rcN cx_S_GoodSteps 0) pl_S_GoodSteps 0 ((loopsOf (bodyOf Tryz.f29)).getD 0 .skip) (fillS sh_S_GoodSteps_2 (t0,t5,t6,t7,())) (roundK 0 lp_S_GoodSteps_2)=b_S_GoodSteps_2 t0 t5 t6 t7:=by kernel_rfl
theorem ef_S_GoodSteps (t0:PV S_impl_Step):denF cx_S_GoodSteps 0 pl_S_GoodSteps Tryz.f29.ntmps (bodyOf Tryz.f29) Tryz.f29.results.toList [(.bor,S_impl_Step)] [(.bool,.b)] (t0,())=f_S_GoodSteps t0:=by kernel_rfl
theorem ok_S_GoodSteps:FnOk gl Tryz.prog 29 ct_S_GoodSteps:=
 fnOk (cx:=cx_S_GoodSteps) (pl:=pl_S_GoodSteps) (dp:=0) (ok0_of tabOk (by unfold ArrOk;kernel_rfl) mix ⟨ok_S_l5Step,trivial⟩ trivial) Tryz.func29 (by kernel_rfl) (by kernel_rfl) (by kernel_rfl)
  (by rw[show loopsOf (bodyOf Tryz.f29)=[((loopsOf (bodyOf Tryz.f29)).getD 0 .skip)] from by kernel_rfl];exact⟨(by rw[show lookup pl_S_GoodSteps.loops (firstId ((loopsOf (bodyOf Tryz.f29)).getD 0 .skip))=some lp_S_GoodSteps_2 from by kernel_rfl];exact fun d z h=>(eb_S_GoodSteps_2 d.1 d.2.1 d.2.2.1 d.2.2.2.1).trans h),trivial⟩) (fun x=>ef_S_GoodSteps x.1)
noncomputable def fr_S_l1Num (ih:PV (.int .i64)→Option (PVs [.str]×PVs []))(t0:PV (.int .i64)):Option (PVs [.str]×PVs []):=
 bif (decide (t0<10)) then
  some (((bytesOfInts [(IntKind.wrap .u8 (IntKind.wrap .i64 (48+t0)))]),()),())
 else
  bif 10==0 then
   none
  else
   (ih (IntKind.wrap .i64 (t0.tdiv 10))).bind fun r1=>
     bif 10==0 then
      none
     else
      bif decide (r1.1.1.length+(bytesOfInts [(IntKind.wrap .u8 (IntKind.wrap .i64 (48+(t0.tmod 10))))]).length≤1099511627776) then
       some (((r1.1.1++(bytesOfInts [(IntKind.wrap .u8 (IntKind.wrap .i64 (48+(t0.tmod 10))))])),()),())
      else
       none
noncomputable def fn_S_l1Num:Nat→PV (.int .i64)→Option (PVs [.str]×PVs []):=fun n=>Nat.rec (motive:=fun _=>PV (.int .i64)→Option (PVs [.str]×PVs [])) (fun _=>none) (fun _ ih=>fr_S_l1Num ih) n
noncomputable def f_S_l1Num (t0:PV (.int .i64)):Option (PVs [.str]×PVs []):=fn_S_l1Num (t0.toNat+1) t0
noncomputable def ct_S_l1Num:Ct:=⟨[(.bor,(.int .i64))],[(.str,.b)],fun x=>f_S_l1Num x.1⟩
noncomputable def ctn_S_l1Num (n:Nat):Ct:=⟨[(.bor,(.int .i64))],[(.str,.b)],fun x=>fn_S_l1Num n x.1⟩
noncomputable def cxn_S_l1Num (n:Nat):Cx:=⟨tab,arrs,[(196,ctn_S_l1Num n)],[],gl,[]⟩
noncomputable def pl_S_l1Num:Plan:=⟨[],[],0,0⟩
theorem efn_S_l1Num (n:Nat)(t0:PV (.int .i64)):denF (cxn_S_l1Num n) 0 pl_S_l1Num Tryz.f196.ntmps (bodyOf Tryz.f196) Tryz.f196.results.toList [(.bor,(.int .i64))] [(.str,.b)] (t0,())=fr_S_l1Num (fn_S_l1Num n) t0:=by kernel_rfl
theorem okn_S_l1Num:∀n,FnOk gl Tryz.prog 196 (ctn_S_l1Num n)
 |0=>fnOk_none (by kernel_rfl)
 |n+1=>fnOk (cx:=cxn_S_l1Num n) (pl:=pl_S_l1Num) (dp:=0) (ct:=ctn_S_l1Num (n+1)) (ok0_of tabOk (by unfold ArrOk;kernel_rfl) mix ⟨okn_S_l1Num n,trivial⟩ trivial) Tryz.func196 (by kernel_rfl) (by kernel_rfl) (by kernel_rfl)
  (by rw[show loopsOf (bodyOf Tryz.f196)=[] from by kernel_rfl];exact trivial) (fun x=>efn_S_l1Num n x.1)
theorem ok_S_l1Num:FnOk gl Tryz.prog 196 ct_S_l1Num:=fnOk_fuel (pars:=[(.bor,(.int .i64))]) (rets:=[(.str,.b)]) (Fs:=fun n x=>fn_S_l1Num n x.1) (N:=fun x=>x.1.toNat+1) okn_S_l1Num
noncomputable def pl_S_l5Numbers:Plan:=⟨[],[],0,0⟩
noncomputable def f_S_l5Numbers (t0:PV (.int .i64))(t1:PV (.int .i64)):Option (PVs [.str]×PVs []):=bif (t0==t1) then(f_S_l1Num t0).bind fun r2=>some ((r2.1.1,()),()) else(f_S_l1Num t0).bind fun r3=>bif decide (r3.1.1.length+[44].length≤1099511627776) then(f_S_l1Num t1).bind fun r4=>bif decide ((r3.1.1++[44]).length+r4.1.1.length≤1099511627776) then some ((((r3.1.1++[44])++r4.1.1),()),()) else none else none
noncomputable def ct_S_l5Numbers:Ct:=⟨[(.bor,(.int .i64)),(.bor,(.int .i64))],[(.str,.b)],fun x=>f_S_l5Numbers x.1 x.2.1⟩
noncomputable def cx_S_l5Numbers:Cx:=⟨tab,arrs,[(196,ct_S_l1Num)],[],gl,[]⟩
theorem ef_S_l5Numbers (t0:PV (.int .i64))(t1:PV (.int .i64)):denF cx_S_l5Numbers 0 pl_S_l5Numbers Tryz.f138.ntmps (bodyOf Tryz.f138) Tryz.f138.results.toList [(.bor,(.int .i64)),(.bor,(.int .i64))] [(.str,.b)] (t0,t1,())=f_S_l5Numbers t0 t1:=by kernel_rfl
theorem ok_S_l5Numbers:FnOk gl Tryz.prog 138 ct_S_l5Numbers:=
 fnOk (cx:=cx_S_l5Numbers) (pl:=pl_S_l5Numbers) (dp:=0) (ok0_of tabOk (by unfold ArrOk;kernel_rfl) mix ⟨ok_S_l1Num,trivial⟩ trivial) Tryz.func138 (by kernel_rfl) (by kernel_rfl) (by kernel_rfl)
  (by rw[show loopsOf (bodyOf Tryz.f138)=[] from by kernel_rfl];exact trivial) (fun x=>ef_S_l5Numbers x.1 x.2.1)
noncomputable def pl_S_l5Shown:Plan:=⟨[],[],0,0⟩
noncomputable def f_S_l5Shown (t0:PV .str)(t1:PV .str):Option (PVs [.str]×PVs []):=(f_S_l1Ends t1).bind fun r4=>bif r4.1.1 then bif decide (t0.length+t1.length≤1099511627776) then some (((t0++t1),()),()) else none else bif decide (t0.length+t1.length≤1099511627776) then bif decide ((t0++t1).length+[10,92,32,110,111,110,101,10].length≤1099511627776) then some ((((t0++t1)++[10,92,32,110,111,110,101,10]),()),()) else none else none
noncomputable def ct_S_l5Shown:Ct:=⟨[(.bor,.str),(.bor,.str)],[(.str,.b)],fun x=>f_S_l5Shown x.1 x.2.1⟩
noncomputable def cx_S_l5Shown:Cx:=⟨tab,arrs,[(128,ct_S_l1Ends)],[],gl,[]⟩
theorem ef_S_l5Shown (t0:PV .str)(t1:PV .str):denF cx_S_l5Shown 0 pl_S_l5Shown Tryz.f139.ntmps (bodyOf Tryz.f139) Tryz.f139.results.toList [(.bor,.str),(.bor,.str)] [(.str,.b)] (t0,t1,())=f_S_l5Shown t0 t1:=by kernel_rfl
theorem ok_S_l5Shown:FnOk gl Tryz.prog 139 ct_S_l5Shown:=
 fnOk (cx:=cx_S_l5Shown) (pl:=pl_S_l5Shown) (dp:=0) (ok0_of tabOk (by unfold ArrOk;kernel_rfl) mix ⟨ok_S_l1Ends,trivial⟩ trivial) Tryz.func139 (by kernel_rfl) (by kernel_rfl) (by kernel_rfl)
  (by rw[show loopsOf (bodyOf Tryz.f139)=[] from by kernel_rfl];exact trivial) (fun x=>ef_S_l5Shown x.1 x.2.1)
noncomputable def o_S_l5Text_10:List Out:=[⟨.normal,⟨[],[3,5,6,11,12,13],[]⟩,mkSh 73 [(3,.val .str .b),(5,.var Y_impl_Step .b),(6,.val .str .b),(11,.val S_impl_Step .b),(12,.val (.int .i64) .b),(13,.val (.int .i64) .b)]⟩]
noncomputable def o_S_l5Text_18:List Out:=[⟨.normal,⟨[],[3,5,11,12,13],[]⟩,mkSh 73 [(3,.val .str .b),(5,.var Y_impl_Step .b),(11,.val S_impl_Step .b),(12,.val (.int .i64) .b),(13,.val (.int .i64) .b)]⟩]
noncomputable def sh_S_l5Text_12:List Sh:=mkSh 73 [(3,.val .str .b),(5,.var Y_impl_Step .b),(6,.val .str .b),(11,.val S_impl_Step .b),(12,.val (.int .i64) .b),(13,.val (.int .i64) .b),(44,.val S_string .b),(45,.val (.int .i64) .b),(46,.val (.int .i64) .b)]
noncomputable def o_S_l5Text_12:List Out:=[⟨.exit 3,⟨[],[3,5,6,11,12,13],[]⟩,mkSh 73 [(3,.val .str .b),(5,.var Y_impl_Step .b),(6,.val .str .b),(11,.val S_impl_Step .b),(12,.val (.int .i64) .b),(13,.val (.int .i64) .b)]⟩]
noncomputable def b_S_l5Text_12 (t3:PV .str)(t5:PV Y_impl_Step)(t6:PV .str)(t11:PV S_impl_Step)(t12:PV (.int .i64))(t13:PV (.int .i64))(t44:PV S_string)(t45:PV (.int .i64))(t46:PV (.int .i64)):Option ((PV .str×PV Y_impl_Step×PV .str×PV S_impl_Step×PV (.int .i64)×PV (.int .i64)×PV S_string×PV (.int .i64)×PV (.int .i64)×Unit)⊕((PV .str×PV Y_impl_Step×PV .str×PV S_impl_Step×PV (.int .i64)×PV (.int .i64)×Unit))):=bif (decide (t46<t45)) then bif inB t46 t44.length then(f_S_l5Shown [60,32] (t44.getD t46.toNat [])).bind fun r7=>bif decide (t3.length+r7.1.1.length≤1099511627776) then some (.inl ((t3++r7.1.1),t5,t6,t11,t12,t13,t44,t45,(IntKind.wrap .i64 (t46+1)),())) else none else none else some (.inr (t3,t5,t6,t11,t12,t13,()))
noncomputable def w_S_l5Text_12:PV .str×PV Y_impl_Step×PV .str×PV S_impl_Step×PV (.int .i64)×PV (.int .i64)×PV S_string×PV (.int .i64)×PV (.int .i64)×Unit→Option ((PV .str×PV Y_impl_Step×PV .str×PV S_impl_Step×PV (.int .i64)×PV (.int .i64)×Unit)):=fix fun d=>b_S_l5Text_12 d.1 d.2.1 d.2.2.1 d.2.2.2.1 d.2.2.2.2.1 d.2.2.2.2.2.1 d.2.2.2.2.2.2.1 d.2.2.2.2.2.2.2.1 d.2.2.2.2.2.2.2.2.1
noncomputable def lp_S_l5Text_12:Lp:=⟨⟨[],[3,5,6,11,12,13,44,45,46],[]⟩,sh_S_l5Text_12,o_S_l5Text_12,fun d=>b_S_l5Text_12 d.1 d.2.1 d.2.2.1 d.2.2.2.1 d.2.2.2.2.1 d.2.2.2.2.2.1 d.2.2.2.2.2.2.1 d.2.2.2.2.2.2.2.1 d.2.2.2.2.2.2.2.2.1⟩
noncomputable def sh_S_l5Text_19:List Sh:=mkSh 73 [(3,.val .str .b),(11,.val S_impl_Step .b),(12,.val (.int .i64) .b),(13,.val (.int .i64) .b),(60,.val S_string .b),(61,.val (.int .i64) .b),(62,.val (.int .i64) .b)]
noncomputable def o_S_l5Text_19:List Out:=[⟨.exit 5,⟨[],[3,11,12,13],[]⟩,mkSh 73 [(3,.val .str .b),(11,.val S_impl_Step .b),(12,.val (.int .i64) .b),(13,.val (.int .i64) .b)]⟩]
noncomputable def b_S_l5Text_19 (t3:PV .str)(t11:PV S_impl_Step)(t12:PV (.int .i64))(t13:PV (.int .i64))(t60:PV S_string)(t61:PV (.int .i64))(t62:PV (.int .i64)):Option ((PV .str×PV S_impl_Step×PV (.int .i64)×PV (.int .i64)×PV S_string×PV (.int .i64)×PV (.int .i64)×Unit)⊕((PV .str×PV S_impl_Step×PV (.int .i64)×PV (.int .i64)×Unit))):=bif (decide (t62<t61)) then bif inB t62 t60.length then(f_S_l5Shown [62,32] (t60.getD t62.toNat [])).bind fun r12=>bif decide (t3.length+r12.1.1.length≤1099511627776) then some (.inl ((t3++r12.1.1),t11,t12,t13,t60,t61,(IntKind.wrap .i64 (t62+1)),())) else none else none else some (.inr (t3,t11,t12,t13,()))
noncomputable def w_S_l5Text_19:PV .str×PV S_impl_Step×PV (.int .i64)×PV (.int .i64)×PV S_string×PV (.int .i64)×PV (.int .i64)×Unit→Option ((PV .str×PV S_impl_Step×PV (.int .i64)×PV (.int .i64)×Unit)):=fix fun d=>b_S_l5Text_19 d.1 d.2.1 d.2.2.1 d.2.2.2.1 d.2.2.2.2.1 d.2.2.2.2.2.1 d.2.2.2.2.2.2.1
noncomputable def lp_S_l5Text_19:Lp:=⟨⟨[],[3,11,12,13,60,61,62],[]⟩,sh_S_l5Text_19,o_S_l5Text_19,fun d=>b_S_l5Text_19 d.1 d.2.1 d.2.2.1 d.2.2.2.1 d.2.2.2.2.1 d.2.2.2.2.2.1 d.2.2.2.2.2.2.1⟩
noncomputable def sh_S_l5Text_3:List Sh:=mkSh 73 [(3,.val .str .b),(11,.val S_impl_Step .b),(12,.val (.int .i64) .b),(13,.val (.int .i64) .b)]
noncomputable def o_S_l5Text_3:List Out:=[⟨.exit 0,⟨[],[3],[]⟩,mkSh 73 [(3,.val .str .b)]⟩]
noncomputable def b_S_l5Text_3 (t3:PV .str)(t11:PV S_impl_Step)(t12:PV (.int .i64))(t13:PV (.int .i64)):Option ((PV .str×PV S_impl_Step×PV (.int .i64)×PV (.int .i64)×Unit)⊕((PV .str×Unit))):=bif (decide (t13<t12)) then bif inB t13 t11.length then((bif ((((((t11.getD t13.toNat (dflt Y_impl_Step)).2).2).1).length:Int)==0) then some (t3,(t11.getD t13.toNat (dflt Y_impl_Step)),[97],t11,t12,t13,()) else bif (((((((((t11.getD t13.toNat (dflt Y_impl_Step)).2).2).2).2).2).1).length:Int)==0) then some (t3,(t11.getD t13.toNat (dflt Y_impl_Step)),[100],t11,t12,t13,()) else some (t3,(t11.getD t13.toNat (dflt Y_impl_Step)),[99],t11,t12,t13,()):Option ((PV .str×PV Y_impl_Step×PV .str×PV S_impl_Step×PV (.int .i64)×PV (.int .i64)×Unit)))).bind fun j10=>(f_S_l5Numbers j10.2.1.1 j10.2.1.2.1).bind fun r13=>bif decide (r13.1.1.length+j10.2.2.1.length≤1099511627776) then(f_S_l5Numbers j10.2.1.2.2.2.1 j10.2.1.2.2.2.2.1).bind fun r14=>bif decide ((r13.1.1++j10.2.2.1).length+r14.1.1.length≤1099511627776) then bif decide (((r13.1.1++j10.2.2.1)++r14.1.1).length+[10].length≤1099511627776) then bif decide (j10.1.length+(((r13.1.1++j10.2.2.1)++r14.1.1)++[10]).length≤1099511627776) then(w_S_l5Text_12 ((j10.1++(((r13.1.1++j10.2.2.1)++r14.1.1)++[10])),j10.2.1,j10.2.2.1,j10.2.2.2.1,j10.2.2.2.2.1,j10.2.2.2.2.2.1,j10.2.1.2.2.1,(j10.2.1.2.2.1.length:Int),0,())).bind fun l16=>((bif (l16.2.2.1==[99]) then bif decide (l16.1.length+[45,45,45,10].length≤1099511627776) then some ((l16.1++[45,45,45,10]),l16.2.1,l16.2.2.2.1,l16.2.2.2.2.1,l16.2.2.2.2.2.1,()) else none else some (l16.1,l16.2.1,l16.2.2.2.1,l16.2.2.2.2.1,l16.2.2.2.2.2.1,()):Option ((PV .str×PV Y_impl_Step×PV S_impl_Step×PV (.int .i64)×PV (.int .i64)×Unit)))).bind fun j17=>(w_S_l5Text_19 (j17.1,j17.2.2.1,j17.2.2.2.1,j17.2.2.2.2.1,j17.2.1.2.2.2.2.2.1,(j17.2.1.2.2.2.2.2.1.length:Int),0,())).bind fun l18=>some (.inl (l18.1,l18.2.1,l18.2.2.1,(IntKind.wrap .i64 (l18.2.2.2.1+1)),())) else none else none else none else none else none else some (.inr (t3,()))
noncomputable def w_S_l5Text_3:PV .str×PV S_impl_Step×PV (.int .i64)×PV (.int .i64)×Unit→Option ((PV .str×Unit)):=fix fun d=>b_S_l5Text_3 d.1 d.2.1 d.2.2.1 d.2.2.2.1
noncomputable def lp_S_l5Text_3:Lp:=⟨⟨[],[3,11,12,13],[]⟩,sh_S_l5Text_3,o_S_l5Text_3,fun d=>b_S_l5Text_3 d.1 d.2.1 d.2.2.1 d.2.2.2.1⟩
noncomputable def pl_S_l5Text:Plan:=⟨[(10,o_S_l5Text_10),(18,o_S_l5Text_18)],[(12,lp_S_l5Text_12),(19,lp_S_l5Text_19),(3,lp_S_l5Text_3)],0,0⟩
noncomputable def f_S_l5Text (t0:PV S_impl_Step):Option (PVs [.str]×PVs []):=(w_S_l5Text_3 ([],t0,(t0.length:Int),0,())).bind fun l20=>some ((l20.1,()),())
noncomputable def ct_S_l5Text:Ct:=⟨[(.bor,S_impl_Step)],[(.str,.b)],fun x=>f_S_l5Text x.1⟩
noncomputable def cx_S_l5Text:Cx:=⟨tab,arrs,[(138,ct_S_l5Numbers),(139,ct_S_l5Shown)],[],gl,[]⟩
theorem eb_S_l5Text_3 (t3:PV .str)(t11:PV S_impl_Step)(t12:PV (.int .i64))(t13:PV (.int .i64)):denK cx_S_l5Text (rcN cx_S_l5Text 0) pl_S_l5Text 0 ((loopsOf (bodyOf Tryz.f72)).getD 0 .skip) (fillS sh_S_l5Text_3 (t3,t11,t12,t13,())) (roundK 0 lp_S_l5Text_3)=b_S_l5Text_3 t3 t11 t12 t13:=by kernel_rfl
theorem eb_S_l5Text_12 (t3:PV .str)(t5:PV Y_impl_Step)(t6:PV .str)(t11:PV S_impl_Step)(t12:PV (.int .i64))(t13:PV (.int .i64))(t44:PV S_string)(t45:PV (.int .i64))(t46:PV (.int .i64)):denK cx_S_l5Text (rcN cx_S_l5Text 0) pl_S_l5Text 0 ((loopsOf (bodyOf Tryz.f72)).getD 1 .skip) (fillS sh_S_l5Text_12 (t3,t5,t6,t11,t12,t13,t44,t45,t46,())) (roundK 0 lp_S_l5Text_12)=b_S_l5Text_12 t3 t5 t6 t11 t12 t13 t44 t45 t46:=by kernel_rfl
theorem eb_S_l5Text_19 (t3:PV .str)(t11:PV S_impl_Step)(t12:PV (.int .i64))(t13:PV (.int .i64))(t60:PV S_string)(t61:PV (.int .i64))(t62:PV (.int .i64)):denK cx_S_l5Text (rcN cx_S_l5Text 0) pl_S_l5Text 0 ((loopsOf (bodyOf Tryz.f72)).getD 2 .skip) (fillS sh_S_l5Text_19 (t3,t11,t12,t13,t60,t61,t62,())) (roundK 0 lp_S_l5Text_19)=b_S_l5Text_19 t3 t11 t12 t13 t60 t61 t62:=by kernel_rfl
theorem ef_S_l5Text (t0:PV S_impl_Step):denF cx_S_l5Text 0 pl_S_l5Text Tryz.f72.ntmps (bodyOf Tryz.f72) Tryz.f72.results.toList [(.bor,S_impl_Step)] [(.str,.b)] (t0,())=f_S_l5Text t0:=by kernel_rfl
theorem ok_S_l5Text:FnOk gl Tryz.prog 72 ct_S_l5Text:=
 fnOk (cx:=cx_S_l5Text) (pl:=pl_S_l5Text) (dp:=0) (ok0_of tabOk (by unfold ArrOk;kernel_rfl) mix ⟨ok_S_l5Numbers,ok_S_l5Shown,trivial⟩ trivial) Tryz.func72 (by kernel_rfl) (by kernel_rfl) (by kernel_rfl)
  (by rw[show loopsOf (bodyOf Tryz.f72)=[((loopsOf (bodyOf Tryz.f72)).getD 0 .skip),((loopsOf (bodyOf Tryz.f72)).getD 1 .skip),((loopsOf (bodyOf Tryz.f72)).getD 2 .skip)] from by kernel_rfl];exact⟨(by rw[show lookup pl_S_l5Text.loops (firstId ((loopsOf (bodyOf Tryz.f72)).getD 0 .skip))=some lp_S_l5Text_3 from by kernel_rfl];exact fun d z h=>(eb_S_l5Text_3 d.1 d.2.1 d.2.2.1 d.2.2.2.1).trans h),(by rw[show lookup pl_S_l5Text.loops (firstId ((loopsOf (bodyOf Tryz.f72)).getD 1 .skip))=some lp_S_l5Text_12 from by kernel_rfl];exact fun d z h=>(eb_S_l5Text_12 d.1 d.2.1 d.2.2.1 d.2.2.2.1 d.2.2.2.2.1 d.2.2.2.2.2.1 d.2.2.2.2.2.2.1 d.2.2.2.2.2.2.2.1 d.2.2.2.2.2.2.2.2.1).trans h),(by rw[show lookup pl_S_l5Text.loops (firstId ((loopsOf (bodyOf Tryz.f72)).getD 2 .skip))=some lp_S_l5Text_19 from by kernel_rfl];exact fun d z h=>(eb_S_l5Text_19 d.1 d.2.1 d.2.2.1 d.2.2.2.1 d.2.2.2.2.1 d.2.2.2.2.2.1 d.2.2.2.2.2.2.1).trans h),trivial⟩) (fun x=>ef_S_l5Text x.1)
noncomputable def o_S_StepsText_2:List Out:=[⟨.normal,⟨[],[0,12],[]⟩,mkSh 15 [(0,.val S_impl_Step .b),(12,.val .bool .b)]⟩]
noncomputable def pl_S_StepsText:Plan:=⟨[(2,o_S_StepsText_2)],[],0,0⟩
noncomputable def f_S_StepsText (t0:PV S_impl_Step):Option (PVs [.str,.bool]×PVs []):=(((f_S_GoodSteps t0).bind fun r6=>bif (!r6.1.1) then some (t0,true,()) else(f_S_l5Text t0).bind fun r7=>some (t0,(decide ((r7.1.1.length:Int)>3000)),()):Option ((PV S_impl_Step×PV .bool×Unit)))).bind fun j8=>bif j8.2.1 then some (([],false,()),()) else(f_S_l5Text j8.1).bind fun r9=>some ((r9.1.1,true,()),())
noncomputable def ct_S_StepsText:Ct:=⟨[(.bor,S_impl_Step)],[(.str,.b),(.bool,.b)],fun x=>f_S_StepsText x.1⟩
noncomputable def cx_S_StepsText:Cx:=⟨tab,arrs,[(29,ct_S_GoodSteps),(72,ct_S_l5Text)],[],gl,[]⟩
theorem ef_S_StepsText (t0:PV S_impl_Step):denF cx_S_StepsText 0 pl_S_StepsText Tryz.f27.ntmps (bodyOf Tryz.f27) Tryz.f27.results.toList [(.bor,S_impl_Step)] [(.str,.b),(.bool,.b)] (t0,())=f_S_StepsText t0:=by kernel_rfl
theorem ok_S_StepsText:FnOk gl Tryz.prog 27 ct_S_StepsText:=
 fnOk (cx:=cx_S_StepsText) (pl:=pl_S_StepsText) (dp:=0) (ok0_of tabOk (by unfold ArrOk;kernel_rfl) mix ⟨ok_S_GoodSteps,ok_S_l5Text,trivial⟩ trivial) Tryz.func27 (by kernel_rfl) (by kernel_rfl) (by kernel_rfl)
  (by rw[show loopsOf (bodyOf Tryz.f27)=[] from by kernel_rfl];exact trivial) (fun x=>ef_S_StepsText x.1)
noncomputable def pl_I_GoodSteps:Plan:=⟨[],[],0,0⟩
noncomputable def f_I_GoodSteps (t0:PV S_impl_Step):Option (PVs [.bool]×PVs []):=(f_I_goodSteps t0).bind fun r1=>some ((r1.1.1,()),())
noncomputable def ct_I_GoodSteps:Ct:=⟨[(.bor,S_impl_Step)],[(.bool,.b)],fun x=>f_I_GoodSteps x.1⟩
noncomputable def cx_I_GoodSteps:Cx:=⟨tab,arrs,[(69,ct_I_goodSteps)],[],gl,[]⟩
theorem ef_I_GoodSteps (t0:PV S_impl_Step):denF cx_I_GoodSteps 0 pl_I_GoodSteps Tryz.f28.ntmps (bodyOf Tryz.f28) Tryz.f28.results.toList [(.bor,S_impl_Step)] [(.bool,.b)] (t0,())=f_I_GoodSteps t0:=by kernel_rfl
theorem ok_I_GoodSteps:FnOk gl Tryz.prog 28 ct_I_GoodSteps:=
 fnOk (cx:=cx_I_GoodSteps) (pl:=pl_I_GoodSteps) (dp:=0) (ok0_of tabOk (by unfold ArrOk;kernel_rfl) mix ⟨ok_I_goodSteps,trivial⟩ trivial) Tryz.func28 (by kernel_rfl) (by kernel_rfl) (by kernel_rfl)
  (by rw[show loopsOf (bodyOf Tryz.f28)=[] from by kernel_rfl];exact trivial) (fun x=>ef_I_GoodSteps x.1)
noncomputable def pl_strings_SplitAfter:Plan:=⟨[],[],0,0⟩
noncomputable def f_strings_SplitAfter (t0:PV .str)(t1:PV .str):Option (PVs [S_string]×PVs []):=(f_strings_genSplit t0 t1 (t1.length:Int) (-1)).bind fun r1=>some ((r1.1.1,()),())
noncomputable def ct_strings_SplitAfter:Ct:=⟨[(.bor,.str),(.bor,.str)],[(S_string,.b)],fun x=>f_strings_SplitAfter x.1 x.2.1⟩
noncomputable def cx_strings_SplitAfter:Cx:=⟨tab,arrs,[(215,ct_strings_genSplit)],[],gl,[]⟩
theorem ef_strings_SplitAfter (t0:PV .str)(t1:PV .str):denF cx_strings_SplitAfter 0 pl_strings_SplitAfter Tryz.f145.ntmps (bodyOf Tryz.f145) Tryz.f145.results.toList [(.bor,.str),(.bor,.str)] [(S_string,.b)] (t0,t1,())=f_strings_SplitAfter t0 t1:=by kernel_rfl
theorem ok_strings_SplitAfter:FnOk gl Tryz.prog 145 ct_strings_SplitAfter:=
 fnOk (cx:=cx_strings_SplitAfter) (pl:=pl_strings_SplitAfter) (dp:=0) (ok0_of tabOk (by unfold ArrOk;kernel_rfl) mix ⟨ok_strings_genSplit,trivial⟩ trivial) Tryz.func145 (by kernel_rfl) (by kernel_rfl) (by kernel_rfl)
  (by rw[show loopsOf (bodyOf Tryz.f145)=[] from by kernel_rfl];exact trivial) (fun x=>ef_strings_SplitAfter x.1 x.2.1)
noncomputable def o_I_linesOf_7:List Out:=[⟨.normal,⟨[],[3],[]⟩,mkSh 21 [(3,.val S_string .b)]⟩]
noncomputable def pl_I_linesOf:Plan:=⟨[(7,o_I_linesOf_7)],[],0,0⟩
noncomputable def f_I_linesOf (t0:PV .str):Option (PVs [S_string]×PVs []):=bif (t0==[]) then some (([],()),()) else(f_strings_SplitAfter t0 [10]).bind fun r2=>((bif inB (IntKind.wrap .i64 ((r2.1.1.length:Int) -1)) r2.1.1.length then bif ((r2.1.1.getD ((IntKind.wrap .i64 ((r2.1.1.length:Int) -1)).toNat) [])==[]) then bif cutB 0 (IntKind.wrap .i64 ((r2.1.1.length:Int) -1)) r2.1.1.length then some ((cutL 0 (IntKind.wrap .i64 ((r2.1.1.length:Int) -1)) r2.1.1),()) else none else some (r2.1.1,()) else none:Option ((PV S_string×Unit)))).bind fun j3=>some ((j3.1,()),())
noncomputable def ct_I_linesOf:Ct:=⟨[(.bor,.str)],[(S_string,.b)],fun x=>f_I_linesOf x.1⟩
noncomputable def cx_I_linesOf:Cx:=⟨tab,arrs,[(145,ct_strings_SplitAfter)],[],gl,[]⟩
theorem ef_I_linesOf (t0:PV .str):denF cx_I_linesOf 0 pl_I_linesOf Tryz.f75.ntmps (bodyOf Tryz.f75) Tryz.f75.results.toList [(.bor,.str)] [(S_string,.b)] (t0,())=f_I_linesOf t0:=by kernel_rfl
theorem ok_I_linesOf:FnOk gl Tryz.prog 75 ct_I_linesOf:=
 fnOk (cx:=cx_I_linesOf) (pl:=pl_I_linesOf) (dp:=0) (ok0_of tabOk (by unfold ArrOk;kernel_rfl) mix ⟨ok_strings_SplitAfter,trivial⟩ trivial) Tryz.func75 (by kernel_rfl) (by kernel_rfl) (by kernel_rfl)
  (by rw[show loopsOf (bodyOf Tryz.f75)=[] from by kernel_rfl];exact trivial) (fun x=>ef_I_linesOf x.1)
noncomputable def pl_internal_stringslite_TrimSuffix:Plan:=⟨[],[],0,0⟩
noncomputable def f_internal_stringslite_TrimSuffix (t0:PV .str)(t1:PV .str):Option (PVs [.str]×PVs []):=(f_internal_stringslite_HasSuffix t0 t1).bind fun r4=>bif r4.1.1 then bif cutB 0 (IntKind.wrap .i64 ((t0.length:Int) -(t1.length:Int))) t0.length then some (((cutL 0 (IntKind.wrap .i64 ((t0.length:Int) -(t1.length:Int))) t0),()),()) else none else some ((t0,()),())
noncomputable def ct_internal_stringslite_TrimSuffix:Ct:=⟨[(.bor,.str),(.bor,.str)],[(.str,.b)],fun x=>f_internal_stringslite_TrimSuffix x.1 x.2.1⟩
noncomputable def cx_internal_stringslite_TrimSuffix:Cx:=⟨tab,arrs,[(265,ct_internal_stringslite_HasSuffix)],[],gl,[]⟩
theorem ef_internal_stringslite_TrimSuffix (t0:PV .str)(t1:PV .str):denF cx_internal_stringslite_TrimSuffix 0 pl_internal_stringslite_TrimSuffix Tryz.f249.ntmps (bodyOf Tryz.f249) Tryz.f249.results.toList [(.bor,.str),(.bor,.str)] [(.str,.b)] (t0,t1,())=f_internal_stringslite_TrimSuffix t0 t1:=by kernel_rfl
theorem ok_internal_stringslite_TrimSuffix:FnOk gl Tryz.prog 249 ct_internal_stringslite_TrimSuffix:=
 fnOk (cx:=cx_internal_stringslite_TrimSuffix) (pl:=pl_internal_stringslite_TrimSuffix) (dp:=0) (ok0_of tabOk (by unfold ArrOk;kernel_rfl) mix ⟨ok_internal_stringslite_HasSuffix,trivial⟩ trivial) Tryz.func249 (by kernel_rfl) (by kernel_rfl) (by kernel_rfl)
  (by rw[show loopsOf (bodyOf Tryz.f249)=[] from by kernel_rfl];exact trivial) (fun x=>ef_internal_stringslite_TrimSuffix x.1 x.2.1)
noncomputable def pl_strings_TrimSuffix:Plan:=⟨[],[],0,0⟩
noncomputable def f_strings_TrimSuffix (t0:PV .str)(t1:PV .str):Option (PVs [.str]×PVs []):=(f_internal_stringslite_TrimSuffix t0 t1).bind fun r1=>some ((r1.1.1,()),())
noncomputable def ct_strings_TrimSuffix:Ct:=⟨[(.bor,.str),(.bor,.str)],[(.str,.b)],fun x=>f_strings_TrimSuffix x.1 x.2.1⟩
noncomputable def cx_strings_TrimSuffix:Cx:=⟨tab,arrs,[(249,ct_internal_stringslite_TrimSuffix)],[],gl,[]⟩
theorem ef_strings_TrimSuffix (t0:PV .str)(t1:PV .str):denF cx_strings_TrimSuffix 0 pl_strings_TrimSuffix Tryz.f206.ntmps (bodyOf Tryz.f206) Tryz.f206.results.toList [(.bor,.str),(.bor,.str)] [(.str,.b)] (t0,t1,())=f_strings_TrimSuffix t0 t1:=by kernel_rfl
theorem ok_strings_TrimSuffix:FnOk gl Tryz.prog 206 ct_strings_TrimSuffix:=
 fnOk (cx:=cx_strings_TrimSuffix) (pl:=pl_strings_TrimSuffix) (dp:=0) (ok0_of tabOk (by unfold ArrOk;kernel_rfl) mix ⟨ok_internal_stringslite_TrimSuffix,trivial⟩ trivial) Tryz.func206 (by kernel_rfl) (by kernel_rfl) (by kernel_rfl)
  (by rw[show loopsOf (bodyOf Tryz.f206)=[] from by kernel_rfl];exact trivial) (fun x=>ef_strings_TrimSuffix x.1 x.2.1)
noncomputable def pl_I_plain:Plan:=⟨[],[],0,0⟩
noncomputable def f_I_plain (t0:PV .str):Option (PVs [.str]×PVs []):=(f_strings_TrimSuffix t0 [10]).bind fun r1=>some ((r1.1.1,()),())
noncomputable def ct_I_plain:Ct:=⟨[(.bor,.str)],[(.str,.b)],fun x=>f_I_plain x.1⟩
noncomputable def cx_I_plain:Cx:=⟨tab,arrs,[(206,ct_strings_TrimSuffix)],[],gl,[]⟩
theorem ef_I_plain (t0:PV .str):denF cx_I_plain 0 pl_I_plain Tryz.f141.ntmps (bodyOf Tryz.f141) Tryz.f141.results.toList [(.bor,.str)] [(.str,.b)] (t0,())=f_I_plain t0:=by kernel_rfl
theorem ok_I_plain:FnOk gl Tryz.prog 141 ct_I_plain:=
 fnOk (cx:=cx_I_plain) (pl:=pl_I_plain) (dp:=0) (ok0_of tabOk (by unfold ArrOk;kernel_rfl) mix ⟨ok_strings_TrimSuffix,trivial⟩ trivial) Tryz.func141 (by kernel_rfl) (by kernel_rfl) (by kernel_rfl)
  (by rw[show loopsOf (bodyOf Tryz.f141)=[] from by kernel_rfl];exact trivial) (fun x=>ef_I_plain x.1)
noncomputable def pl_internal_stringslite_Cut:Plan:=⟨[],[],0,0⟩
noncomputable def f_internal_stringslite_Cut (t0:PV .str)(t1:PV .str):Option (PVs [.str,.str,.bool]×PVs []):=(f_internal_stringslite_Index t0 t1).bind fun r4=>bif (decide (r4.1.1≥0)) then bif cutB 0 r4.1.1 t0.length then bif cutB (IntKind.wrap .i64 (r4.1.1+(t1.length:Int))) (t0.length:Int) t0.length then some (((cutL 0 r4.1.1 t0),(cutL (IntKind.wrap .i64 (r4.1.1+(t1.length:Int))) (t0.length:Int) t0),true,()),()) else none else none else some ((t0,[],false,()),())
noncomputable def ct_internal_stringslite_Cut:Ct:=⟨[(.bor,.str),(.bor,.str)],[(.str,.b),(.str,.b),(.bool,.b)],fun x=>f_internal_stringslite_Cut x.1 x.2.1⟩
noncomputable def cx_internal_stringslite_Cut:Cx:=⟨tab,arrs,[(277,ct_internal_stringslite_Index)],[],gl,[]⟩
theorem ef_internal_stringslite_Cut (t0:PV .str)(t1:PV .str):denF cx_internal_stringslite_Cut 0 pl_internal_stringslite_Cut Tryz.f253.ntmps (bodyOf Tryz.f253) Tryz.f253.results.toList [(.bor,.str),(.bor,.str)] [(.str,.b),(.str,.b),(.bool,.b)] (t0,t1,())=f_internal_stringslite_Cut t0 t1:=by kernel_rfl
theorem ok_internal_stringslite_Cut:FnOk gl Tryz.prog 253 ct_internal_stringslite_Cut:=
 fnOk (cx:=cx_internal_stringslite_Cut) (pl:=pl_internal_stringslite_Cut) (dp:=0) (ok0_of tabOk (by unfold ArrOk;kernel_rfl) mix ⟨ok_internal_stringslite_Index,trivial⟩ trivial) Tryz.func253 (by kernel_rfl) (by kernel_rfl) (by kernel_rfl)
  (by rw[show loopsOf (bodyOf Tryz.f253)=[] from by kernel_rfl];exact trivial) (fun x=>ef_internal_stringslite_Cut x.1 x.2.1)
noncomputable def pl_strings_Cut:Plan:=⟨[],[],0,0⟩
noncomputable def f_strings_Cut (t0:PV .str)(t1:PV .str):Option (PVs [.str,.str,.bool]×PVs []):=(f_internal_stringslite_Cut t0 t1).bind fun r1=>some ((r1.1.1,r1.1.2.1,r1.1.2.2.1,()),())
noncomputable def ct_strings_Cut:Ct:=⟨[(.bor,.str),(.bor,.str)],[(.str,.b),(.str,.b),(.bool,.b)],fun x=>f_strings_Cut x.1 x.2.1⟩
noncomputable def cx_strings_Cut:Cx:=⟨tab,arrs,[(253,ct_internal_stringslite_Cut)],[],gl,[]⟩
theorem ef_strings_Cut (t0:PV .str)(t1:PV .str):denF cx_strings_Cut 0 pl_strings_Cut Tryz.f211.ntmps (bodyOf Tryz.f211) Tryz.f211.results.toList [(.bor,.str),(.bor,.str)] [(.str,.b),(.str,.b),(.bool,.b)] (t0,t1,())=f_strings_Cut t0 t1:=by kernel_rfl
theorem ok_strings_Cut:FnOk gl Tryz.prog 211 ct_strings_Cut:=
 fnOk (cx:=cx_strings_Cut) (pl:=pl_strings_Cut) (dp:=0) (ok0_of tabOk (by unfold ArrOk;kernel_rfl) mix ⟨ok_internal_stringslite_Cut,trivial⟩ trivial) Tryz.func211 (by kernel_rfl) (by kernel_rfl) (by kernel_rfl)
  (by rw[show loopsOf (bodyOf Tryz.f211)=[] from by kernel_rfl];exact trivial) (fun x=>ef_strings_Cut x.1 x.2.1)
noncomputable def pl_I_readTwo:Plan:=⟨[],[],0,0⟩
noncomputable def f_I_readTwo (t0:PV .str):Option (PVs [(.int .i64),(.int .i64),.bool,.bool]×PVs []):=(f_strings_Cut t0 [44]).bind fun r2=>(f_I_readNumber r2.1.1).bind fun r4=>bif (!r2.1.2.2.1) then some ((r4.1.1,r4.1.1,false,r4.1.2.1,()),()) else(f_I_readNumber r2.1.2.1).bind fun r6=>bif r4.1.2.1 then some ((r4.1.1,r6.1.1,true,r6.1.2.1,()),()) else some ((r4.1.1,r6.1.1,true,false,()),())
noncomputable def ct_I_readTwo:Ct:=⟨[(.bor,.str)],[((.int .i64),.b),((.int .i64),.b),(.bool,.b),(.bool,.b)],fun x=>f_I_readTwo x.1⟩
noncomputable def cx_I_readTwo:Cx:=⟨tab,arrs,[(211,ct_strings_Cut),(212,ct_I_readNumber)],[],gl,[]⟩
theorem ef_I_readTwo (t0:PV .str):denF cx_I_readTwo 0 pl_I_readTwo Tryz.f143.ntmps (bodyOf Tryz.f143) Tryz.f143.results.toList [(.bor,.str)] [((.int .i64),.b),((.int .i64),.b),(.bool,.b),(.bool,.b)] (t0,())=f_I_readTwo t0:=by kernel_rfl
theorem ok_I_readTwo:FnOk gl Tryz.prog 143 ct_I_readTwo:=
 fnOk (cx:=cx_I_readTwo) (pl:=pl_I_readTwo) (dp:=0) (ok0_of tabOk (by unfold ArrOk;kernel_rfl) mix ⟨ok_strings_Cut,ok_I_readNumber,trivial⟩ trivial) Tryz.func143 (by kernel_rfl) (by kernel_rfl) (by kernel_rfl)
  (by rw[show loopsOf (bodyOf Tryz.f143)=[] from by kernel_rfl];exact trivial) (fun x=>ef_I_readTwo x.1)
noncomputable def pl_internal_stringslite_HasPrefix:Plan:=⟨[],[],0,0⟩
noncomputable def f_internal_stringslite_HasPrefix (t0:PV .str)(t1:PV .str):Option (PVs [.bool]×PVs []):=bif (decide ((t0.length:Int)≥(t1.length:Int))) then bif cutB 0 (t1.length:Int) t0.length then some ((((cutL 0 (t1.length:Int) t0)==t1),()),()) else none else some ((false,()),())
noncomputable def ct_internal_stringslite_HasPrefix:Ct:=⟨[(.bor,.str),(.bor,.str)],[(.bool,.b)],fun x=>f_internal_stringslite_HasPrefix x.1 x.2.1⟩
noncomputable def cx_internal_stringslite_HasPrefix:Cx:=⟨tab,arrs,[],[],gl,[]⟩
theorem ef_internal_stringslite_HasPrefix (t0:PV .str)(t1:PV .str):denF cx_internal_stringslite_HasPrefix 0 pl_internal_stringslite_HasPrefix Tryz.f255.ntmps (bodyOf Tryz.f255) Tryz.f255.results.toList [(.bor,.str),(.bor,.str)] [(.bool,.b)] (t0,t1,())=f_internal_stringslite_HasPrefix t0 t1:=by kernel_rfl
theorem ok_internal_stringslite_HasPrefix:FnOk gl Tryz.prog 255 ct_internal_stringslite_HasPrefix:=
 fnOk (cx:=cx_internal_stringslite_HasPrefix) (pl:=pl_internal_stringslite_HasPrefix) (dp:=0) (ok0_of tabOk (by unfold ArrOk;kernel_rfl) mix trivial trivial) Tryz.func255 (by kernel_rfl) (by kernel_rfl) (by kernel_rfl)
  (by rw[show loopsOf (bodyOf Tryz.f255)=[] from by kernel_rfl];exact trivial) (fun x=>ef_internal_stringslite_HasPrefix x.1 x.2.1)
noncomputable def pl_strings_HasPrefix:Plan:=⟨[],[],0,0⟩
noncomputable def f_strings_HasPrefix (t0:PV .str)(t1:PV .str):Option (PVs [.bool]×PVs []):=(f_internal_stringslite_HasPrefix t0 t1).bind fun r1=>some ((r1.1.1,()),())
noncomputable def ct_strings_HasPrefix:Ct:=⟨[(.bor,.str),(.bor,.str)],[(.bool,.b)],fun x=>f_strings_HasPrefix x.1 x.2.1⟩
noncomputable def cx_strings_HasPrefix:Cx:=⟨tab,arrs,[(255,ct_internal_stringslite_HasPrefix)],[],gl,[]⟩
theorem ef_strings_HasPrefix (t0:PV .str)(t1:PV .str):denF cx_strings_HasPrefix 0 pl_strings_HasPrefix Tryz.f213.ntmps (bodyOf Tryz.f213) Tryz.f213.results.toList [(.bor,.str),(.bor,.str)] [(.bool,.b)] (t0,t1,())=f_strings_HasPrefix t0 t1:=by kernel_rfl
theorem ok_strings_HasPrefix:FnOk gl Tryz.prog 213 ct_strings_HasPrefix:=
 fnOk (cx:=cx_strings_HasPrefix) (pl:=pl_strings_HasPrefix) (dp:=0) (ok0_of tabOk (by unfold ArrOk;kernel_rfl) mix ⟨ok_internal_stringslite_HasPrefix,trivial⟩ trivial) Tryz.func213 (by kernel_rfl) (by kernel_rfl) (by kernel_rfl)
  (by rw[show loopsOf (bodyOf Tryz.f213)=[] from by kernel_rfl];exact trivial) (fun x=>ef_strings_HasPrefix x.1 x.2.1)
noncomputable def pl_internal_stringslite_TrimPrefix:Plan:=⟨[],[],0,0⟩
noncomputable def f_internal_stringslite_TrimPrefix (t0:PV .str)(t1:PV .str):Option (PVs [.str]×PVs []):=(f_internal_stringslite_HasPrefix t0 t1).bind fun r4=>bif r4.1.1 then bif cutB (t1.length:Int) (t0.length:Int) t0.length then some (((cutL (t1.length:Int) (t0.length:Int) t0),()),()) else none else some ((t0,()),())
noncomputable def ct_internal_stringslite_TrimPrefix:Ct:=⟨[(.bor,.str),(.bor,.str)],[(.str,.b)],fun x=>f_internal_stringslite_TrimPrefix x.1 x.2.1⟩
noncomputable def cx_internal_stringslite_TrimPrefix:Cx:=⟨tab,arrs,[(255,ct_internal_stringslite_HasPrefix)],[],gl,[]⟩
theorem ef_internal_stringslite_TrimPrefix (t0:PV .str)(t1:PV .str):denF cx_internal_stringslite_TrimPrefix 0 pl_internal_stringslite_TrimPrefix Tryz.f256.ntmps (bodyOf Tryz.f256) Tryz.f256.results.toList [(.bor,.str),(.bor,.str)] [(.str,.b)] (t0,t1,())=f_internal_stringslite_TrimPrefix t0 t1:=by kernel_rfl
theorem ok_internal_stringslite_TrimPrefix:FnOk gl Tryz.prog 256 ct_internal_stringslite_TrimPrefix:=
 fnOk (cx:=cx_internal_stringslite_TrimPrefix) (pl:=pl_internal_stringslite_TrimPrefix) (dp:=0) (ok0_of tabOk (by unfold ArrOk;kernel_rfl) mix ⟨ok_internal_stringslite_HasPrefix,trivial⟩ trivial) Tryz.func256 (by kernel_rfl) (by kernel_rfl) (by kernel_rfl)
  (by rw[show loopsOf (bodyOf Tryz.f256)=[] from by kernel_rfl];exact trivial) (fun x=>ef_internal_stringslite_TrimPrefix x.1 x.2.1)
noncomputable def pl_strings_TrimPrefix:Plan:=⟨[],[],0,0⟩
noncomputable def f_strings_TrimPrefix (t0:PV .str)(t1:PV .str):Option (PVs [.str]×PVs []):=(f_internal_stringslite_TrimPrefix t0 t1).bind fun r1=>some ((r1.1.1,()),())
noncomputable def ct_strings_TrimPrefix:Ct:=⟨[(.bor,.str),(.bor,.str)],[(.str,.b)],fun x=>f_strings_TrimPrefix x.1 x.2.1⟩
noncomputable def cx_strings_TrimPrefix:Cx:=⟨tab,arrs,[(256,ct_internal_stringslite_TrimPrefix)],[],gl,[]⟩
theorem ef_strings_TrimPrefix (t0:PV .str)(t1:PV .str):denF cx_strings_TrimPrefix 0 pl_strings_TrimPrefix Tryz.f214.ntmps (bodyOf Tryz.f214) Tryz.f214.results.toList [(.bor,.str),(.bor,.str)] [(.str,.b)] (t0,t1,())=f_strings_TrimPrefix t0 t1:=by kernel_rfl
theorem ok_strings_TrimPrefix:FnOk gl Tryz.prog 214 ct_strings_TrimPrefix:=
 fnOk (cx:=cx_strings_TrimPrefix) (pl:=pl_strings_TrimPrefix) (dp:=0) (ok0_of tabOk (by unfold ArrOk;kernel_rfl) mix ⟨ok_internal_stringslite_TrimPrefix,trivial⟩ trivial) Tryz.func214 (by kernel_rfl) (by kernel_rfl) (by kernel_rfl)
  (by rw[show loopsOf (bodyOf Tryz.f214)=[] from by kernel_rfl];exact trivial) (fun x=>ef_strings_TrimPrefix x.1 x.2.1)
noncomputable def o_I_takeShown_6:List Out:=[⟨.normal,⟨[],[0,1,6,7,13,14,15,16,17,34],[]⟩,mkSh 45 [(0,.val S_string .b),(1,.val .str .b),(6,.val S_string (.row .b)),(7,.val .str .b),(13,.val S_string .b),(14,.bad .str),(15,.val .str .b),(16,.val .str .b),(17,.val .bool .b),(34,.val .bool .b)]⟩]
noncomputable def o_I_takeShown_7:List Out:=[⟨.normal,⟨[],[0,1,6,7,13,14,15,16,17,30,31,32,33],[]⟩,mkSh 45 [(0,.val S_string .b),(1,.val .str .b),(6,.val S_string (.row .b)),(7,.val .str .b),(13,.val S_string .b),(14,.bad .str),(15,.val .str .b),(16,.val .str .b),(17,.val .bool .b)]⟩]
noncomputable def sh_I_takeShown_2:List Sh:=mkSh 45 [(0,.val S_string .b),(1,.val .str .b),(6,.val S_string (.row .b))]
noncomputable def o_I_takeShown_2:List Out:=[⟨.exit 0,⟨[],[0,6],[]⟩,mkSh 45 [(0,.val S_string .b),(6,.val S_string (.row .b))]⟩]
noncomputable def b_I_takeShown_2 (t0:PV S_string)(t1:PV .str)(t6:PV S_string):Option ((PV S_string×PV .str×PV S_string×Unit)⊕((PV S_string×PV S_string×Unit))):=bif (decide ((t0.length:Int)>0)) then bif inB 0 t0.length then(f_strings_HasPrefix (t0.getD ((0:Int).toNat) []) t1).bind fun r11=>bif r11.1.1 then bif inB 0 t0.length then(f_strings_TrimPrefix (t0.getD ((0:Int).toNat) []) t1).bind fun r13=>bif cutB 1 (t0.length:Int) t0.length then((((bif (decide (((cutL 1 (t0.length:Int) t0).length:Int)>0)) then bif inB 0 (cutL 1 (t0.length:Int) t0).length then some ((cutL 1 (t0.length:Int) t0),t1,t6,r13.1.1,t0,(t0.getD ((0:Int).toNat) []),(t0.getD ((0:Int).toNat) []),t1,r11.1.1,(((cutL 1 (t0.length:Int) t0).getD ((0:Int).toNat) [])==[92,32,110,111,110,101,10]),()) else none else some ((cutL 1 (t0.length:Int) t0),t1,t6,r13.1.1,t0,(t0.getD ((0:Int).toNat) []),(t0.getD ((0:Int).toNat) []),t1,r11.1.1,false,()):Option ((PV S_string×PV .str×PV S_string×PV .str×PV S_string×PV .str×PV .str×PV .str×PV .bool×PV .bool×Unit)))).bind fun j14=>bif j14.2.2.2.2.2.2.2.2.2.1 then(f_I_plain j14.2.2.2.1).bind fun r15=>bif cutB 1 (j14.1.length:Int) j14.1.length then some ((cutL 1 (j14.1.length:Int) j14.1),j14.2.1,j14.2.2.1,r15.1.1,j14.2.2.2.2.1,j14.2.2.2.2.2.1,j14.2.2.2.2.2.2.1,j14.2.2.2.2.2.2.2.1,j14.2.2.2.2.2.2.2.2.1,()) else none else some (j14.1,j14.2.1,j14.2.2.1,j14.2.2.2.1,j14.2.2.2.2.1,j14.2.2.2.2.2.1,j14.2.2.2.2.2.2.1,j14.2.2.2.2.2.2.2.1,j14.2.2.2.2.2.2.2.2.1,()):Option ((PV S_string×PV .str×PV S_string×PV .str×PV S_string×PV .str×PV .str×PV .str×PV .bool×Unit)))).bind fun j16=>bif roomB (j16.2.2.1.length+[j16.2.2.2.1].length) then some (.inl (j16.1,j16.2.1,(j16.2.2.1++[j16.2.2.2.1]),())) else none else none else none else some (.inr (t0,t6,())) else none else some (.inr (t0,t6,()))
noncomputable def w_I_takeShown_2:PV S_string×PV .str×PV S_string×Unit→Option ((PV S_string×PV S_string×Unit)):=fix fun d=>b_I_takeShown_2 d.1 d.2.1 d.2.2.1
noncomputable def lp_I_takeShown_2:Lp:=⟨⟨[],[0,1,6,30,31,32,33],[]⟩,sh_I_takeShown_2,o_I_takeShown_2,fun d=>b_I_takeShown_2 d.1 d.2.1 d.2.2.1⟩
noncomputable def pl_I_takeShown:Plan:=⟨[(6,o_I_takeShown_6),(7,o_I_takeShown_7)],[(2,lp_I_takeShown_2)],0,0⟩
noncomputable def f_I_takeShown (t0:PV S_string)(t1:PV .str):Option (PVs [S_string,S_string]×PVs []):=(w_I_takeShown_2 (t0,t1,([]:PV S_string),())).bind fun l18=>some ((l18.2.1,l18.1,()),())
noncomputable def ct_I_takeShown:Ct:=⟨[(.bor,S_string),(.bor,.str)],[(S_string,(.row .b)),(S_string,.b)],fun x=>f_I_takeShown x.1 x.2.1⟩
noncomputable def cx_I_takeShown:Cx:=⟨tab,arrs,[(141,ct_I_plain),(213,ct_strings_HasPrefix),(214,ct_strings_TrimPrefix)],[],gl,[]⟩
theorem eb_I_takeShown_2 (t0:PV S_string)(t1:PV .str)(t6:PV S_string):denK cx_I_takeShown (rcN cx_I_takeShown 0) pl_I_takeShown 0 ((loopsOf (bodyOf Tryz.f144)).getD 0 .skip) (fillS sh_I_takeShown_2 (t0,t1,t6,())) (roundK 0 lp_I_takeShown_2)=b_I_takeShown_2 t0 t1 t6:=by kernel_rfl
theorem ef_I_takeShown (t0:PV S_string)(t1:PV .str):denF cx_I_takeShown 0 pl_I_takeShown Tryz.f144.ntmps (bodyOf Tryz.f144) Tryz.f144.results.toList [(.bor,S_string),(.bor,.str)] [(S_string,(.row .b)),(S_string,.b)] (t0,t1,())=f_I_takeShown t0 t1:=by kernel_rfl
theorem ok_I_takeShown:FnOk gl Tryz.prog 144 ct_I_takeShown:=
 fnOk (cx:=cx_I_takeShown) (pl:=pl_I_takeShown) (dp:=0) (ok0_of tabOk (by unfold ArrOk;kernel_rfl) mix ⟨ok_I_plain,ok_strings_HasPrefix,ok_strings_TrimPrefix,trivial⟩ trivial) Tryz.func144 (by kernel_rfl) (by kernel_rfl) (by kernel_rfl)
  (by rw[show loopsOf (bodyOf Tryz.f144)=[((loopsOf (bodyOf Tryz.f144)).getD 0 .skip)] from by kernel_rfl];exact⟨(by rw[show lookup pl_I_takeShown.loops (firstId ((loopsOf (bodyOf Tryz.f144)).getD 0 .skip))=some lp_I_takeShown_2 from by kernel_rfl];exact fun d z h=>(eb_I_takeShown_2 d.1 d.2.1 d.2.2.1).trans h),trivial⟩) (fun x=>ef_I_takeShown x.1 x.2.1)
noncomputable def o_I_readSteps_6:List Out:=[⟨.normal,⟨[],[0,4,5,6,26,54,55,77,78,79,80],[]⟩,mkSh 99 [(0,.val S_string .b),(4,.val S_impl_Step (.row (.pr .b (.pr .b (.pr (.row .b) (.pr .b (.pr .b (.pr (.row .b) .b)))))))),(5,.val .str .b),(6,.val (.int .i64) .b),(26,.val .bool .b)]⟩]
noncomputable def o_I_readSteps_11:List Out:=[⟨.normal,⟨[],[0,4,5,6,7,23,24,25,56,77,78,79,80],[]⟩,mkSh 99 [(0,.val S_string .b),(4,.val S_impl_Step (.row (.pr .b (.pr .b (.pr (.row .b) (.pr .b (.pr .b (.pr (.row .b) .b)))))))),(5,.val .str .b),(6,.val (.int .i64) .b),(7,.var Y_impl_Step (.pr .b (.pr .b (.pr (.row .b) (.pr .b (.pr .b (.pr (.row .b) .b))))))),(56,.val .bool .b)]⟩]
noncomputable def o_I_readSteps_15:List Out:=[⟨.normal,⟨[],[0,4,5,6,7,23,24,25,54,55,77,78,79,80],[]⟩,mkSh 99 [(0,.val S_string .b),(4,.val S_impl_Step (.row (.pr .b (.pr .b (.pr (.row .b) (.pr .b (.pr .b (.pr (.row .b) .b)))))))),(5,.val .str .b),(6,.val (.int .i64) .b),(7,.var Y_impl_Step (.pr .b (.pr .b (.pr (.row .b) (.pr .b (.pr .b (.pr (.row .b) .b)))))))]⟩]
noncomputable def o_I_readSteps_17:List Out:=[⟨.normal,⟨[],[0,4,5,6,7,23,24,25,54,55,81],[]⟩,mkSh 99 [(0,.val S_string .b),(4,.val S_impl_Step (.row (.pr .b (.pr .b (.pr (.row .b) (.pr .b (.pr .b (.pr (.row .b) .b)))))))),(5,.val .str .b),(6,.val (.int .i64) .b),(7,.var Y_impl_Step (.pr .b (.pr .b (.pr (.row .b) (.pr .b (.pr .b (.pr (.row .b) .b))))))),(81,.val .bool .b)]⟩]
noncomputable def o_I_readSteps_19:List Out:=[⟨.normal,⟨[],[0,4,5,6,7,23,24,25,54,55,77,78,79,80],[]⟩,mkSh 99 [(0,.val S_string .b),(4,.val S_impl_Step (.row (.pr .b (.pr .b (.pr (.row .b) (.pr .b (.pr .b (.pr (.row .b) .b)))))))),(5,.val .str .b),(6,.val (.int .i64) .b),(7,.var Y_impl_Step (.pr .b (.pr .b (.pr (.row .b) (.pr .b (.pr .b (.pr (.row .b) .b)))))))]⟩,⟨.ret,⟨[],[2,3],[]⟩,mkSh 99 [(2,.val S_impl_Step (.row (.pr .b (.pr .b (.pr (.row .b) (.pr .b (.pr .b (.pr (.row .b) .b)))))))),(3,.val .bool .b)]⟩]
noncomputable def o_I_readSteps_21:List Out:=[⟨.normal,⟨[],[0,4,7,23,24,25,54,55,77,78,79,80],[]⟩,mkSh 99 [(0,.val S_string .b),(4,.val S_impl_Step (.row (.pr .b (.pr .b (.pr (.row .b) (.pr .b (.pr .b (.pr (.row .b) .b)))))))),(7,.var Y_impl_Step (.pr .b (.pr .b (.pr (.row .b) (.pr .b (.pr .b (.pr (.row .b) .b)))))))]⟩]
noncomputable def sh_I_readSteps_2:List Sh:=mkSh 99 [(0,.val S_string .b),(4,.val S_impl_Step (.row (.pr .b (.pr .b (.pr (.row .b) (.pr .b (.pr .b (.pr (.row .b) .b))))))))]
noncomputable def o_I_readSteps_2:List Out:=[⟨.exit 0,⟨[],[4],[]⟩,mkSh 99 [(4,.val S_impl_Step (.row (.pr .b (.pr .b (.pr (.row .b) (.pr .b (.pr .b (.pr (.row .b) .b))))))))]⟩,⟨.ret,⟨[],[2,3],[]⟩,mkSh 99 [(2,.val S_impl_Step (.row (.pr .b (.pr .b (.pr (.row .b) (.pr .b (.pr .b (.pr (.row .b) .b)))))))),(3,.val .bool .b)]⟩]
noncomputable def b_I_readSteps_2 (t0:PV S_string)(t4:PV S_impl_Step):Option ((PV S_string×PV S_impl_Step×Unit)⊕((PV S_impl_Step×Unit)⊕(PV S_impl_Step×PV .bool×Unit))):=
 bif (decide ((t0.length:Int)>0)) then
  bif inB 0 t0.length then
   (f_I_plain (t0.getD ((0:Int).toNat) [])).bind fun r2=>
     (f_strings_IndexAny r2.1.1 [97,99,100]).bind fun r4=>
       ((
         bif (decide (r4.1.1<0)) then
          some (t0,t4,r2.1.1,r4.1.1,true,())
         else
          some (t0,t4,r2.1.1,r4.1.1,((t4.length:Int)==20),()):Option ((PV S_string×PV S_impl_Step×PV .str×PV (.int .i64)×PV .bool×Unit)))).bind fun j6=>
         bif j6.2.2.2.2.1 then
          some (.inr (.inr ([],false,())))
         else
          bif cutB 0 j6.2.2.2.1 j6.2.2.1.length then
           (f_I_readTwo (cutL 0 j6.2.2.2.1 j6.2.2.1)).bind fun r8=>
             bif cutB (IntKind.wrap .i64 (j6.2.2.2.1+1)) (j6.2.2.1.length:Int) j6.2.2.1.length then
              (f_I_readTwo (cutL (IntKind.wrap .i64 (j6.2.2.2.1+1)) (j6.2.2.1.length:Int) j6.2.2.1)).bind fun r10=>
                ((
                  bif (!r8.1.2.2.2.1) then
                   some (j6.1,j6.2.1,j6.2.2.1,j6.2.2.2.1,(r8.1.1,(r8.1.2.1,(([]:PV S_string),(r10.1.1,(r10.1.2.1,(([]:PV S_string),())))))),true,())
                  else
                   some (j6.1,j6.2.1,j6.2.2.1,j6.2.2.2.1,(r8.1.1,(r8.1.2.1,(([]:PV S_string),(r10.1.1,(r10.1.2.1,(([]:PV S_string),())))))),(!r10.1.2.2.2.1),()):Option ((PV S_string×PV S_impl_Step×PV .str×PV (.int .i64)×PV Y_impl_Step×PV .bool×Unit)))).bind fun j12=>
                  bif j12.2.2.2.2.2.1 then
                   some (.inr (.inr ([],false,())))
                  else
                   bif cutB 1 (j12.1.length:Int) j12.1.length then
                    ((
                      bif inB j12.2.2.2.1 j12.2.2.1.length then
                       bif (!(((j12.2.2.1.getD j12.2.2.2.1.toNat 0).toNat:Int)==97)) then
                        (f_I_takeShown (cutL 1 (j12.1.length:Int) j12.1) [60,32]).bind fun r13=>
                          some (r13.1.2.1,j12.2.1,j12.2.2.1,j12.2.2.2.1,(j12.2.2.2.2.1.1,(j12.2.2.2.2.1.2.1,(r13.1.1,j12.2.2.2.2.1.2.2.2))),())
                       else
                        some ((cutL 1 (j12.1.length:Int) j12.1),j12.2.1,j12.2.2.1,j12.2.2.2.1,j12.2.2.2.2.1,())
                      else
                       none:Option ((PV S_string×PV S_impl_Step×PV .str×PV (.int .i64)×PV Y_impl_Step×Unit)))).bind fun j14=>
                      ((
                        bif inB j14.2.2.2.1 j14.2.2.1.length then
                         bif (((j14.2.2.1.getD j14.2.2.2.1.toNat 0).toNat:Int)==99) then
                          ((
                            bif ((j14.1.length:Int)==0) then
                             some (j14.1,j14.2.1,j14.2.2.1,j14.2.2.2.1,j14.2.2.2.2.1,true,())
                            else
                             bif inB 0 j14.1.length then
                              some (j14.1,j14.2.1,j14.2.2.1,j14.2.2.2.1,j14.2.2.2.2.1,(!((j14.1.getD ((0:Int).toNat) [])==[45,45,45,10])),())
                             else
                              none:Option ((PV S_string×PV S_impl_Step×PV .str×PV (.int .i64)×PV Y_impl_Step×PV .bool×Unit)))).bind fun j16=>
                            bif j16.2.2.2.2.2.1 then
                             some (.inr ([],false,()))
                            else
                             bif cutB 1 (j16.1.length:Int) j16.1.length then
                              some (.inl ((cutL 1 (j16.1.length:Int) j16.1),j16.2.1,j16.2.2.1,j16.2.2.2.1,j16.2.2.2.2.1,()))
                             else
                              none
                         else
                          some (.inl (j14.1,j14.2.1,j14.2.2.1,j14.2.2.2.1,j14.2.2.2.2.1,()))
                        else
                         none:Option ((PV S_string×PV S_impl_Step×PV .str×PV (.int .i64)×PV Y_impl_Step×Unit)⊕(PV S_impl_Step×PV .bool×Unit)))).bind fun x25=>
                        match x25 with
                        | .inl j17=>
                          ((
                            bif inB j17.2.2.2.1 j17.2.2.1.length then
                             bif (!(((j17.2.2.1.getD j17.2.2.2.1.toNat 0).toNat:Int)==100)) then
                              (f_I_takeShown j17.1 [62,32]).bind fun r18=>
                                some (r18.1.2.1,j17.2.1,(j17.2.2.2.2.1.1,(j17.2.2.2.2.1.2.1,(j17.2.2.2.2.1.2.2.1,(j17.2.2.2.2.1.2.2.2.1,(j17.2.2.2.2.1.2.2.2.2.1,(r18.1.1,j17.2.2.2.2.1.2.2.2.2.2.2)))))),())
                             else
                              some (j17.1,j17.2.1,j17.2.2.2.2.1,())
                            else
                             none:Option ((PV S_string×PV S_impl_Step×PV Y_impl_Step×Unit)))).bind fun j19=>
                            bif roomB (j19.2.1.length+[j19.2.2.1].length) then
                             some (.inl (j19.1,(j19.2.1++[j19.2.2.1]),()))
                            else
                             none
                        | .inr j20=>
                          some (.inr (.inr (j20.1,j20.2.1,())))
                   else
                    none
             else
              none
          else
           none
  else
   none
 else
  some (.inr (.inl (t4,())))
noncomputable def w_I_readSteps_2:PV S_string×PV S_impl_Step×Unit→Option ((PV S_impl_Step×Unit)⊕(PV S_impl_Step×PV .bool×Unit)):=fix fun d=>b_I_readSteps_2 d.1 d.2.1
noncomputable def lp_I_readSteps_2:Lp:=⟨⟨[],[0,4,23,24,25,54,55,77,78,79,80],[]⟩,sh_I_readSteps_2,o_I_readSteps_2,fun d=>b_I_readSteps_2 d.1 d.2.1⟩
noncomputable def pl_I_readSteps:Plan:=⟨[(6,o_I_readSteps_6),(11,o_I_readSteps_11),(15,o_I_readSteps_15),(17,o_I_readSteps_17),(19,o_I_readSteps_19),(21,o_I_readSteps_21)],[(2,lp_I_readSteps_2)],0,0⟩
noncomputable def f_I_readSteps (t0:PV S_string):Option (PVs [S_impl_Step,.bool]×PVs []):=
 (w_I_readSteps_2 (t0,([]:PV S_impl_Step),())).bind fun x26=>
   match x26 with
   | .inl l23=>
     some ((l23.1,true,()),())
   | .inr l24=>
     some ((l24.1,l24.2.1,()),())
noncomputable def ct_I_readSteps:Ct:=⟨[(.bor,S_string)],[(S_impl_Step,(.row (.pr .b (.pr .b (.pr (.row .b) (.pr .b (.pr .b (.pr (.row .b) .b)))))))),(.bool,.b)],fun x=>f_I_readSteps x.1⟩
noncomputable def cx_I_readSteps:Cx:=⟨tab,arrs,[(141,ct_I_plain),(142,ct_strings_IndexAny),(143,ct_I_readTwo),(144,ct_I_takeShown)],[],gl,[]⟩
theorem eb_I_readSteps_2 (t0:PV S_string)(t4:PV S_impl_Step):denK cx_I_readSteps (rcN cx_I_readSteps 0) pl_I_readSteps 0 ((loopsOf (bodyOf Tryz.f74)).getD 0 .skip) (fillS sh_I_readSteps_2 (t0,t4,())) (roundK 0 lp_I_readSteps_2)=b_I_readSteps_2 t0 t4:=by kernel_rfl
theorem ef_I_readSteps (t0:PV S_string):denF cx_I_readSteps 0 pl_I_readSteps Tryz.f74.ntmps (bodyOf Tryz.f74) Tryz.f74.results.toList [(.bor,S_string)] [(S_impl_Step,(.row (.pr .b (.pr .b (.pr (.row .b) (.pr .b (.pr .b (.pr (.row .b) .b)))))))),(.bool,.b)] (t0,())=f_I_readSteps t0:=by kernel_rfl
theorem ok_I_readSteps:FnOk gl Tryz.prog 74 ct_I_readSteps:=
 fnOk (cx:=cx_I_readSteps) (pl:=pl_I_readSteps) (dp:=0) (ok0_of tabOk (by unfold ArrOk;kernel_rfl) mix ⟨ok_I_plain,ok_strings_IndexAny,ok_I_readTwo,ok_I_takeShown,trivial⟩ trivial) Tryz.func74 (by kernel_rfl) (by kernel_rfl) (by kernel_rfl)
  (by rw[show loopsOf (bodyOf Tryz.f74)=[((loopsOf (bodyOf Tryz.f74)).getD 0 .skip)] from by kernel_rfl];exact⟨(by rw[show lookup pl_I_readSteps.loops (firstId ((loopsOf (bodyOf Tryz.f74)).getD 0 .skip))=some lp_I_readSteps_2 from by kernel_rfl];exact fun d z h=>(eb_I_readSteps_2 d.1 d.2.1).trans h),trivial⟩) (fun x=>ef_I_readSteps x.1)
noncomputable def o_I_ReadNormal_5:List Out:=[⟨.normal,⟨[],[5,31],[]⟩,mkSh 33 [(5,.val S_impl_Step (.row (.pr .b (.pr .b (.pr (.row .b) (.pr .b (.pr .b (.pr (.row .b) .b)))))))),(31,.val .bool .b)]⟩]
noncomputable def o_I_ReadNormal_6:List Out:=[⟨.normal,⟨[],[],[]⟩,mkSh 33 []⟩,⟨.ret,⟨[],[2,3,4],[]⟩,mkSh 33 [(2,.val S_impl_Step (.row (.pr .b (.pr .b (.pr (.row .b) (.pr .b (.pr .b (.pr (.row .b) .b)))))))),(3,.val (.int .i64) .b),(4,.val .bool .b)]⟩]
noncomputable def pl_I_ReadNormal:Plan:=⟨[(5,o_I_ReadNormal_5),(6,o_I_ReadNormal_6)],[],0,0⟩
noncomputable def f_I_ReadNormal (t0:PV .str):Option (PVs [S_impl_Step,(.int .i64),.bool]×PVs []):=
 ((
   bif (decide ((t0.length:Int)≤3000)) then
    (f_I_linesOf t0).bind fun r10=>
      (f_I_readSteps r10.1.1).bind fun r11=>
        (f_I_StepsText r11.1.1).bind fun r13=>
          ((
            bif r11.1.2.1 then
             bif r13.1.2.1 then
              some (r11.1.1,(r13.1.1==t0),())
             else
              some (r11.1.1,false,())
            else
             some (r11.1.1,false,()):Option ((PV S_impl_Step×PV .bool×Unit)))).bind fun j14=>
            bif j14.2.1 then
             some (.inr (j14.1,0,true,()))
            else
             some (.inl ())
   else
    some (.inl ()):Option ((Unit)⊕(PV S_impl_Step×PV (.int .i64)×PV .bool×Unit)))).bind fun x17=>
   match x17 with
   | .inl j15=>
     some (([],1,false,()),())
   | .inr j16=>
     some ((j16.1,j16.2.1,j16.2.2.1,()),())
noncomputable def ct_I_ReadNormal:Ct:=⟨[(.bor,.str)],[(S_impl_Step,(.row (.pr .b (.pr .b (.pr (.row .b) (.pr .b (.pr .b (.pr (.row .b) .b)))))))),((.int .i64),.b),(.bool,.b)],fun x=>f_I_ReadNormal x.1⟩
noncomputable def cx_I_ReadNormal:Cx:=⟨tab,arrs,[(26,ct_I_StepsText),(74,ct_I_readSteps),(75,ct_I_linesOf)],[],gl,[]⟩
theorem ef_I_ReadNormal (t0:PV .str):denF cx_I_ReadNormal 0 pl_I_ReadNormal Tryz.f30.ntmps (bodyOf Tryz.f30) Tryz.f30.results.toList [(.bor,.str)] [(S_impl_Step,(.row (.pr .b (.pr .b (.pr (.row .b) (.pr .b (.pr .b (.pr (.row .b) .b)))))))),((.int .i64),.b),(.bool,.b)] (t0,())=f_I_ReadNormal t0:=by kernel_rfl
theorem ok_I_ReadNormal:FnOk gl Tryz.prog 30 ct_I_ReadNormal:=
 fnOk (cx:=cx_I_ReadNormal) (pl:=pl_I_ReadNormal) (dp:=0) (ok0_of tabOk (by unfold ArrOk;kernel_rfl) mix ⟨ok_I_StepsText,ok_I_readSteps,ok_I_linesOf,trivial⟩ trivial) Tryz.func30 (by kernel_rfl) (by kernel_rfl) (by kernel_rfl)
  (by rw[show loopsOf (bodyOf Tryz.f30)=[] from by kernel_rfl];exact trivial) (fun x=>ef_I_ReadNormal x.1)
noncomputable def sh_L_sameTexts_4:List Sh:=mkSh 26 [(0,.val S_string .b),(1,.val S_string .b),(12,.val (.int .i64) .b),(13,.val (.int .i64) .b)]
noncomputable def o_L_sameTexts_4:List Out:=[⟨.exit 0,⟨[],[],[]⟩,mkSh 26 []⟩,⟨.ret,⟨[],[4],[]⟩,mkSh 26 [(4,.val .bool .b)]⟩]
noncomputable def b_L_sameTexts_4 (t0:PV S_string)(t1:PV S_string)(t12:PV (.int .i64))(t13:PV (.int .i64)):Option ((PV S_string×PV S_string×PV (.int .i64)×PV (.int .i64)×Unit)⊕((Unit)⊕(PV .bool×Unit))):=bif (decide (t13<t12)) then bif inB t13 t0.length then bif inB t13 t1.length then bif (!((t0.getD t13.toNat [])==(t1.getD t13.toNat []))) then some (.inr (.inr (false,()))) else some (.inl (t0,t1,t12,(IntKind.wrap .i64 (t13+1)),())) else none else none else some (.inr (.inl ()))
noncomputable def w_L_sameTexts_4:PV S_string×PV S_string×PV (.int .i64)×PV (.int .i64)×Unit→Option ((Unit)⊕(PV .bool×Unit)):=fix fun d=>b_L_sameTexts_4 d.1 d.2.1 d.2.2.1 d.2.2.2.1
noncomputable def lp_L_sameTexts_4:Lp:=⟨⟨[],[0,1,12,13],[]⟩,sh_L_sameTexts_4,o_L_sameTexts_4,fun d=>b_L_sameTexts_4 d.1 d.2.1 d.2.2.1 d.2.2.2.1⟩
noncomputable def pl_L_sameTexts:Plan:=⟨[],[(4,lp_L_sameTexts_4)],0,0⟩
noncomputable def f_L_sameTexts (t0:PV S_string)(t1:PV S_string):Option (PVs [.bool]×PVs []):=
 bif (!((t0.length:Int)==(t1.length:Int))) then
  some ((false,()),())
 else
  (w_L_sameTexts_4 (t0,t1,(t0.length:Int),0,())).bind fun x5=>
    match x5 with
    | .inl l3=>
      some ((true,()),())
    | .inr l4=>
      some ((l4.1,()),())
noncomputable def ct_L_sameTexts:Ct:=⟨[(.bor,S_string),(.bor,S_string)],[(.bool,.b)],fun x=>f_L_sameTexts x.1 x.2.1⟩
noncomputable def cx_L_sameTexts:Cx:=⟨tab,arrs,[],[],gl,[]⟩
theorem eb_L_sameTexts_4 (t0:PV S_string)(t1:PV S_string)(t12:PV (.int .i64))(t13:PV (.int .i64)):denK cx_L_sameTexts (rcN cx_L_sameTexts 0) pl_L_sameTexts 0 ((loopsOf (bodyOf Tryz.f39)).getD 0 .skip) (fillS sh_L_sameTexts_4 (t0,t1,t12,t13,())) (roundK 0 lp_L_sameTexts_4)=b_L_sameTexts_4 t0 t1 t12 t13:=by kernel_rfl
theorem ef_L_sameTexts (t0:PV S_string)(t1:PV S_string):denF cx_L_sameTexts 0 pl_L_sameTexts Tryz.f39.ntmps (bodyOf Tryz.f39) Tryz.f39.results.toList [(.bor,S_string),(.bor,S_string)] [(.bool,.b)] (t0,t1,())=f_L_sameTexts t0 t1:=by kernel_rfl
theorem ok_L_sameTexts:FnOk gl Tryz.prog 39 ct_L_sameTexts:=
 fnOk (cx:=cx_L_sameTexts) (pl:=pl_L_sameTexts) (dp:=0) (ok0_of tabOk (by unfold ArrOk;kernel_rfl) mix trivial trivial) Tryz.func39 (by kernel_rfl) (by kernel_rfl) (by kernel_rfl)
  (by rw[show loopsOf (bodyOf Tryz.f39)=[((loopsOf (bodyOf Tryz.f39)).getD 0 .skip)] from by kernel_rfl];exact⟨(by rw[show lookup pl_L_sameTexts.loops (firstId ((loopsOf (bodyOf Tryz.f39)).getD 0 .skip))=some lp_L_sameTexts_4 from by kernel_rfl];exact fun d z h=>(eb_L_sameTexts_4 d.1 d.2.1 d.2.2.1 d.2.2.2.1).trans h),trivial⟩) (fun x=>ef_L_sameTexts x.1 x.2.1)
noncomputable def o_L_sameSteps_8:List Out:=[⟨.normal,⟨[],[1,6,7,13,14,15,65],[]⟩,mkSh 67 [(1,.val S_impl_Step .b),(6,.var Y_impl_Step .b),(7,.var Y_impl_Step .b),(13,.val S_impl_Step .b),(14,.val (.int .i64) .b),(15,.val (.int .i64) .b),(65,.val .bool .b)]⟩]
noncomputable def sh_L_sameSteps_4:List Sh:=mkSh 67 [(1,.val S_impl_Step .b),(13,.val S_impl_Step .b),(14,.val (.int .i64) .b),(15,.val (.int .i64) .b)]
noncomputable def o_L_sameSteps_4:List Out:=[⟨.exit 0,⟨[],[],[]⟩,mkSh 67 []⟩,⟨.ret,⟨[],[4],[]⟩,mkSh 67 [(4,.val .bool .b)]⟩]
noncomputable def b_L_sameSteps_4 (t1:PV S_impl_Step)(t13:PV S_impl_Step)(t14:PV (.int .i64))(t15:PV (.int .i64)):Option ((PV S_impl_Step×PV S_impl_Step×PV (.int .i64)×PV (.int .i64)×Unit)⊕((Unit)⊕(PV .bool×Unit))):=bif (decide (t15<t14)) then bif inB t15 t13.length then bif inB t15 t1.length then((bif (!(((t13.getD t15.toNat (dflt Y_impl_Step)).1)==((t1.getD t15.toNat (dflt Y_impl_Step)).1))) then some (t1,(t13.getD t15.toNat (dflt Y_impl_Step)),(t1.getD t15.toNat (dflt Y_impl_Step)),t13,t14,t15,true,()) else bif (!((((t13.getD t15.toNat (dflt Y_impl_Step)).2).1)==(((t1.getD t15.toNat (dflt Y_impl_Step)).2).1))) then some (t1,(t13.getD t15.toNat (dflt Y_impl_Step)),(t1.getD t15.toNat (dflt Y_impl_Step)),t13,t14,t15,true,()) else bif (!((((((t13.getD t15.toNat (dflt Y_impl_Step)).2).2).2).1)==(((((t1.getD t15.toNat (dflt Y_impl_Step)).2).2).2).1))) then some (t1,(t13.getD t15.toNat (dflt Y_impl_Step)),(t1.getD t15.toNat (dflt Y_impl_Step)),t13,t14,t15,true,()) else bif (!(((((((t13.getD t15.toNat (dflt Y_impl_Step)).2).2).2).2).1)==((((((t1.getD t15.toNat (dflt Y_impl_Step)).2).2).2).2).1))) then some (t1,(t13.getD t15.toNat (dflt Y_impl_Step)),(t1.getD t15.toNat (dflt Y_impl_Step)),t13,t14,t15,true,()) else(f_L_sameTexts ((((t13.getD t15.toNat (dflt Y_impl_Step)).2).2).1) ((((t1.getD t15.toNat (dflt Y_impl_Step)).2).2).1)).bind fun r4=>bif (!r4.1.1) then some (t1,(t13.getD t15.toNat (dflt Y_impl_Step)),(t1.getD t15.toNat (dflt Y_impl_Step)),t13,t14,t15,true,()) else(f_L_sameTexts (((((((t13.getD t15.toNat (dflt Y_impl_Step)).2).2).2).2).2).1) (((((((t1.getD t15.toNat (dflt Y_impl_Step)).2).2).2).2).2).1)).bind fun r5=>some (t1,(t13.getD t15.toNat (dflt Y_impl_Step)),(t1.getD t15.toNat (dflt Y_impl_Step)),t13,t14,t15,(!r5.1.1),()):Option ((PV S_impl_Step×PV Y_impl_Step×PV Y_impl_Step×PV S_impl_Step×PV (.int .i64)×PV (.int .i64)×PV .bool×Unit)))).bind fun j6=>bif j6.2.2.2.2.2.2.1 then some (.inr (.inr (false,()))) else some (.inl (j6.1,j6.2.2.2.1,j6.2.2.2.2.1,(IntKind.wrap .i64 (j6.2.2.2.2.2.1+1)),())) else none else none else some (.inr (.inl ()))
noncomputable def w_L_sameSteps_4:PV S_impl_Step×PV S_impl_Step×PV (.int .i64)×PV (.int .i64)×Unit→Option ((Unit)⊕(PV .bool×Unit)):=fix fun d=>b_L_sameSteps_4 d.1 d.2.1 d.2.2.1 d.2.2.2.1
noncomputable def lp_L_sameSteps_4:Lp:=⟨⟨[],[1,13,14,15,30,31,32,33,34,37,38,39,40,41,44,45,46,47,48,51,52,53,54,55,56,59,60,61,62,63,64],[]⟩,sh_L_sameSteps_4,o_L_sameSteps_4,fun d=>b_L_sameSteps_4 d.1 d.2.1 d.2.2.1 d.2.2.2.1⟩
noncomputable def pl_L_sameSteps:Plan:=⟨[(8,o_L_sameSteps_8)],[(4,lp_L_sameSteps_4)],0,0⟩
noncomputable def f_L_sameSteps (t0:PV S_impl_Step)(t1:PV S_impl_Step):Option (PVs [.bool]×PVs []):=
 bif (!((t0.length:Int)==(t1.length:Int))) then
  some ((false,()),())
 else
  (w_L_sameSteps_4 (t1,t0,(t0.length:Int),0,())).bind fun x11=>
    match x11 with
    | .inl l9=>
      some ((true,()),())
    | .inr l10=>
      some ((l10.1,()),())
noncomputable def ct_L_sameSteps:Ct:=⟨[(.bor,S_impl_Step),(.bor,S_impl_Step)],[(.bool,.b)],fun x=>f_L_sameSteps x.1 x.2.1⟩
noncomputable def cx_L_sameSteps:Cx:=⟨tab,arrs,[(39,ct_L_sameTexts)],[],gl,[]⟩
theorem eb_L_sameSteps_4 (t1:PV S_impl_Step)(t13:PV S_impl_Step)(t14:PV (.int .i64))(t15:PV (.int .i64)):denK cx_L_sameSteps (rcN cx_L_sameSteps 0) pl_L_sameSteps 0 ((loopsOf (bodyOf Tryz.f31)).getD 0 .skip) (fillS sh_L_sameSteps_4 (t1,t13,t14,t15,())) (roundK 0 lp_L_sameSteps_4)=b_L_sameSteps_4 t1 t13 t14 t15:=by kernel_rfl
theorem ef_L_sameSteps (t0:PV S_impl_Step)(t1:PV S_impl_Step):denF cx_L_sameSteps 0 pl_L_sameSteps Tryz.f31.ntmps (bodyOf Tryz.f31) Tryz.f31.results.toList [(.bor,S_impl_Step),(.bor,S_impl_Step)] [(.bool,.b)] (t0,t1,())=f_L_sameSteps t0 t1:=by kernel_rfl
theorem ok_L_sameSteps:FnOk gl Tryz.prog 31 ct_L_sameSteps:=
 fnOk (cx:=cx_L_sameSteps) (pl:=pl_L_sameSteps) (dp:=0) (ok0_of tabOk (by unfold ArrOk;kernel_rfl) mix ⟨ok_L_sameTexts,trivial⟩ trivial) Tryz.func31 (by kernel_rfl) (by kernel_rfl) (by kernel_rfl)
  (by rw[show loopsOf (bodyOf Tryz.f31)=[((loopsOf (bodyOf Tryz.f31)).getD 0 .skip)] from by kernel_rfl];exact⟨(by rw[show lookup pl_L_sameSteps.loops (firstId ((loopsOf (bodyOf Tryz.f31)).getD 0 .skip))=some lp_L_sameSteps_4 from by kernel_rfl];exact fun d z h=>(eb_L_sameSteps_4 d.1 d.2.1 d.2.2.1 d.2.2.2.1).trans h),trivial⟩) (fun x=>ef_L_sameSteps x.1 x.2.1)
noncomputable def o_S_l1Cur_spoilt_3:List Out:=[⟨.normal,⟨[],[0,1,2,7,16,17,18],[]⟩,mkSh 69 [(0,.var Y_spec_l1Cur .b),(1,.addr ⟨0,[],0,0⟩),(2,.val .str .b),(3,.val .str .b),(8,.val (.int .i64) .b),(17,.val .str .b),(18,.val (.int .i64) .b),(19,.val .bool .b)]⟩]
noncomputable def sh_S_l1Cur_spoilt_2:List Sh:=mkSh 69 [(0,.var Y_spec_l1Cur .b),(1,.addr ⟨0,[],0,0⟩),(2,.val .str .b),(3,.val .str .b),(8,.val (.int .i64) .b)]
noncomputable def o_S_l1Cur_spoilt_2:List Out:=[⟨.exit 0,⟨[],[1],[]⟩,mkSh 69 [(0,.var Y_spec_l1Cur .b),(2,.val .str .b)]⟩]
noncomputable def b_S_l1Cur_spoilt_2 (t0:PV Y_spec_l1Cur)(t2:PV .str)(t3:PV .str)(t8:PV (.int .i64)):Option ((PV Y_spec_l1Cur×PV .str×PV .str×PV (.int .i64)×Unit)⊕((PV Y_spec_l1Cur×PV .str×Unit))):=bif (decide (t8>0)) then bif (decide ((t2.length:Int)>0)) then(((f_S_l1Cur_pick t0 (t2.length:Int)).bind fun r17=>(f_S_l1Cur_pick r17.2.1 (t3.length:Int)).bind fun r19=>bif inB r19.1.1 t3.length then(f_S_l1Cur_pick r19.2.1 3).bind fun r21=>bif (r21.1.1==0) then bif cutB 0 r17.1.1 t2.length then bif decide ((cutL 0 r17.1.1 t2).length+(bytesOfInts [((t3.getD r19.1.1.toNat 0).toNat:Int)]).length≤1099511627776) then bif cutB r17.1.1 (t2.length:Int) t2.length then bif decide (((cutL 0 r17.1.1 t2)++(bytesOfInts [((t3.getD r19.1.1.toNat 0).toNat:Int)])).length+(cutL r17.1.1 (t2.length:Int) t2).length≤1099511627776) then some (r21.2.1,(((cutL 0 r17.1.1 t2)++(bytesOfInts [((t3.getD r19.1.1.toNat 0).toNat:Int)]))++(cutL r17.1.1 (t2.length:Int) t2)),t3,t8,t2,(t2.length:Int),(decide ((t2.length:Int)>0)),()) else none else none else none else none else bif (r21.1.1==1) then bif cutB 0 r17.1.1 t2.length then bif decide ((cutL 0 r17.1.1 t2).length+(bytesOfInts [((t3.getD r19.1.1.toNat 0).toNat:Int)]).length≤1099511627776) then bif cutB (IntKind.wrap .i64 (r17.1.1+1)) (t2.length:Int) t2.length then bif decide (((cutL 0 r17.1.1 t2)++(bytesOfInts [((t3.getD r19.1.1.toNat 0).toNat:Int)])).length+(cutL (IntKind.wrap .i64 (r17.1.1+1)) (t2.length:Int) t2).length≤1099511627776) then some (r21.2.1,(((cutL 0 r17.1.1 t2)++(bytesOfInts [((t3.getD r19.1.1.toNat 0).toNat:Int)]))++(cutL (IntKind.wrap .i64 (r17.1.1+1)) (t2.length:Int) t2)),t3,t8,t2,(t2.length:Int),(decide ((t2.length:Int)>0)),()) else none else none else none else none else bif cutB 0 r17.1.1 t2.length then bif cutB (IntKind.wrap .i64 (r17.1.1+1)) (t2.length:Int) t2.length then bif decide ((cutL 0 r17.1.1 t2).length+(cutL (IntKind.wrap .i64 (r17.1.1+1)) (t2.length:Int) t2).length≤1099511627776) then some (r21.2.1,((cutL 0 r17.1.1 t2)++(cutL (IntKind.wrap .i64 (r17.1.1+1)) (t2.length:Int) t2)),t3,t8,t2,(t2.length:Int),(decide ((t2.length:Int)>0)),()) else none else none else none else none:Option ((PV Y_spec_l1Cur×PV .str×PV .str×PV (.int .i64)×PV .str×PV (.int .i64)×PV .bool×Unit)))).bind fun j22=>some (.inl (j22.1,j22.2.1,j22.2.2.1,(IntKind.wrap .i64 (j22.2.2.2.1 -1)),())) else some (.inr (t0,t2,())) else some (.inr (t0,t2,()))
noncomputable def w_S_l1Cur_spoilt_2:PV Y_spec_l1Cur×PV .str×PV .str×PV (.int .i64)×Unit→Option ((PV Y_spec_l1Cur×PV .str×Unit)):=fix fun d=>b_S_l1Cur_spoilt_2 d.1 d.2.1 d.2.2.1 d.2.2.2.1
noncomputable def lp_S_l1Cur_spoilt_2:Lp:=⟨⟨[],[0,1,2,7],[]⟩,sh_S_l1Cur_spoilt_2,o_S_l1Cur_spoilt_2,fun d=>b_S_l1Cur_spoilt_2 d.1 d.2.1 d.2.2.1 d.2.2.2.1⟩
noncomputable def pl_S_l1Cur_spoilt:Plan:=⟨[(3,o_S_l1Cur_spoilt_3)],[(2,lp_S_l1Cur_spoilt_2)],0,1⟩
noncomputable def f_S_l1Cur_spoilt (t0:PV Y_spec_l1Cur)(t1:PV .str)(t2:PV .str):Option (PVs [.str]×PVs [Y_spec_l1Cur]):=(f_S_l1Cur_pick t0 2).bind fun r25=>(w_S_l1Cur_spoilt_2 (r25.2.1,t1,t2,(IntKind.wrap .i64 (1+r25.1.1)),())).bind fun l26=>some ((l26.2.1,()),(l26.1,()))
noncomputable def ct_S_l1Cur_spoilt:Ct:=⟨[(.ptr,Y_spec_l1Cur),(.bor,.str),(.bor,.str)],[(.str,.b)],fun x=>f_S_l1Cur_spoilt x.1 x.2.1 x.2.2.1⟩
noncomputable def cx_S_l1Cur_spoilt:Cx:=⟨tab,arrs,[(61,ct_S_l1Cur_pick)],[],gl,[]⟩
theorem eb_S_l1Cur_spoilt_2 (t0:PV Y_spec_l1Cur)(t2:PV .str)(t3:PV .str)(t8:PV (.int .i64)):denK cx_S_l1Cur_spoilt (rcN cx_S_l1Cur_spoilt 0) pl_S_l1Cur_spoilt 1 ((loopsOf (bodyOf Tryz.f77)).getD 0 .skip) (fillS sh_S_l1Cur_spoilt_2 (t0,t2,t3,t8,())) (roundK 1 lp_S_l1Cur_spoilt_2)=b_S_l1Cur_spoilt_2 t0 t2 t3 t8:=by kernel_rfl
theorem ef_S_l1Cur_spoilt (t0:PV Y_spec_l1Cur)(t1:PV .str)(t2:PV .str):denF cx_S_l1Cur_spoilt 0 pl_S_l1Cur_spoilt Tryz.f77.ntmps (bodyOf Tryz.f77) Tryz.f77.results.toList [(.ptr,Y_spec_l1Cur),(.bor,.str),(.bor,.str)] [(.str,.b)] (t0,t1,t2,())=f_S_l1Cur_spoilt t0 t1 t2:=by kernel_rfl
theorem ok_S_l1Cur_spoilt:FnOk gl Tryz.prog 77 ct_S_l1Cur_spoilt:=
 fnOk (cx:=cx_S_l1Cur_spoilt) (pl:=pl_S_l1Cur_spoilt) (dp:=0) (ok0_of tabOk (by unfold ArrOk;kernel_rfl) mix ⟨ok_S_l1Cur_pick,trivial⟩ trivial) Tryz.func77 (by kernel_rfl) (by kernel_rfl) (by kernel_rfl)
  (by rw[show loopsOf (bodyOf Tryz.f77)=[((loopsOf (bodyOf Tryz.f77)).getD 0 .skip)] from by kernel_rfl];exact⟨(by rw[show lookup pl_S_l1Cur_spoilt.loops (firstId ((loopsOf (bodyOf Tryz.f77)).getD 0 .skip))=some lp_S_l1Cur_spoilt_2 from by kernel_rfl];exact fun d z h=>(eb_S_l1Cur_spoilt_2 d.1 d.2.1 d.2.2.1 d.2.2.2.1).trans h),trivial⟩) (fun x=>ef_S_l1Cur_spoilt x.1 x.2.1 x.2.2.1)
noncomputable def o_S_DrawReadNormal_9:List Out:=[⟨.normal,⟨[],[6],[]⟩,mkSh 34 [(6,.val .str .b)]⟩]
noncomputable def pl_S_DrawReadNormal_78:Plan:=⟨[],[],0,34⟩
noncomputable def pl_S_DrawReadNormal:Plan:=⟨[(9,o_S_DrawReadNormal_9)],[],1,0⟩
noncomputable def f_S_DrawReadNormal (t0:PV S_uint8):Option (PVs [.str]×PVs []):=(f_S_l1Cur_steps (t0,(0,(0,())))).bind fun r2=>(f_S_StepsText r2.1.2.1).bind fun r4=>(((f_S_l1Cur_pick r2.2.1 4).bind fun r10=>bif (r10.1.1==0) then(f_S_l1Cur_spoilt r10.2.1 r4.1.1 [97,99,100,60,62,45,44,49,10,32]).bind fun r11=>some (r11.1.1,()) else bif (r10.1.1==1) then(f_S_l1Cur_pick r10.2.1 ([[],[49,97,50,10,62,32,120,10],[49,97,50,10,62,32,120],[49,97,50,10,62,32,120,10,92,32,110,111,110,101,10],[49,100,48,10,60,32,10,92,32,110,111,110,101,10],[49,99,49,10,60,32,97,10,62,32,98,10],[49,99,49,10,60,32,97,10,45,45,45,10,62,32,98,10],[48,97,49,44,50,10,62,32,120,10,62,32,121,10],[48,49,97,50,10,62,32,120,10]].length:Int)).bind fun r12=>bif inB r12.1.1 [[],[49,97,50,10,62,32,120,10],[49,97,50,10,62,32,120],[49,97,50,10,62,32,120,10,92,32,110,111,110,101,10],[49,100,48,10,60,32,10,92,32,110,111,110,101,10],[49,99,49,10,60,32,97,10,62,32,98,10],[49,99,49,10,60,32,97,10,45,45,45,10,62,32,98,10],[48,97,49,44,50,10,62,32,120,10,62,32,121,10],[48,49,97,50,10,62,32,120,10]].length then some (([[],[49,97,50,10,62,32,120,10],[49,97,50,10,62,32,120],[49,97,50,10,62,32,120,10,92,32,110,111,110,101,10],[49,100,48,10,60,32,10,92,32,110,111,110,101,10],[49,99,49,10,60,32,97,10,62,32,98,10],[49,99,49,10,60,32,97,10,45,45,45,10,62,32,98,10],[48,97,49,44,50,10,62,32,120,10,62,32,121,10],[48,49,97,50,10,62,32,120,10]].getD r12.1.1.toNat []),()) else none else some (r4.1.1,()):Option ((PV .str×Unit)))).bind fun j13=>some ((j13.1,()),())
noncomputable def ct_S_DrawReadNormal:Ct:=⟨[(.bor,S_uint8)],[(.str,.b)],fun x=>f_S_DrawReadNormal x.1⟩
noncomputable def cx_S_DrawReadNormal:Cx:=⟨tab,arrs,[(27,ct_S_StepsText),(61,ct_S_l1Cur_pick),(76,ct_S_l1Cur_steps),(77,ct_S_l1Cur_spoilt)],[(78,Tryz.f78,pl_S_DrawReadNormal_78)],gl,[]⟩
theorem ef_S_DrawReadNormal (t0:PV S_uint8):denF cx_S_DrawReadNormal 1 pl_S_DrawReadNormal Tryz.f32.ntmps (bodyOf Tryz.f32) Tryz.f32.results.toList [(.bor,S_uint8)] [(.str,.b)] (t0,())=f_S_DrawReadNormal t0:=by kernel_rfl
theorem ok_S_DrawReadNormal:FnOk gl Tryz.prog 32 ct_S_DrawReadNormal:=
 fnOk (cx:=cx_S_DrawReadNormal) (pl:=pl_S_DrawReadNormal) (dp:=1) (ok0_of tabOk (by unfold ArrOk;kernel_rfl) mix ⟨ok_S_StepsText,ok_S_l1Cur_pick,ok_S_l1Cur_steps,ok_S_l1Cur_spoilt,trivial⟩ ⟨⟨Tryz.func78,by kernel_rfl,(by rw[show loopsOf (bodyOf Tryz.f78)=[] from by kernel_rfl];exact trivial)⟩,trivial⟩) Tryz.func32 (by kernel_rfl) (by kernel_rfl) (by kernel_rfl)
  (by rw[show loopsOf (bodyOf Tryz.f32)=[] from by kernel_rfl];exact trivial) (fun x=>ef_S_DrawReadNormal x.1)
noncomputable def o_S_l1Cut_5:List Out:=[⟨.normal,⟨[],[0,3,4,5],[]⟩,mkSh 37 [(0,.val .str .b),(3,.val S_string (.row .b)),(4,.val (.int .i64) .b),(5,.val (.int .i64) .b)]⟩]
noncomputable def o_S_l1Cut_11:List Out:=[⟨.normal,⟨[],[3],[]⟩,mkSh 37 [(3,.val S_string (.row .b))]⟩]
noncomputable def sh_S_l1Cut_4:List Sh:=mkSh 37 [(0,.val .str .b),(3,.val S_string (.row .b)),(4,.val (.int .i64) .b),(5,.val (.int .i64) .b)]
noncomputable def o_S_l1Cut_4:List Out:=[⟨.exit 0,⟨[],[0,3,4],[]⟩,mkSh 37 [(0,.val .str .b),(3,.val S_string (.row .b)),(4,.val (.int .i64) .b)]⟩]
noncomputable def b_S_l1Cut_4 (t0:PV .str)(t3:PV S_string)(t4:PV (.int .i64))(t5:PV (.int .i64)):Option ((PV .str×PV S_string×PV (.int .i64)×PV (.int .i64)×Unit)⊕((PV .str×PV S_string×PV (.int .i64)×Unit))):=bif (decide (t5<(t0.length:Int))) then((bif inB t5 t0.length then bif (((t0.getD t5.toNat 0).toNat:Int)==10) then bif cutB t4 (IntKind.wrap .i64 (t5+1)) t0.length then bif roomB (t3.length+[(cutL t4 (IntKind.wrap .i64 (t5+1)) t0)].length) then some (t0,(t3++[(cutL t4 (IntKind.wrap .i64 (t5+1)) t0)]),(IntKind.wrap .i64 (t5+1)),t5,()) else none else none else some (t0,t3,t4,t5,()) else none:Option ((PV .str×PV S_string×PV (.int .i64)×PV (.int .i64)×Unit)))).bind fun j1=>some (.inl (j1.1,j1.2.1,j1.2.2.1,(IntKind.wrap .i64 (j1.2.2.2.1+1)),())) else some (.inr (t0,t3,t4,()))
noncomputable def w_S_l1Cut_4:PV .str×PV S_string×PV (.int .i64)×PV (.int .i64)×Unit→Option ((PV .str×PV S_string×PV (.int .i64)×Unit)):=fix fun d=>b_S_l1Cut_4 d.1 d.2.1 d.2.2.1 d.2.2.2.1
noncomputable def lp_S_l1Cut_4:Lp:=⟨⟨[],[0,3,4,5],[]⟩,sh_S_l1Cut_4,o_S_l1Cut_4,fun d=>b_S_l1Cut_4 d.1 d.2.1 d.2.2.1 d.2.2.2.1⟩
noncomputable def pl_S_l1Cut:Plan:=⟨[(5,o_S_l1Cut_5),(11,o_S_l1Cut_11)],[(4,lp_S_l1Cut_4)],0,0⟩
noncomputable def f_S_l1Cut (t0:PV .str):Option (PVs [S_string]×PVs []):=(w_S_l1Cut_4 (t0,[],0,0,())).bind fun l3=>((bif (decide (l3.2.2.1<(l3.1.length:Int))) then bif cutB l3.2.2.1 (l3.1.length:Int) l3.1.length then bif roomB (l3.2.1.length+[(cutL l3.2.2.1 (l3.1.length:Int) l3.1)].length) then some ((l3.2.1++[(cutL l3.2.2.1 (l3.1.length:Int) l3.1)]),()) else none else none else some (l3.2.1,()):Option ((PV S_string×Unit)))).bind fun j4=>some ((j4.1,()),())
noncomputable def ct_S_l1Cut:Ct:=⟨[(.bor,.str)],[(S_string,.b)],fun x=>f_S_l1Cut x.1⟩
noncomputable def cx_S_l1Cut:Cx:=⟨tab,arrs,[],[],gl,[]⟩
theorem eb_S_l1Cut_4 (t0:PV .str)(t3:PV S_string)(t4:PV (.int .i64))(t5:PV (.int .i64)):denK cx_S_l1Cut (rcN cx_S_l1Cut 0) pl_S_l1Cut 0 ((loopsOf (bodyOf Tryz.f79)).getD 0 .skip) (fillS sh_S_l1Cut_4 (t0,t3,t4,t5,())) (roundK 0 lp_S_l1Cut_4)=b_S_l1Cut_4 t0 t3 t4 t5:=by kernel_rfl
theorem ef_S_l1Cut (t0:PV .str):denF cx_S_l1Cut 0 pl_S_l1Cut Tryz.f79.ntmps (bodyOf Tryz.f79) Tryz.f79.results.toList [(.bor,.str)] [(S_string,.b)] (t0,())=f_S_l1Cut t0:=by kernel_rfl
theorem ok_S_l1Cut:FnOk gl Tryz.prog 79 ct_S_l1Cut:=
 fnOk (cx:=cx_S_l1Cut) (pl:=pl_S_l1Cut) (dp:=0) (ok0_of tabOk (by unfold ArrOk;kernel_rfl) mix trivial trivial) Tryz.func79 (by kernel_rfl) (by kernel_rfl) (by kernel_rfl)
  (by rw[show loopsOf (bodyOf Tryz.f79)=[((loopsOf (bodyOf Tryz.f79)).getD 0 .skip)] from by kernel_rfl];exact⟨(by rw[show lookup pl_S_l1Cut.loops (firstId ((loopsOf (bodyOf Tryz.f79)).getD 0 .skip))=some lp_S_l1Cut_4 from by kernel_rfl];exact fun d z h=>(eb_S_l1Cut_4 d.1 d.2.1 d.2.2.1 d.2.2.2.1).trans h),trivial⟩) (fun x=>ef_S_l1Cut x.1)
noncomputable def o_S_l5Head_9:List Out:=[⟨.normal,⟨[],[0,2,5,6,7,9,10,63],[]⟩,mkSh 73 [(0,.val .str .b),(2,.var Y_impl_Step (.pr .b (.pr .b (.pr (.row .b) (.pr .b (.pr .b (.pr (.row .b) .b))))))),(5,.val (.int .i64) .b),(6,.val (.int .i64) .b),(7,.val (.int .i64) .b),(9,.val (.int .i64) .b),(10,.val (.int .i64) .b),(63,.val .bool .b)]⟩]
noncomputable def sh_S_l5Head_2:List Sh:=mkSh 73 [(0,.val .str .b),(2,.var Y_impl_Step (.pr .b (.pr .b (.pr (.row .b) (.pr .b (.pr .b (.pr (.row .b) .b))))))),(5,.val (.int .i64) .b)]
noncomputable def o_S_l5Head_2:List Out:=[⟨.exit 0,⟨[],[0,2,5,61,62],[]⟩,mkSh 73 [(0,.val .str .b),(2,.var Y_impl_Step (.pr .b (.pr .b (.pr (.row .b) (.pr .b (.pr .b (.pr (.row .b) .b))))))),(5,.val (.int .i64) .b)]⟩]
noncomputable def b_S_l5Head_2 (t0:PV .str)(t2:PV Y_impl_Step)(t5:PV (.int .i64)):Option ((PV .str×PV Y_impl_Step×PV (.int .i64)×Unit)⊕((PV .str×PV Y_impl_Step×PV (.int .i64)×Unit))):=bif (decide (t5<(t0.length:Int))) then bif inB t5 t0.length then bif (!(((t0.getD t5.toNat 0).toNat:Int)==97)) then bif inB t5 t0.length then bif (!(((t0.getD t5.toNat 0).toNat:Int)==99)) then bif inB t5 t0.length then bif (!(((t0.getD t5.toNat 0).toNat:Int)==100)) then some (.inl (t0,t2,(IntKind.wrap .i64 (t5+1)),())) else some (.inr (t0,t2,t5,())) else none else some (.inr (t0,t2,t5,())) else none else some (.inr (t0,t2,t5,())) else none else some (.inr (t0,t2,t5,()))
noncomputable def w_S_l5Head_2:PV .str×PV Y_impl_Step×PV (.int .i64)×Unit→Option ((PV .str×PV Y_impl_Step×PV (.int .i64)×Unit)):=fix fun d=>b_S_l5Head_2 d.1 d.2.1 d.2.2.1
noncomputable def lp_S_l5Head_2:Lp:=⟨⟨[],[0,2,5,61,62],[]⟩,sh_S_l5Head_2,o_S_l5Head_2,fun d=>b_S_l5Head_2 d.1 d.2.1 d.2.2.1⟩
noncomputable def pl_S_l5Head:Plan:=⟨[(9,o_S_l5Head_9)],[(2,lp_S_l5Head_2)],0,0⟩
noncomputable def f_S_l5Head (t0:PV .str):Option (PVs [Y_impl_Step,(.int .u8),.bool]×PVs []):=(w_S_l5Head_2 (t0,(0,(0,(([]:PV S_string),(0,(0,(([]:PV S_string),())))))),0,())).bind fun l2=>bif (l2.2.2.1==(l2.1.length:Int)) then some (((0,(0,(([]:PV S_string),(0,(0,(([]:PV S_string),())))))),0,false,()),()) else bif cutB 0 l2.2.2.1 l2.1.length then(f_S_ReadPair (cutL 0 l2.2.2.1 l2.1)).bind fun r4=>bif cutB (IntKind.wrap .i64 (l2.2.2.1+1)) (l2.1.length:Int) l2.1.length then(f_S_ReadPair (cutL (IntKind.wrap .i64 (l2.2.2.1+1)) (l2.1.length:Int) l2.1)).bind fun r6=>((bif (!r4.1.2.2.1) then some (l2.1,l2.2.1,l2.2.2.1,r4.1.1,r4.1.2.1,r6.1.1,r6.1.2.1,true,()) else some (l2.1,l2.2.1,l2.2.2.1,r4.1.1,r4.1.2.1,r6.1.1,r6.1.2.1,(!r6.1.2.2.1),()):Option ((PV .str×PV Y_impl_Step×PV (.int .i64)×PV (.int .i64)×PV (.int .i64)×PV (.int .i64)×PV (.int .i64)×PV .bool×Unit)))).bind fun j8=>bif j8.2.2.2.2.2.2.2.1 then some (((0,(0,(([]:PV S_string),(0,(0,(([]:PV S_string),())))))),0,false,()),()) else bif inB j8.2.2.1 j8.1.length then some (((j8.2.2.2.1,(j8.2.2.2.2.1,(([]:PV S_string),(j8.2.2.2.2.2.1,(j8.2.2.2.2.2.2.1,(([]:PV S_string),())))))),((j8.1.getD j8.2.2.1.toNat 0).toNat:Int),true,()),()) else none else none else none
noncomputable def ct_S_l5Head:Ct:=⟨[(.bor,.str)],[(Y_impl_Step,(.pr .b (.pr .b (.pr (.row .b) (.pr .b (.pr .b (.pr (.row .b) .b))))))),((.int .u8),.b),(.bool,.b)],fun x=>f_S_l5Head x.1⟩
noncomputable def cx_S_l5Head:Cx:=⟨tab,arrs,[(148,ct_S_ReadPair)],[],gl,[]⟩
theorem eb_S_l5Head_2 (t0:PV .str)(t2:PV Y_impl_Step)(t5:PV (.int .i64)):denK cx_S_l5Head (rcN cx_S_l5Head 0) pl_S_l5Head 0 ((loopsOf (bodyOf Tryz.f80)).getD 0 .skip) (fillS sh_S_l5Head_2 (t0,t2,t5,())) (roundK 0 lp_S_l5Head_2)=b_S_l5Head_2 t0 t2 t5:=by kernel_rfl
theorem ef_S_l5Head (t0:PV .str):denF cx_S_l5Head 0 pl_S_l5Head Tryz.f80.ntmps (bodyOf Tryz.f80) Tryz.f80.results.toList [(.bor,.str)] [(Y_impl_Step,(.pr .b (.pr .b (.pr (.row .b) (.pr .b (.pr .b (.pr (.row .b) .b))))))),((.int .u8),.b),(.bool,.b)] (t0,())=f_S_l5Head t0:=by kernel_rfl
theorem ok_S_l5Head:FnOk gl Tryz.prog 80 ct_S_l5Head:=
 fnOk (cx:=cx_S_l5Head) (pl:=pl_S_l5Head) (dp:=0) (ok0_of tabOk (by unfold ArrOk;kernel_rfl) mix ⟨ok_S_ReadPair,trivial⟩ trivial) Tryz.func80 (by kernel_rfl) (by kernel_rfl) (by kernel_rfl)
  (by rw[show loopsOf (bodyOf Tryz.f80)=[((loopsOf (bodyOf Tryz.f80)).getD 0 .skip)] from by kernel_rfl];exact⟨(by rw[show lookup pl_S_l5Head.loops (firstId ((loopsOf (bodyOf Tryz.f80)).getD 0 .skip))=some lp_S_l5Head_2 from by kernel_rfl];exact fun d z h=>(eb_S_l5Head_2 d.1 d.2.1 d.2.2.1).trans h),trivial⟩) (fun x=>ef_S_l5Head x.1)
noncomputable def o_S_l5Take_9:List Out:=[⟨.normal,⟨[],[0,1,6,7,8,23,24,25,26,27,28,46],[]⟩,mkSh 60 [(0,.val S_string .b),(1,.val .str .b),(6,.val S_string (.row .b)),(7,.val (.int .i64) .b),(8,.val .str .b),(23,.val .str .b),(24,.val .str .b),(25,.val (.int .i64) .b),(26,.val .str .b),(27,.val .str .b),(28,.val .bool .b),(46,.val .bool .b)]⟩]
noncomputable def o_S_l5Take_11:List Out:=[⟨.normal,⟨[],[0,1,6,7,8,23,24,25,26,27,28,41,42,43,44,45],[]⟩,mkSh 60 [(0,.val S_string .b),(1,.val .str .b),(6,.val S_string (.row .b)),(7,.val (.int .i64) .b),(8,.val .str .b),(23,.val .str .b),(24,.val .str .b),(25,.val (.int .i64) .b),(26,.val .str .b),(27,.val .str .b),(28,.val .bool .b)]⟩]
noncomputable def sh_S_l5Take_3:List Sh:=mkSh 60 [(0,.val S_string .b),(1,.val .str .b),(6,.val S_string (.row .b)),(7,.val (.int .i64) .b)]
noncomputable def o_S_l5Take_3:List Out:=[⟨.exit 0,⟨[],[6,7],[]⟩,mkSh 60 [(6,.val S_string (.row .b)),(7,.val (.int .i64) .b)]⟩]
noncomputable def b_S_l5Take_3 (t0:PV S_string)(t1:PV .str)(t6:PV S_string)(t7:PV (.int .i64)):Option ((PV S_string×PV .str×PV S_string×PV (.int .i64)×Unit)⊕((PV S_string×PV (.int .i64)×Unit))):=bif (decide (t7<(t0.length:Int))) then bif inB t7 t0.length then bif (decide (((t0.getD t7.toNat []).length:Int)≤(t1.length:Int))) then some (.inr (t6,t7,())) else bif cutB 0 (t1.length:Int) (t0.getD t7.toNat []).length then bif (!((cutL 0 (t1.length:Int) (t0.getD t7.toNat []))==t1)) then some (.inr (t6,t7,())) else bif cutB (t1.length:Int) ((t0.getD t7.toNat []).length:Int) (t0.getD t7.toNat []).length then((((bif (decide ((IntKind.wrap .i64 (t7+1))<(t0.length:Int))) then bif inB (IntKind.wrap .i64 (t7+1)) t0.length then some (t0,t1,t6,(IntKind.wrap .i64 (t7+1)),(cutL (t1.length:Int) ((t0.getD t7.toNat []).length:Int) (t0.getD t7.toNat [])),(t0.getD t7.toNat []),t1,(t1.length:Int),(cutL 0 (t1.length:Int) (t0.getD t7.toNat [])),t1,(!((cutL 0 (t1.length:Int) (t0.getD t7.toNat []))==t1)),((t0.getD ((IntKind.wrap .i64 (t7+1)).toNat) [])==[92,32,110,111,110,101,10]),()) else none else some (t0,t1,t6,(IntKind.wrap .i64 (t7+1)),(cutL (t1.length:Int) ((t0.getD t7.toNat []).length:Int) (t0.getD t7.toNat [])),(t0.getD t7.toNat []),t1,(t1.length:Int),(cutL 0 (t1.length:Int) (t0.getD t7.toNat [])),t1,(!((cutL 0 (t1.length:Int) (t0.getD t7.toNat []))==t1)),false,()):Option ((PV S_string×PV .str×PV S_string×PV (.int .i64)×PV .str×PV .str×PV .str×PV (.int .i64)×PV .str×PV .str×PV .bool×PV .bool×Unit)))).bind fun j4=>bif j4.2.2.2.2.2.2.2.2.2.2.2.1 then bif cutB 0 (IntKind.wrap .i64 ((j4.2.2.2.2.1.length:Int) -1)) j4.2.2.2.2.1.length then some (j4.1,j4.2.1,j4.2.2.1,(IntKind.wrap .i64 (j4.2.2.2.1+1)),(cutL 0 (IntKind.wrap .i64 ((j4.2.2.2.2.1.length:Int) -1)) j4.2.2.2.2.1),j4.2.2.2.2.2.1,j4.2.2.2.2.2.2.1,j4.2.2.2.2.2.2.2.1,j4.2.2.2.2.2.2.2.2.1,j4.2.2.2.2.2.2.2.2.2.1,j4.2.2.2.2.2.2.2.2.2.2.1,()) else none else some (j4.1,j4.2.1,j4.2.2.1,j4.2.2.2.1,j4.2.2.2.2.1,j4.2.2.2.2.2.1,j4.2.2.2.2.2.2.1,j4.2.2.2.2.2.2.2.1,j4.2.2.2.2.2.2.2.2.1,j4.2.2.2.2.2.2.2.2.2.1,j4.2.2.2.2.2.2.2.2.2.2.1,()):Option ((PV S_string×PV .str×PV S_string×PV (.int .i64)×PV .str×PV .str×PV .str×PV (.int .i64)×PV .str×PV .str×PV .bool×Unit)))).bind fun j5=>bif roomB (j5.2.2.1.length+[j5.2.2.2.2.1].length) then some (.inl (j5.1,j5.2.1,(j5.2.2.1++[j5.2.2.2.2.1]),j5.2.2.2.1,())) else none else none else none else none else some (.inr (t6,t7,()))
noncomputable def w_S_l5Take_3:PV S_string×PV .str×PV S_string×PV (.int .i64)×Unit→Option ((PV S_string×PV (.int .i64)×Unit)):=fix fun d=>b_S_l5Take_3 d.1 d.2.1 d.2.2.1 d.2.2.2.1
noncomputable def lp_S_l5Take_3:Lp:=⟨⟨[],[0,1,6,7,41,42,43,44,45],[]⟩,sh_S_l5Take_3,o_S_l5Take_3,fun d=>b_S_l5Take_3 d.1 d.2.1 d.2.2.1 d.2.2.2.1⟩
noncomputable def pl_S_l5Take:Plan:=⟨[(9,o_S_l5Take_9),(11,o_S_l5Take_11)],[(3,lp_S_l5Take_3)],0,0⟩
noncomputable def f_S_l5Take (t0:PV S_string)(t1:PV .str):Option (PVs [S_string,(.int .i64)]×PVs []):=(w_S_l5Take_3 (t0,t1,[],0,())).bind fun l7=>some ((l7.1,l7.2.1,()),())
noncomputable def ct_S_l5Take:Ct:=⟨[(.bor,S_string),(.bor,.str)],[(S_string,(.row .b)),((.int .i64),.b)],fun x=>f_S_l5Take x.1 x.2.1⟩
noncomputable def cx_S_l5Take:Cx:=⟨tab,arrs,[],[],gl,[]⟩
theorem eb_S_l5Take_3 (t0:PV S_string)(t1:PV .str)(t6:PV S_string)(t7:PV (.int .i64)):denK cx_S_l5Take (rcN cx_S_l5Take 0) pl_S_l5Take 0 ((loopsOf (bodyOf Tryz.f82)).getD 0 .skip) (fillS sh_S_l5Take_3 (t0,t1,t6,t7,())) (roundK 0 lp_S_l5Take_3)=b_S_l5Take_3 t0 t1 t6 t7:=by kernel_rfl
theorem ef_S_l5Take (t0:PV S_string)(t1:PV .str):denF cx_S_l5Take 0 pl_S_l5Take Tryz.f82.ntmps (bodyOf Tryz.f82) Tryz.f82.results.toList [(.bor,S_string),(.bor,.str)] [(S_string,(.row .b)),((.int .i64),.b)] (t0,t1,())=f_S_l5Take t0 t1:=by kernel_rfl
theorem ok_S_l5Take:FnOk gl Tryz.prog 82 ct_S_l5Take:=
 fnOk (cx:=cx_S_l5Take) (pl:=pl_S_l5Take) (dp:=0) (ok0_of tabOk (by unfold ArrOk;kernel_rfl) mix trivial trivial) Tryz.func82 (by kernel_rfl) (by kernel_rfl) (by kernel_rfl)
  (by rw[show loopsOf (bodyOf Tryz.f82)=[((loopsOf (bodyOf Tryz.f82)).getD 0 .skip)] from by kernel_rfl];exact⟨(by rw[show lookup pl_S_l5Take.loops (firstId ((loopsOf (bodyOf Tryz.f82)).getD 0 .skip))=some lp_S_l5Take_3 from by kernel_rfl];exact fun d z h=>(eb_S_l5Take_3 d.1 d.2.1 d.2.2.1 d.2.2.2.1).trans h),trivial⟩) (fun x=>ef_S_l5Take x.1 x.2.1)
noncomputable def o_S_ReadNormal_14:List Out:=[⟨.normal,⟨[],[0,5,6,7,8,54,55,56,101,102,103,104],[]⟩,mkSh 107 [(0,.val .str .b),(5,.val S_string .b),(6,.val S_impl_Step (.row (.pr .b (.pr .b (.pr (.row .b) (.pr .b (.pr .b (.pr (.row .b) .b)))))))),(7,.var Y_impl_Step (.pr .b (.pr .b (.pr (.row .b) (.pr .b (.pr .b (.pr (.row .b) .b))))))),(8,.val (.int .u8) .b)]⟩]
noncomputable def o_S_ReadNormal_15:List Out:=[⟨.normal,⟨[],[0,5,6,7,8,57,101,102,103,104],[]⟩,mkSh 107 [(0,.val .str .b),(5,.val S_string .b),(6,.val S_impl_Step (.row (.pr .b (.pr .b (.pr (.row .b) (.pr .b (.pr .b (.pr (.row .b) .b)))))))),(7,.var Y_impl_Step (.pr .b (.pr .b (.pr (.row .b) (.pr .b (.pr .b (.pr (.row .b) .b))))))),(8,.val (.int .u8) .b),(57,.val .bool .b)]⟩]
noncomputable def o_S_ReadNormal_16:List Out:=[⟨.normal,⟨[],[0,5,6,7,8,54,55,56,101,102,103,104],[]⟩,mkSh 107 [(0,.val .str .b),(5,.val S_string .b),(6,.val S_impl_Step (.row (.pr .b (.pr .b (.pr (.row .b) (.pr .b (.pr .b (.pr (.row .b) .b)))))))),(7,.var Y_impl_Step (.pr .b (.pr .b (.pr (.row .b) (.pr .b (.pr .b (.pr (.row .b) .b))))))),(8,.val (.int .u8) .b)]⟩]
noncomputable def o_S_ReadNormal_20:List Out:=[⟨.normal,⟨[],[0,5,6,7,54,55,56,101,102,103,104],[]⟩,mkSh 107 [(0,.val .str .b),(5,.val S_string .b),(6,.val S_impl_Step (.row (.pr .b (.pr .b (.pr (.row .b) (.pr .b (.pr .b (.pr (.row .b) .b)))))))),(7,.var Y_impl_Step (.pr .b (.pr .b (.pr (.row .b) (.pr .b (.pr .b (.pr (.row .b) .b)))))))]⟩]
noncomputable def o_S_ReadNormal_32:List Out:=[⟨.normal,⟨[],[6,105],[]⟩,mkSh 107 [(6,.val S_impl_Step .b),(105,.val .bool .b)]⟩]
noncomputable def sh_S_ReadNormal_5:List Sh:=mkSh 107 [(0,.val .str .b),(5,.val S_string .b),(6,.val S_impl_Step (.row (.pr .b (.pr .b (.pr (.row .b) (.pr .b (.pr .b (.pr (.row .b) .b))))))))]
noncomputable def o_S_ReadNormal_5:List Out:=[⟨.exit 0,⟨[(6,.b)],[0,6,101,102,103,104],[]⟩,mkSh 107 [(0,.val .str .b),(6,.val S_impl_Step .b)]⟩,⟨.ret,⟨[],[2,3,4],[]⟩,mkSh 107 [(2,.val S_impl_Step (.row (.pr .b (.pr .b (.pr (.row .b) (.pr .b (.pr .b (.pr (.row .b) .b)))))))),(3,.val (.int .i64) .b),(4,.val .bool .b)]⟩]
noncomputable def b_S_ReadNormal_5 (t0:PV .str)(t5:PV S_string)(t6:PV S_impl_Step):Option ((PV .str×PV S_string×PV S_impl_Step×Unit)⊕((PV .str×PV S_impl_Step×Unit)⊕(PV S_impl_Step×PV (.int .i64)×PV .bool×Unit))):=bif (decide ((t5.length:Int)>0)) then bif inB 0 t5.length then(f_S_l1Plain (t5.getD ((0:Int).toNat) [])).bind fun r5=>(f_S_l5Head r5.1.1).bind fun r6=>bif (!r6.1.2.2.1) then some (.inr (.inr ([],1,false,()))) else bif cutB 1 (t5.length:Int) t5.length then((bif (!(r6.1.2.1==97)) then(f_S_l5Take (cutL 1 (t5.length:Int) t5) [60,32]).bind fun r8=>bif cutB r8.1.2.1 ((cutL 1 (t5.length:Int) t5).length:Int) (cutL 1 (t5.length:Int) t5).length then some (t0,(cutL r8.1.2.1 ((cutL 1 (t5.length:Int) t5).length:Int) (cutL 1 (t5.length:Int) t5)),t6,(r6.1.1.1,(r6.1.1.2.1,(r8.1.1,r6.1.1.2.2.2))),r6.1.2.1,()) else none else some (t0,(cutL 1 (t5.length:Int) t5),t6,r6.1.1,r6.1.2.1,()):Option ((PV .str×PV S_string×PV S_impl_Step×PV Y_impl_Step×PV (.int .u8)×Unit)))).bind fun j9=>((((bif (j9.2.2.2.2.1==99) then some (j9.1,j9.2.1,j9.2.2.1,j9.2.2.2.1,j9.2.2.2.2.1,(decide ((j9.2.1.length:Int)>0)),()) else some (j9.1,j9.2.1,j9.2.2.1,j9.2.2.2.1,j9.2.2.2.2.1,false,()):Option ((PV .str×PV S_string×PV S_impl_Step×PV Y_impl_Step×PV (.int .u8)×PV .bool×Unit)))).bind fun j10=>bif j10.2.2.2.2.2.1 then bif cutB 1 (j10.2.1.length:Int) j10.2.1.length then some (j10.1,(cutL 1 (j10.2.1.length:Int) j10.2.1),j10.2.2.1,j10.2.2.2.1,j10.2.2.2.2.1,()) else none else some (j10.1,j10.2.1,j10.2.2.1,j10.2.2.2.1,j10.2.2.2.2.1,()):Option ((PV .str×PV S_string×PV S_impl_Step×PV Y_impl_Step×PV (.int .u8)×Unit)))).bind fun j11=>((bif (!(j11.2.2.2.2.1==100)) then(f_S_l5Take j11.2.1 [62,32]).bind fun r13=>bif cutB r13.1.2.1 (j11.2.1.length:Int) j11.2.1.length then some (j11.1,(cutL r13.1.2.1 (j11.2.1.length:Int) j11.2.1),j11.2.2.1,(j11.2.2.2.1.1,(j11.2.2.2.1.2.1,(j11.2.2.2.1.2.2.1,(j11.2.2.2.1.2.2.2.1,(j11.2.2.2.1.2.2.2.2.1,(r13.1.1,j11.2.2.2.1.2.2.2.2.2.2)))))),()) else none else some (j11.1,j11.2.1,j11.2.2.1,j11.2.2.2.1,()):Option ((PV .str×PV S_string×PV S_impl_Step×PV Y_impl_Step×Unit)))).bind fun j14=>bif roomB (j14.2.2.1.length+[j14.2.2.2.1].length) then some (.inl (j14.1,j14.2.1,(j14.2.2.1++[j14.2.2.2.1]),())) else none else none else none else some (.inr (.inl (t0,t6,())))
noncomputable def w_S_ReadNormal_5:PV .str×PV S_string×PV S_impl_Step×Unit→Option ((PV .str×PV S_impl_Step×Unit)⊕(PV S_impl_Step×PV (.int .i64)×PV .bool×Unit)):=fix fun d=>b_S_ReadNormal_5 d.1 d.2.1 d.2.2.1
noncomputable def lp_S_ReadNormal_5:Lp:=⟨⟨[],[0,5,6,54,55,56,101,102,103,104],[]⟩,sh_S_ReadNormal_5,o_S_ReadNormal_5,fun d=>b_S_ReadNormal_5 d.1 d.2.1 d.2.2.1⟩
noncomputable def sh_S_ReadNormal_25:List Sh:=mkSh 107 [(0,.val .str .b),(6,.val S_impl_Step .b),(76,.val S_impl_Step .b),(77,.val (.int .i64) .b),(78,.val (.int .i64) .b),(87,.val S_string (.row .b)),(88,.val (.int .i64) .b),(89,.val (.int .i64) .b)]
noncomputable def o_S_ReadNormal_25:List Out:=[⟨.exit 4,⟨[],[0,6,76,77,78,101,102,103,104],[]⟩,mkSh 107 [(0,.val .str .b),(6,.val S_impl_Step .b),(76,.val S_impl_Step .b),(77,.val (.int .i64) .b),(78,.val (.int .i64) .b)]⟩,⟨.ret,⟨[],[2,3,4],[]⟩,mkSh 107 [(2,.val S_impl_Step (.row (.pr .b (.pr .b (.pr (.row .b) (.pr .b (.pr .b (.pr (.row .b) .b)))))))),(3,.val (.int .i64) .b),(4,.val .bool .b)]⟩]
noncomputable def b_S_ReadNormal_25 (t0:PV .str)(t6:PV S_impl_Step)(t76:PV S_impl_Step)(t77:PV (.int .i64))(t78:PV (.int .i64))(t87:PV S_string)(t88:PV (.int .i64))(t89:PV (.int .i64)):Option ((PV .str×PV S_impl_Step×PV S_impl_Step×PV (.int .i64)×PV (.int .i64)×PV S_string×PV (.int .i64)×PV (.int .i64)×Unit)⊕((PV .str×PV S_impl_Step×PV S_impl_Step×PV (.int .i64)×PV (.int .i64)×Unit)⊕(PV S_impl_Step×PV (.int .i64)×PV .bool×Unit))):=bif (decide (t89<t88)) then bif inB t89 t87.length then bif ((t87.getD t89.toNat [])==[]) then some (.inr (.inr ([],1,false,()))) else some (.inl (t0,t6,t76,t77,t78,t87,t88,(IntKind.wrap .i64 (t89+1)),())) else none else some (.inr (.inl (t0,t6,t76,t77,t78,())))
noncomputable def w_S_ReadNormal_25:PV .str×PV S_impl_Step×PV S_impl_Step×PV (.int .i64)×PV (.int .i64)×PV S_string×PV (.int .i64)×PV (.int .i64)×Unit→Option ((PV .str×PV S_impl_Step×PV S_impl_Step×PV (.int .i64)×PV (.int .i64)×Unit)⊕(PV S_impl_Step×PV (.int .i64)×PV .bool×Unit)):=fix fun d=>b_S_ReadNormal_25 d.1 d.2.1 d.2.2.1 d.2.2.2.1 d.2.2.2.2.1 d.2.2.2.2.2.1 d.2.2.2.2.2.2.1 d.2.2.2.2.2.2.2.1
noncomputable def lp_S_ReadNormal_25:Lp:=⟨⟨[],[0,6,76,77,78,87,88,89,101,102,103,104],[]⟩,sh_S_ReadNormal_25,o_S_ReadNormal_25,fun d=>b_S_ReadNormal_25 d.1 d.2.1 d.2.2.1 d.2.2.2.1 d.2.2.2.2.1 d.2.2.2.2.2.1 d.2.2.2.2.2.2.1 d.2.2.2.2.2.2.2.1⟩
noncomputable def sh_S_ReadNormal_22:List Sh:=mkSh 107 [(0,.val .str .b),(6,.val S_impl_Step .b),(76,.val S_impl_Step .b),(77,.val (.int .i64) .b),(78,.val (.int .i64) .b)]
noncomputable def o_S_ReadNormal_22:List Out:=[⟨.exit 2,⟨[],[0,6,101,102,103,104],[]⟩,mkSh 107 [(0,.val .str .b),(6,.val S_impl_Step .b)]⟩,⟨.ret,⟨[],[2,3,4],[]⟩,mkSh 107 [(2,.val S_impl_Step (.row (.pr .b (.pr .b (.pr (.row .b) (.pr .b (.pr .b (.pr (.row .b) .b)))))))),(3,.val (.int .i64) .b),(4,.val .bool .b)]⟩]
noncomputable def b_S_ReadNormal_22 (t0:PV .str)(t6:PV S_impl_Step)(t76:PV S_impl_Step)(t77:PV (.int .i64))(t78:PV (.int .i64)):Option ((PV .str×PV S_impl_Step×PV S_impl_Step×PV (.int .i64)×PV (.int .i64)×Unit)⊕((PV .str×PV S_impl_Step×Unit)⊕(PV S_impl_Step×PV (.int .i64)×PV .bool×Unit))):=
 bif (decide (t78<t77)) then
  bif inB t78 t76.length then
   (f_S_l1OwnT ((((t76.getD t78.toNat (dflt Y_impl_Step)).2).2).1)).bind fun r23=>
     bif roomB (r23.1.1.length+(((((((t76.getD t78.toNat (dflt Y_impl_Step)).2).2).2).2).2).1).length) then
      (w_S_ReadNormal_25 (t0,t6,t76,t77,t78,(r23.1.1++(((((((t76.getD t78.toNat (dflt Y_impl_Step)).2).2).2).2).2).1)),((r23.1.1++(((((((t76.getD t78.toNat (dflt Y_impl_Step)).2).2).2).2).2).1)).length:Int),0,())).bind fun x39=>
        match x39 with
        | .inl l24=>
          some (.inl (l24.1,l24.2.1,l24.2.2.1,l24.2.2.2.1,(IntKind.wrap .i64 (l24.2.2.2.2.1+1)),()))
        | .inr l25=>
          some (.inr (.inr (l25.1,l25.2.1,l25.2.2.1,())))
     else
      none
  else
   none
 else
  some (.inr (.inl (t0,t6,())))
noncomputable def w_S_ReadNormal_22:PV .str×PV S_impl_Step×PV S_impl_Step×PV (.int .i64)×PV (.int .i64)×Unit→Option ((PV .str×PV S_impl_Step×Unit)⊕(PV S_impl_Step×PV (.int .i64)×PV .bool×Unit)):=fix fun d=>b_S_ReadNormal_22 d.1 d.2.1 d.2.2.1 d.2.2.2.1 d.2.2.2.2.1
noncomputable def lp_S_ReadNormal_22:Lp:=⟨⟨[],[0,6,76,77,78,101,102,103,104],[]⟩,sh_S_ReadNormal_22,o_S_ReadNormal_22,fun d=>b_S_ReadNormal_22 d.1 d.2.1 d.2.2.1 d.2.2.2.1 d.2.2.2.2.1⟩
noncomputable def pl_S_ReadNormal:Plan:=⟨[(14,o_S_ReadNormal_14),(15,o_S_ReadNormal_15),(16,o_S_ReadNormal_16),(20,o_S_ReadNormal_20),(32,o_S_ReadNormal_32)],[(5,lp_S_ReadNormal_5),(25,lp_S_ReadNormal_25),(22,lp_S_ReadNormal_22)],0,0⟩
noncomputable def f_S_ReadNormal (t0:PV .str):Option (PVs [S_impl_Step,(.int .i64),.bool]×PVs []):=
 bif (decide ((t0.length:Int)>3000)) then
  some (([],1,false,()),())
 else
  (f_S_l1Cut t0).bind fun r2=>
    (w_S_ReadNormal_5 (t0,r2.1.1,[],())).bind fun x40=>
      match x40 with
      | .inl l17=>
        (w_S_ReadNormal_22 (l17.1,l17.2.1,l17.2.1,(l17.2.1.length:Int),0,())).bind fun x41=>
          match x41 with
          | .inl l28=>
            ((
              (f_S_GoodSteps l28.2.1).bind fun r34=>
                bif (!r34.1.1) then
                 some (l28.2.1,true,())
                else
                 (f_S_l5Text l28.2.1).bind fun r35=>
                   some (l28.2.1,(!(r35.1.1==l28.1)),()):Option ((PV S_impl_Step×PV .bool×Unit)))).bind fun j36=>
              bif j36.2.1 then
               some (([],1,false,()),())
              else
               some ((j36.1,0,true,()),())
          | .inr l37=>
            some ((l37.1,l37.2.1,l37.2.2.1,()),())
      | .inr l38=>
        some ((l38.1,l38.2.1,l38.2.2.1,()),())
noncomputable def ct_S_ReadNormal:Ct:=⟨[(.bor,.str)],[(S_impl_Step,.b),((.int .i64),.b),(.bool,.b)],fun x=>f_S_ReadNormal x.1⟩
noncomputable def cx_S_ReadNormal:Cx:=⟨tab,arrs,[(29,ct_S_GoodSteps),(72,ct_S_l5Text),(79,ct_S_l1Cut),(80,ct_S_l5Head),(81,ct_S_l1Plain),(82,ct_S_l5Take),(83,ct_S_l1OwnT)],[],gl,[]⟩
theorem eb_S_ReadNormal_5 (t0:PV .str)(t5:PV S_string)(t6:PV S_impl_Step):denK cx_S_ReadNormal (rcN cx_S_ReadNormal 0) pl_S_ReadNormal 0 ((loopsOf (bodyOf Tryz.f33)).getD 0 .skip) (fillS sh_S_ReadNormal_5 (t0,t5,t6,())) (roundK 0 lp_S_ReadNormal_5)=b_S_ReadNormal_5 t0 t5 t6:=by kernel_rfl
theorem eb_S_ReadNormal_22 (t0:PV .str)(t6:PV S_impl_Step)(t76:PV S_impl_Step)(t77:PV (.int .i64))(t78:PV (.int .i64)):denK cx_S_ReadNormal (rcN cx_S_ReadNormal 0) pl_S_ReadNormal 0 ((loopsOf (bodyOf Tryz.f33)).getD 1 .skip) (fillS sh_S_ReadNormal_22 (t0,t6,t76,t77,t78,())) (roundK 0 lp_S_ReadNormal_22)=b_S_ReadNormal_22 t0 t6 t76 t77 t78:=by kernel_rfl
theorem eb_S_ReadNormal_25 (t0:PV .str)(t6:PV S_impl_Step)(t76:PV S_impl_Step)(t77:PV (.int .i64))(t78:PV (.int .i64))(t87:PV S_string)(t88:PV (.int .i64))(t89:PV (.int .i64)):denK cx_S_ReadNormal (rcN cx_S_ReadNormal 0) pl_S_ReadNormal 0 ((loopsOf (bodyOf Tryz.f33)).getD 2 .skip) (fillS sh_S_ReadNormal_25 (t0,t6,t76,t77,t78,t87,t88,t89,())) (roundK 0 lp_S_ReadNormal_25)=b_S_ReadNormal_25 t0 t6 t76 t77 t78 t87 t88 t89:=by kernel_rfl
theorem ef_S_ReadNormal (t0:PV .str):denF cx_S_ReadNormal 0 pl_S_ReadNormal Tryz.f33.ntmps (bodyOf Tryz.f33) Tryz.f33.results.toList [(.bor,.str)] [(S_impl_Step,.b),((.int .i64),.b),(.bool,.b)] (t0,())=f_S_ReadNormal t0:=by kernel_rfl
theorem ok_S_ReadNormal:FnOk gl Tryz.prog 33 ct_S_ReadNormal:=
 fnOk (cx:=cx_S_ReadNormal) (pl:=pl_S_ReadNormal) (dp:=0) (ok0_of tabOk (by unfold ArrOk;kernel_rfl) mix ⟨ok_S_GoodSteps,ok_S_l5Text,ok_S_l1Cut,ok_S_l5Head,ok_S_l1Plain,ok_S_l5Take,ok_S_l1OwnT,trivial⟩ trivial) Tryz.func33 (by kernel_rfl) (by kernel_rfl) (by kernel_rfl)
  (by rw[show loopsOf (bodyOf Tryz.f33)=[((loopsOf (bodyOf Tryz.f33)).getD 0 .skip),((loopsOf (bodyOf Tryz.f33)).getD 1 .skip),((loopsOf (bodyOf Tryz.f33)).getD 2 .skip)] from by kernel_rfl];exact⟨(by rw[show lookup pl_S_ReadNormal.loops (firstId ((loopsOf (bodyOf Tryz.f33)).getD 0 .skip))=some lp_S_ReadNormal_5 from by kernel_rfl];exact fun d z h=>(eb_S_ReadNormal_5 d.1 d.2.1 d.2.2.1).trans h),(by rw[show lookup pl_S_ReadNormal.loops (firstId ((loopsOf (bodyOf Tryz.f33)).getD 1 .skip))=some lp_S_ReadNormal_22 from by kernel_rfl];exact fun d z h=>(eb_S_ReadNormal_22 d.1 d.2.1 d.2.2.1 d.2.2.2.1 d.2.2.2.2.1).trans h),(by rw[show lookup pl_S_ReadNormal.loops (firstId ((loopsOf (bodyOf Tryz.f33)).getD 2 .skip))=some lp_S_ReadNormal_25 from by kernel_rfl];exact fun d z h=>(eb_S_ReadNormal_25 d.1 d.2.1 d.2.2.1 d.2.2.2.1 d.2.2.2.2.1 d.2.2.2.2.2.1 d.2.2.2.2.2.2.1 d.2.2.2.2.2.2.2.1).trans h),trivial⟩) (fun x=>ef_S_ReadNormal x.1)
noncomputable def o_L_FnSteps_7:List Out:=[⟨.normal,⟨[],[1,5,6,7,51,62,63,66,67,68,69,89,90,91,94,95,96,97,107,108,109],[]⟩,mkSh 113 [(1,.val S_uint8 .b),(5,.val S_impl_Step (.row (.pr .b (.pr .b (.pr (.row .b) (.pr .b (.pr .b (.pr (.row .b) .b)))))))),(6,.val .str .b),(7,.val .bool .b),(51,.val .bool .b)]⟩]
noncomputable def o_L_FnSteps_11:List Out:=[⟨.normal,⟨[],[1,70,89,90,91,94,95,96,97,107,108,109],[]⟩,mkSh 113 [(1,.val S_uint8 .b),(70,.val .bool .b)]⟩]
noncomputable def o_L_FnSteps_12:List Out:=[⟨.normal,⟨[],[1,89,90,91,94,95,96,97,107,108,109],[]⟩,mkSh 113 [(1,.val S_uint8 .b)]⟩,⟨.ret,⟨[],[4],[]⟩,mkSh 113 [(4,.val .bool .b)]⟩]
noncomputable def o_L_FnSteps_16:List Out:=[⟨.normal,⟨[],[13,14,15,16,98,107,108,109],[]⟩,mkSh 113 [(13,.val .str .b),(14,.val S_impl_Step (.row (.pr .b (.pr .b (.pr (.row .b) (.pr .b (.pr .b (.pr (.row .b) .b)))))))),(15,.val (.int .i64) .b),(16,.val .bool .b),(98,.val .bool .b)]⟩]
noncomputable def pl_L_FnSteps:Plan:=⟨[(7,o_L_FnSteps_7),(11,o_L_FnSteps_11),(12,o_L_FnSteps_12),(16,o_L_FnSteps_16)],[],0,0⟩
noncomputable def f_L_FnSteps (t0:PV S_uint8)(t1:PV S_uint8):Option (PVs [.bool]×PVs []):=
 (f_L_big t0 t1).bind fun r4=>
   bif r4.1.1 then
    some ((true,()),())
   else
    (f_S_DrawStepsText t0).bind fun r6=>
      (f_I_StepsText r6.1.1).bind fun r8=>
        (f_S_StepsText r6.1.1).bind fun r10=>
          ((
            bif (!(r8.1.2.1==r10.1.2.1)) then
             some (t1,r6.1.1,r8.1.1,r8.1.2.1,true,())
            else
             bif (!(r8.1.1==r10.1.1)) then
              some (t1,r6.1.1,r8.1.1,r8.1.2.1,true,())
             else
              (f_I_GoodSteps r6.1.1).bind fun r16=>
                (f_S_GoodSteps r6.1.1).bind fun r17=>
                  some (t1,r6.1.1,r8.1.1,r8.1.2.1,(!(r16.1.1==r17.1.1)),()):Option ((PV S_uint8×PV S_impl_Step×PV .str×PV .bool×PV .bool×Unit)))).bind fun j18=>
            bif j18.2.2.2.2.1 then
             some ((false,()),())
            else
             ((
               bif j18.2.2.2.1 then
                (f_I_ReadNormal j18.2.2.1).bind fun r25=>
                  ((
                    bif (!r25.1.2.2.1) then
                     some (j18.1,true,())
                    else
                     bif (!(r25.1.2.1==0)) then
                      some (j18.1,true,())
                     else
                      (f_L_sameSteps r25.1.1 j18.2.1).bind fun r26=>
                        some (j18.1,(!r26.1.1),()):Option ((PV S_uint8×PV .bool×Unit)))).bind fun j27=>
                    bif j27.2.1 then
                     some (.inr (false,()))
                    else
                     some (.inl (j27.1,()))
               else
                some (.inl (j18.1,())):Option ((PV S_uint8×Unit)⊕(PV .bool×Unit)))).bind fun x45=>
               match x45 with
               | .inl j28=>
                 (f_S_DrawReadNormal j28.1).bind fun r30=>
                   (f_I_ReadNormal r30.1.1).bind fun r32=>
                     (f_S_ReadNormal r30.1.1).bind fun r34=>
                       ((
                         bif (!(r32.1.2.2.1==r34.1.2.2.1)) then
                          some (r30.1.1,r32.1.1,r32.1.2.1,r32.1.2.2.1,true,())
                         else
                          bif (!(r32.1.2.1==r34.1.2.1)) then
                           some (r30.1.1,r32.1.1,r32.1.2.1,r32.1.2.2.1,true,())
                          else
                           (f_L_sameSteps r32.1.1 r34.1.1).bind fun r38=>
                             some (r30.1.1,r32.1.1,r32.1.2.1,r32.1.2.2.1,(!r38.1.1),()):Option ((PV .str×PV S_impl_Step×PV (.int .i64)×PV .bool×PV .bool×Unit)))).bind fun j39=>
                         bif j39.2.2.2.2.1 then
                          some ((false,()),())
                         else
                          bif j39.2.2.2.1 then
                           (f_I_StepsText j39.2.1).bind fun r43=>
                             bif r43.1.2.1 then
                              some (((r43.1.1==j39.1),()),())
                             else
                              some ((false,()),())
                          else
                           some (((j39.2.2.1==1),()),())
               | .inr j44=>
                 some ((j44.1,()),())
noncomputable def ct_L_FnSteps:Ct:=⟨[(.bor,S_uint8),(.bor,S_uint8)],[(.bool,.b)],fun x=>f_L_FnSteps x.1 x.2.1⟩
noncomputable def cx_L_FnSteps:Cx:=⟨tab,arrs,[(10,ct_L_big),(25,ct_S_DrawStepsText),(26,ct_I_StepsText),(27,ct_S_StepsText),(28,ct_I_GoodSteps),(29,ct_S_GoodSteps),(30,ct_I_ReadNormal),(31,ct_L_sameSteps),(32,ct_S_DrawReadNormal),(33,ct_S_ReadNormal)],[],gl,[]⟩
theorem ef_L_FnSteps (t0:PV S_uint8)(t1:PV S_uint8):denF cx_L_FnSteps 0 pl_L_FnSteps Tryz.f6.ntmps (bodyOf Tryz.f6) Tryz.f6.results.toList [(.bor,S_uint8),(.bor,S_uint8)] [(.bool,.b)] (t0,t1,())=f_L_FnSteps t0 t1:=by kernel_rfl
theorem ok_L_FnSteps:FnOk gl Tryz.prog 6 ct_L_FnSteps:=
 fnOk (cx:=cx_L_FnSteps) (pl:=pl_L_FnSteps) (dp:=0) (ok0_of tabOk (by unfold ArrOk;kernel_rfl) mix ⟨ok_L_big,ok_S_DrawStepsText,ok_I_StepsText,ok_S_StepsText,ok_I_GoodSteps,ok_S_GoodSteps,ok_I_ReadNormal,ok_L_sameSteps,ok_S_DrawReadNormal,ok_S_ReadNormal,trivial⟩ trivial) Tryz.func6 (by kernel_rfl) (by kernel_rfl) (by kernel_rfl)
  (by rw[show loopsOf (bodyOf Tryz.f6)=[] from by kernel_rfl];exact trivial) (fun x=>ef_L_FnSteps x.1 x.2.1)
end R
