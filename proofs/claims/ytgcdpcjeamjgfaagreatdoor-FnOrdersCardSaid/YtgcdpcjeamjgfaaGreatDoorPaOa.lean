/- The functions, part 2. -/
import Derived.Test.YtgcdpcjeamjgfaaGreatDoorPaOa1
open Go Go.Dn Go.Proofs
namespace R
set_option linter.unusedVariables false
set_option maxRecDepth 20000
open Go.Shelf
noncomputable def pl_I_goodOrders_1:Plan:=⟨[],[],0,0⟩
noncomputable def f_I_goodOrders_1 (t0:PV Y_impl_Order):Option (PVs [.bool]×PVs []):=(f_I_goodOrder t0).bind fun r1=>some (((!r1.1.1),()),())
noncomputable def ct_I_goodOrders_1:Ct:=⟨[(.bor,Y_impl_Order)],[(.bool,.b)],fun x=>f_I_goodOrders_1 x.1⟩
noncomputable def cx_I_goodOrders_1:Cx:=⟨tab,arrs,[(54,ct_I_goodOrder)],[],gl,[]⟩
theorem ef_I_goodOrders_1 (t0:PV Y_impl_Order):denF cx_I_goodOrders_1 0 pl_I_goodOrders_1 Tryz.f53.ntmps (bodyOf Tryz.f53) Tryz.f53.results.toList [(.bor,Y_impl_Order)] [(.bool,.b)] (t0,())=f_I_goodOrders_1 t0:=by kernel_rfl
theorem ok_I_goodOrders_1:FnOk gl Tryz.prog 53 ct_I_goodOrders_1:=
 fnOk (cx:=cx_I_goodOrders_1) (pl:=pl_I_goodOrders_1) (dp:=0) (ok0_of tabOk (by unfold ArrOk;kernel_rfl) mix ⟨ok_I_goodOrder,trivial⟩ trivial) Tryz.func53 (by kernel_rfl) (by kernel_rfl) (by kernel_rfl)
  (by rw[show loopsOf (bodyOf Tryz.f53)=[] from by kernel_rfl];exact trivial) (fun x=>ef_I_goodOrders_1 x.1)
noncomputable def pl_I_goodOrders_52:Plan:=⟨[],[],1,11⟩
noncomputable def sh_I_goodOrders_76_2:List Sh:=mkSh 39 [(0,.val S_impl_Order .b),(2,.val .bool .b),(3,.val S_impl_Order .b),(4,.val (.int .i64) .b),(5,.val .bool .b),(6,.val .bool .b),(7,.val S_impl_Order .b),(11,.val S_impl_Order .b),(12,.fn 53 []),(15,.val .bool .b),(16,.val S_impl_Order .b),(17,.fn 53 []),(20,.val S_impl_Order .b),(21,.fn 53 []),(27,.val (.int .i64) .b),(28,.val (.int .i64) .b)]
noncomputable def o_I_goodOrders_76_2:List Out:=[⟨.exit 0,⟨[],[],[]⟩,mkSh 39 [(0,.val S_impl_Order .b),(2,.val .bool .b),(3,.val S_impl_Order .b),(4,.val (.int .i64) .b),(5,.val .bool .b),(6,.val .bool .b),(7,.val S_impl_Order .b),(11,.val S_impl_Order .b),(12,.fn 53 []),(15,.val .bool .b),(16,.val S_impl_Order .b),(17,.fn 53 [])]⟩,⟨.ret,⟨[],[4],[]⟩,mkSh 39 [(0,.val S_impl_Order .b),(2,.val .bool .b),(3,.val S_impl_Order .b),(4,.val (.int .i64) .b),(5,.val .bool .b),(6,.val .bool .b),(7,.val S_impl_Order .b),(11,.val S_impl_Order .b),(12,.fn 53 []),(15,.val .bool .b),(16,.val S_impl_Order .b),(17,.fn 53 []),(24,.val (.int .i64) .b)]⟩]
noncomputable def b_I_goodOrders_76_2 (t0:PV S_impl_Order)(t2:PV .bool)(t3:PV S_impl_Order)(t4:PV (.int .i64))(t5:PV .bool)(t6:PV .bool)(t7:PV S_impl_Order)(t11:PV S_impl_Order)(t15:PV .bool)(t16:PV S_impl_Order)(t20:PV S_impl_Order)(t27:PV (.int .i64))(t28:PV (.int .i64)):Option ((PV S_impl_Order×PV .bool×PV S_impl_Order×PV (.int .i64)×PV .bool×PV .bool×PV S_impl_Order×PV S_impl_Order×PV .bool×PV S_impl_Order×PV S_impl_Order×PV (.int .i64)×PV (.int .i64)×Unit)⊕((PV S_impl_Order×PV .bool×PV S_impl_Order×PV (.int .i64)×PV .bool×PV .bool×PV S_impl_Order×PV S_impl_Order×PV .bool×PV S_impl_Order×Unit)⊕(PV S_impl_Order×PV .bool×PV S_impl_Order×PV (.int .i64)×PV .bool×PV .bool×PV S_impl_Order×PV S_impl_Order×PV .bool×PV S_impl_Order×PV (.int .i64)×Unit))):=bif (decide (t28<t27)) then bif inB t28 t20.length then(f_I_goodOrders_1 (t20.getD t28.toNat (dflt Y_impl_Order))).bind fun r4=>bif r4.1.1 then some (.inr (.inr (t0,t2,t3,t4,t5,t6,t7,t11,t15,t16,t28,()))) else some (.inl (t0,t2,t3,t4,t5,t6,t7,t11,t15,t16,t20,t27,(IntKind.wrap .i64 (t28+1)),())) else none else some (.inr (.inl (t0,t2,t3,t4,t5,t6,t7,t11,t15,t16,())))
noncomputable def w_I_goodOrders_76_2:PV S_impl_Order×PV .bool×PV S_impl_Order×PV (.int .i64)×PV .bool×PV .bool×PV S_impl_Order×PV S_impl_Order×PV .bool×PV S_impl_Order×PV S_impl_Order×PV (.int .i64)×PV (.int .i64)×Unit→Option ((PV S_impl_Order×PV .bool×PV S_impl_Order×PV (.int .i64)×PV .bool×PV .bool×PV S_impl_Order×PV S_impl_Order×PV .bool×PV S_impl_Order×Unit)⊕(PV S_impl_Order×PV .bool×PV S_impl_Order×PV (.int .i64)×PV .bool×PV .bool×PV S_impl_Order×PV S_impl_Order×PV .bool×PV S_impl_Order×PV (.int .i64)×Unit)):=fix fun d=>b_I_goodOrders_76_2 d.1 d.2.1 d.2.2.1 d.2.2.2.1 d.2.2.2.2.1 d.2.2.2.2.2.1 d.2.2.2.2.2.2.1 d.2.2.2.2.2.2.2.1 d.2.2.2.2.2.2.2.2.1 d.2.2.2.2.2.2.2.2.2.1 d.2.2.2.2.2.2.2.2.2.2.1 d.2.2.2.2.2.2.2.2.2.2.2.1 d.2.2.2.2.2.2.2.2.2.2.2.2.1
noncomputable def lp_I_goodOrders_76_2:Lp:=⟨⟨[],[0,1,7,8],[]⟩,sh_I_goodOrders_76_2,o_I_goodOrders_76_2,fun d=>b_I_goodOrders_76_2 d.1 d.2.1 d.2.2.1 d.2.2.2.1 d.2.2.2.2.1 d.2.2.2.2.2.1 d.2.2.2.2.2.2.1 d.2.2.2.2.2.2.2.1 d.2.2.2.2.2.2.2.2.1 d.2.2.2.2.2.2.2.2.2.1 d.2.2.2.2.2.2.2.2.2.2.1 d.2.2.2.2.2.2.2.2.2.2.2.1 d.2.2.2.2.2.2.2.2.2.2.2.2.1⟩
noncomputable def pl_I_goodOrders_76:Plan:=⟨[],[(2,lp_I_goodOrders_76_2)],0,20⟩
noncomputable def pl_I_goodOrders:Plan:=⟨[],[],2,0⟩
noncomputable def f_I_goodOrders (t0:PV S_impl_Order):Option (PVs [.bool]×PVs []):=
 bif (decide ((t0.length:Int)≤60)) then
  (w_I_goodOrders_76_2 (t0,false,t0,(t0.length:Int),(decide ((t0.length:Int)≤60)),true,t0,t0,false,t0,t0,(t0.length:Int),0,())).bind fun x9=>
    match x9 with
    | .inl l7=>
      bif l7.2.2.2.2.2.1 then
       some (((!(decide ((-1)≥0))),()),())
      else
       some ((false,()),())
    | .inr l8=>
      bif l8.2.2.2.2.2.1 then
       some (((!(decide (l8.2.2.2.2.2.2.2.2.2.2.1≥0))),()),())
      else
       some ((false,()),())
 else
  some ((false,()),())
noncomputable def ct_I_goodOrders:Ct:=⟨[(.bor,S_impl_Order)],[(.bool,.b)],fun x=>f_I_goodOrders x.1⟩
noncomputable def cx_I_goodOrders:Cx:=⟨tab,arrs,[(53,ct_I_goodOrders_1)],[(52,Tryz.f52,pl_I_goodOrders_52),(76,Tryz.f76,pl_I_goodOrders_76)],gl,[]⟩
theorem eb_I_goodOrders_76_2 (t0:PV S_impl_Order)(t2:PV .bool)(t3:PV S_impl_Order)(t4:PV (.int .i64))(t5:PV .bool)(t6:PV .bool)(t7:PV S_impl_Order)(t11:PV S_impl_Order)(t15:PV .bool)(t16:PV S_impl_Order)(t20:PV S_impl_Order)(t27:PV (.int .i64))(t28:PV (.int .i64)):denK cx_I_goodOrders (rcN cx_I_goodOrders 0) pl_I_goodOrders_76 20 ((loopsOf (bodyOf Tryz.f76)).getD 0 .skip) (fillS sh_I_goodOrders_76_2 (t0,t2,t3,t4,t5,t6,t7,t11,t15,t16,t20,t27,t28,())) (roundK 20 lp_I_goodOrders_76_2)=b_I_goodOrders_76_2 t0 t2 t3 t4 t5 t6 t7 t11 t15 t16 t20 t27 t28:=by kernel_rfl
theorem ef_I_goodOrders (t0:PV S_impl_Order):denF cx_I_goodOrders 2 pl_I_goodOrders Tryz.f29.ntmps (bodyOf Tryz.f29) Tryz.f29.results.toList [(.bor,S_impl_Order)] [(.bool,.b)] (t0,())=f_I_goodOrders t0:=by kernel_rfl
theorem ok_I_goodOrders:FnOk gl Tryz.prog 29 ct_I_goodOrders:=
 fnOk (cx:=cx_I_goodOrders) (pl:=pl_I_goodOrders) (dp:=2) (ok0_of tabOk (by unfold ArrOk;kernel_rfl) mix ⟨ok_I_goodOrders_1,trivial⟩ ⟨⟨Tryz.func52,by kernel_rfl,(by rw[show loopsOf (bodyOf Tryz.f52)=[] from by kernel_rfl];exact trivial)⟩,⟨Tryz.func76,by kernel_rfl,(by rw[show loopsOf (bodyOf Tryz.f76)=[((loopsOf (bodyOf Tryz.f76)).getD 0 .skip)] from by kernel_rfl];exact⟨(by rw[show lookup pl_I_goodOrders_76.loops (firstId ((loopsOf (bodyOf Tryz.f76)).getD 0 .skip))=some lp_I_goodOrders_76_2 from by kernel_rfl];exact fun d z h=>(eb_I_goodOrders_76_2 d.1 d.2.1 d.2.2.1 d.2.2.2.1 d.2.2.2.2.1 d.2.2.2.2.2.1 d.2.2.2.2.2.2.1 d.2.2.2.2.2.2.2.1 d.2.2.2.2.2.2.2.2.1 d.2.2.2.2.2.2.2.2.2.1 d.2.2.2.2.2.2.2.2.2.2.1 d.2.2.2.2.2.2.2.2.2.2.2.1 d.2.2.2.2.2.2.2.2.2.2.2.2.1).trans h),trivial⟩)⟩,trivial⟩) Tryz.func29 (by kernel_rfl) (by kernel_rfl) (by kernel_rfl)
  (by rw[show loopsOf (bodyOf Tryz.f29)=[] from by kernel_rfl];exact trivial) (fun x=>ef_I_goodOrders x.1)
noncomputable def pl_I_pairOf:Plan:=⟨[],[],0,0⟩
noncomputable def f_I_pairOf (t0:PV (.int .i64))(t1:PV (.int .i64)):Option (PVs [.str]×PVs []):=bif (t0==t1) then(f_strconv_Itoa t0).bind fun r2=>some ((r2.1.1,()),()) else(f_strconv_Itoa t0).bind fun r3=>bif decide (r3.1.1.length+[44].length≤1099511627776) then(f_strconv_Itoa t1).bind fun r4=>bif decide ((r3.1.1++[44]).length+r4.1.1.length≤1099511627776) then some ((((r3.1.1++[44])++r4.1.1),()),()) else none else none
noncomputable def ct_I_pairOf:Ct:=⟨[(.bor,(.int .i64)),(.bor,(.int .i64))],[(.str,.b)],fun x=>f_I_pairOf x.1 x.2.1⟩
noncomputable def cx_I_pairOf:Cx:=⟨tab,arrs,[(55,ct_strconv_Itoa)],[],gl,[]⟩
theorem ef_I_pairOf (t0:PV (.int .i64))(t1:PV (.int .i64)):denF cx_I_pairOf 0 pl_I_pairOf Tryz.f30.ntmps (bodyOf Tryz.f30) Tryz.f30.results.toList [(.bor,(.int .i64)),(.bor,(.int .i64))] [(.str,.b)] (t0,t1,())=f_I_pairOf t0 t1:=by kernel_rfl
theorem ok_I_pairOf:FnOk gl Tryz.prog 30 ct_I_pairOf:=
 fnOk (cx:=cx_I_pairOf) (pl:=pl_I_pairOf) (dp:=0) (ok0_of tabOk (by unfold ArrOk;kernel_rfl) mix ⟨ok_strconv_Itoa,trivial⟩ trivial) Tryz.func30 (by kernel_rfl) (by kernel_rfl) (by kernel_rfl)
  (by rw[show loopsOf (bodyOf Tryz.f30)=[] from by kernel_rfl];exact trivial) (fun x=>ef_I_pairOf x.1 x.2.1)
noncomputable def pl_I_short:Plan:=⟨[],[],0,0⟩
noncomputable def f_I_short (t0:PV .str):Option (PVs [.str,.bool]×PVs []):=bif (decide ((t0.length:Int)>3000)) then some (([],false,()),()) else some ((t0,true,()),())
noncomputable def ct_I_short:Ct:=⟨[(.bor,.str)],[(.str,.b),(.bool,.b)],fun x=>f_I_short x.1⟩
noncomputable def cx_I_short:Cx:=⟨tab,arrs,[],[],gl,[]⟩
theorem ef_I_short (t0:PV .str):denF cx_I_short 0 pl_I_short Tryz.f32.ntmps (bodyOf Tryz.f32) Tryz.f32.results.toList [(.bor,.str)] [(.str,.b),(.bool,.b)] (t0,())=f_I_short t0:=by kernel_rfl
theorem ok_I_short:FnOk gl Tryz.prog 32 ct_I_short:=
 fnOk (cx:=cx_I_short) (pl:=pl_I_short) (dp:=0) (ok0_of tabOk (by unfold ArrOk;kernel_rfl) mix trivial trivial) Tryz.func32 (by kernel_rfl) (by kernel_rfl) (by kernel_rfl)
  (by rw[show loopsOf (bodyOf Tryz.f32)=[] from by kernel_rfl];exact trivial) (fun x=>ef_I_short x.1)
noncomputable def o_I_OrdersText_10:List Out:=[⟨.normal,⟨[],[4,10,11,12],[]⟩,mkSh 44 [(4,.val .str .b),(10,.val S_impl_Order .b),(11,.val (.int .i64) .b),(12,.val (.int .i64) .b)]⟩]
noncomputable def sh_I_OrdersText_5:List Sh:=mkSh 44 [(4,.val .str .b),(10,.val S_impl_Order .b),(11,.val (.int .i64) .b),(12,.val (.int .i64) .b)]
noncomputable def o_I_OrdersText_5:List Out:=[⟨.exit 0,⟨[],[4],[]⟩,mkSh 44 [(4,.val .str .b)]⟩]
noncomputable def b_I_OrdersText_5 (t4:PV .str)(t10:PV S_impl_Order)(t11:PV (.int .i64))(t12:PV (.int .i64)):Option ((PV .str×PV S_impl_Order×PV (.int .i64)×PV (.int .i64)×Unit)⊕((PV .str×Unit))):=bif (decide (t12<t11)) then((bif inB t12 t10.length then(f_I_pairOf (((t10.getD t12.toNat (dflt Y_impl_Order)).2).1) ((((t10.getD t12.toNat (dflt Y_impl_Order)).2).2).1)).bind fun r7=>bif inB ((t10.getD t12.toNat (dflt Y_impl_Order)).1) gs0.length then bif decide (r7.1.1.length+(gs0.getD ((t10.getD t12.toNat (dflt Y_impl_Order)).1).toNat []).length≤1099511627776) then bif decide ((r7.1.1++(gs0.getD ((t10.getD t12.toNat (dflt Y_impl_Order)).1).toNat [])).length+[10].length≤1099511627776) then(f_strings_Join (((((t10.getD t12.toNat (dflt Y_impl_Order)).2).2).2).1) []).bind fun r8=>bif decide (((r7.1.1++(gs0.getD ((t10.getD t12.toNat (dflt Y_impl_Order)).1).toNat []))++[10]).length+r8.1.1.length≤1099511627776) then bif decide (t4.length+(((r7.1.1++(gs0.getD ((t10.getD t12.toNat (dflt Y_impl_Order)).1).toNat []))++[10])++r8.1.1).length≤1099511627776) then bif (decide (((((((t10.getD t12.toNat (dflt Y_impl_Order)).2).2).2).1).length:Int)>0)) then bif decide ((t4++(((r7.1.1++(gs0.getD ((t10.getD t12.toNat (dflt Y_impl_Order)).1).toNat []))++[10])++r8.1.1)).length+[46,10].length≤1099511627776) then some (((t4++(((r7.1.1++(gs0.getD ((t10.getD t12.toNat (dflt Y_impl_Order)).1).toNat []))++[10])++r8.1.1))++[46,10]),t10,t11,t12,()) else none else some ((t4++(((r7.1.1++(gs0.getD ((t10.getD t12.toNat (dflt Y_impl_Order)).1).toNat []))++[10])++r8.1.1)),t10,t11,t12,()) else none else none else none else none else none else none:Option ((PV .str×PV S_impl_Order×PV (.int .i64)×PV (.int .i64)×Unit)))).bind fun j9=>some (.inl (j9.1,j9.2.1,j9.2.2.1,(IntKind.wrap .i64 (j9.2.2.2.1+1)),())) else some (.inr (t4,()))
noncomputable def w_I_OrdersText_5:PV .str×PV S_impl_Order×PV (.int .i64)×PV (.int .i64)×Unit→Option ((PV .str×Unit)):=fix fun d=>b_I_OrdersText_5 d.1 d.2.1 d.2.2.1 d.2.2.2.1
noncomputable def lp_I_OrdersText_5:Lp:=⟨⟨[],[4,10,11,12],[]⟩,sh_I_OrdersText_5,o_I_OrdersText_5,fun d=>b_I_OrdersText_5 d.1 d.2.1 d.2.2.1 d.2.2.2.1⟩
noncomputable def pl_I_OrdersText:Plan:=⟨[(10,o_I_OrdersText_10)],[(5,lp_I_OrdersText_5)],0,0⟩
noncomputable def f_I_OrdersText (t0:PV S_impl_Order):Option (PVs [.str,.bool]×PVs []):=(f_I_goodOrders t0).bind fun r4=>bif (!r4.1.1) then some (([],false,()),()) else(w_I_OrdersText_5 ([],t0,(t0.length:Int),0,())).bind fun l11=>(f_I_short l11.1).bind fun r12=>some ((r12.1.1,r12.1.2.1,()),())
noncomputable def ct_I_OrdersText:Ct:=⟨[(.bor,S_impl_Order)],[(.str,.b),(.bool,.b)],fun x=>f_I_OrdersText x.1⟩
noncomputable def cx_I_OrdersText:Cx:=⟨tab,arrs,[(29,ct_I_goodOrders),(30,ct_I_pairOf),(31,ct_strings_Join),(32,ct_I_short)],[],gl,[]⟩
theorem eb_I_OrdersText_5 (t4:PV .str)(t10:PV S_impl_Order)(t11:PV (.int .i64))(t12:PV (.int .i64)):denK cx_I_OrdersText (rcN cx_I_OrdersText 0) pl_I_OrdersText 0 ((loopsOf (bodyOf Tryz.f12)).getD 0 .skip) (fillS sh_I_OrdersText_5 (t4,t10,t11,t12,())) (roundK 0 lp_I_OrdersText_5)=b_I_OrdersText_5 t4 t10 t11 t12:=by kernel_rfl
theorem ef_I_OrdersText (t0:PV S_impl_Order):denF cx_I_OrdersText 0 pl_I_OrdersText Tryz.f12.ntmps (bodyOf Tryz.f12) Tryz.f12.results.toList [(.bor,S_impl_Order)] [(.str,.b),(.bool,.b)] (t0,())=f_I_OrdersText t0:=by kernel_rfl
theorem ok_I_OrdersText:FnOk gl Tryz.prog 12 ct_I_OrdersText:=
 fnOk (cx:=cx_I_OrdersText) (pl:=pl_I_OrdersText) (dp:=0) (ok0_of tabOk (by unfold ArrOk;kernel_rfl) mix ⟨ok_I_goodOrders,ok_I_pairOf,ok_strings_Join,ok_I_short,trivial⟩ trivial) Tryz.func12 (by kernel_rfl) (by kernel_rfl) (by kernel_rfl)
  (by rw[show loopsOf (bodyOf Tryz.f12)=[((loopsOf (bodyOf Tryz.f12)).getD 0 .skip)] from by kernel_rfl];exact⟨(by rw[show lookup pl_I_OrdersText.loops (firstId ((loopsOf (bodyOf Tryz.f12)).getD 0 .skip))=some lp_I_OrdersText_5 from by kernel_rfl];exact fun d z h=>(eb_I_OrdersText_5 d.1 d.2.1 d.2.2.1 d.2.2.2.1).trans h),trivial⟩) (fun x=>ef_I_OrdersText x.1)
noncomputable def o_S_l9Lines_5:List Out:=[⟨.normal,⟨[],[0,5,6,7,22],[]⟩,mkSh 27 [(0,.val S_string .b),(5,.val S_string .b),(6,.val (.int .i64) .b),(7,.val (.int .i64) .b),(22,.val .bool .b)]⟩]
noncomputable def sh_S_l9Lines_2:List Sh:=mkSh 27 [(0,.val S_string .b),(5,.val S_string .b),(6,.val (.int .i64) .b),(7,.val (.int .i64) .b)]
noncomputable def o_S_l9Lines_2:List Out:=[⟨.exit 0,⟨[],[0],[]⟩,mkSh 27 [(0,.val S_string .b)]⟩,⟨.ret,⟨[],[2],[]⟩,mkSh 27 [(2,.val .bool .b)]⟩]
noncomputable def b_S_l9Lines_2 (t0:PV S_string)(t5:PV S_string)(t6:PV (.int .i64))(t7:PV (.int .i64)):Option ((PV S_string×PV S_string×PV (.int .i64)×PV (.int .i64)×Unit)⊕((PV S_string×Unit)⊕(PV .bool×Unit))):=bif (decide (t7<t6)) then bif inB t7 t5.length then(((f_S_l1Line (t5.getD t7.toNat [])).bind fun r4=>bif (!r4.1.1) then some (t0,t5,t6,t7,true,()) else(f_S_l1Ends (t5.getD t7.toNat [])).bind fun r5=>bif (!r5.1.1) then some (t0,t5,t6,t7,true,()) else some (t0,t5,t6,t7,((t5.getD t7.toNat [])==[46,10]),()):Option ((PV S_string×PV S_string×PV (.int .i64)×PV (.int .i64)×PV .bool×Unit)))).bind fun j6=>bif j6.2.2.2.2.1 then some (.inr (.inr (false,()))) else some (.inl (j6.1,j6.2.1,j6.2.2.1,(IntKind.wrap .i64 (j6.2.2.2.1+1)),())) else none else some (.inr (.inl (t0,())))
noncomputable def w_S_l9Lines_2:PV S_string×PV S_string×PV (.int .i64)×PV (.int .i64)×Unit→Option ((PV S_string×Unit)⊕(PV .bool×Unit)):=fix fun d=>b_S_l9Lines_2 d.1 d.2.1 d.2.2.1 d.2.2.2.1
noncomputable def lp_S_l9Lines_2:Lp:=⟨⟨[],[0,5,6,7,15,16,17,20,21],[]⟩,sh_S_l9Lines_2,o_S_l9Lines_2,fun d=>b_S_l9Lines_2 d.1 d.2.1 d.2.2.1 d.2.2.2.1⟩
noncomputable def pl_S_l9Lines:Plan:=⟨[(5,o_S_l9Lines_5)],[(2,lp_S_l9Lines_2)],0,0⟩
noncomputable def f_S_l9Lines (t0:PV S_string):Option (PVs [.bool]×PVs []):=
 (w_S_l9Lines_2 (t0,t0,(t0.length:Int),0,())).bind fun x12=>
   match x12 with
   | .inl l9=>
     (f_S_l1In (l9.1.length:Int) 1 40).bind fun r10=>
       some ((r10.1.1,()),())
   | .inr l11=>
     some ((l11.1,()),())
noncomputable def ct_S_l9Lines:Ct:=⟨[(.bor,S_string)],[(.bool,.b)],fun x=>f_S_l9Lines x.1⟩
noncomputable def cx_S_l9Lines:Cx:=⟨tab,arrs,[(40,ct_S_l1Ends),(65,ct_S_l1In),(92,ct_S_l1Line)],[],gl,[]⟩
theorem eb_S_l9Lines_2 (t0:PV S_string)(t5:PV S_string)(t6:PV (.int .i64))(t7:PV (.int .i64)):denK cx_S_l9Lines (rcN cx_S_l9Lines 0) pl_S_l9Lines 0 ((loopsOf (bodyOf Tryz.f66)).getD 0 .skip) (fillS sh_S_l9Lines_2 (t0,t5,t6,t7,())) (roundK 0 lp_S_l9Lines_2)=b_S_l9Lines_2 t0 t5 t6 t7:=by kernel_rfl
theorem ef_S_l9Lines (t0:PV S_string):denF cx_S_l9Lines 0 pl_S_l9Lines Tryz.f66.ntmps (bodyOf Tryz.f66) Tryz.f66.results.toList [(.bor,S_string)] [(.bool,.b)] (t0,())=f_S_l9Lines t0:=by kernel_rfl
theorem ok_S_l9Lines:FnOk gl Tryz.prog 66 ct_S_l9Lines:=
 fnOk (cx:=cx_S_l9Lines) (pl:=pl_S_l9Lines) (dp:=0) (ok0_of tabOk (by unfold ArrOk;kernel_rfl) mix ⟨ok_S_l1Ends,ok_S_l1In,ok_S_l1Line,trivial⟩ trivial) Tryz.func66 (by kernel_rfl) (by kernel_rfl) (by kernel_rfl)
  (by rw[show loopsOf (bodyOf Tryz.f66)=[((loopsOf (bodyOf Tryz.f66)).getD 0 .skip)] from by kernel_rfl];exact⟨(by rw[show lookup pl_S_l9Lines.loops (firstId ((loopsOf (bodyOf Tryz.f66)).getD 0 .skip))=some lp_S_l9Lines_2 from by kernel_rfl];exact fun d z h=>(eb_S_l9Lines_2 d.1 d.2.1 d.2.2.1 d.2.2.2.1).trans h),trivial⟩) (fun x=>ef_S_l9Lines x.1)
noncomputable def o_S_l9Order_2:List Out:=[⟨.normal,⟨[],[1,14,25,26,27,37,38,39,42,43,44,52,53,54,62,63,64,65,71,72,73,76,77,78,79,80,83,84,85,86],[]⟩,mkSh 88 [(1,.var Y_impl_Order .b),(14,.val .bool .b)]⟩]
noncomputable def pl_S_l9Order:Plan:=⟨[(2,o_S_l9Order_2)],[],0,0⟩
noncomputable def f_S_l9Order (t0:PV Y_impl_Order):Option (PVs [.bool]×PVs []):=(((f_S_l1In t0.2.1 0 1000).bind fun r6=>bif (!r6.1.1) then some (t0,true,()) else(f_S_l1In t0.2.2.1 t0.2.1 1000).bind fun r7=>some (t0,(!r7.1.1),()):Option ((PV Y_impl_Order×PV .bool×Unit)))).bind fun j8=>bif j8.2.1 then some ((false,()),()) else bif (j8.1.1==1) then bif (j8.1.2.2.1==j8.1.2.1) then(f_S_l9Lines j8.1.2.2.2.1).bind fun r12=>some ((r12.1.1,()),()) else some ((false,()),()) else bif (j8.1.1==2) then bif (j8.1.2.2.1==j8.1.2.1) then bif (decide (j8.1.2.1≥1)) then(f_S_l9Lines j8.1.2.2.2.1).bind fun r13=>some ((r13.1.1,()),()) else some ((false,()),()) else some ((false,()),()) else bif (j8.1.1==3) then bif (decide (j8.1.2.1≥1)) then(f_S_l9Lines j8.1.2.2.2.1).bind fun r14=>some ((r14.1.1,()),()) else some ((false,()),()) else bif (j8.1.1==4) then bif (decide (j8.1.2.1≥1)) then some ((((j8.1.2.2.2.1.length:Int)==0),()),()) else some ((false,()),()) else bif (j8.1.1==5) then bif (decide (j8.1.2.1≥1)) then bif (j8.1.2.2.1==j8.1.2.1) then some ((((j8.1.2.2.2.1.length:Int)==0),()),()) else some ((false,()),()) else some ((false,()),()) else some ((false,()),())
noncomputable def ct_S_l9Order:Ct:=⟨[(.bor,Y_impl_Order)],[(.bool,.b)],fun x=>f_S_l9Order x.1⟩
noncomputable def cx_S_l9Order:Cx:=⟨tab,arrs,[(65,ct_S_l1In),(66,ct_S_l9Lines)],[],gl,[]⟩
theorem ef_S_l9Order (t0:PV Y_impl_Order):denF cx_S_l9Order 0 pl_S_l9Order Tryz.f41.ntmps (bodyOf Tryz.f41) Tryz.f41.results.toList [(.bor,Y_impl_Order)] [(.bool,.b)] (t0,())=f_S_l9Order t0:=by kernel_rfl
theorem ok_S_l9Order:FnOk gl Tryz.prog 41 ct_S_l9Order:=
 fnOk (cx:=cx_S_l9Order) (pl:=pl_S_l9Order) (dp:=0) (ok0_of tabOk (by unfold ArrOk;kernel_rfl) mix ⟨ok_S_l1In,ok_S_l9Lines,trivial⟩ trivial) Tryz.func41 (by kernel_rfl) (by kernel_rfl) (by kernel_rfl)
  (by rw[show loopsOf (bodyOf Tryz.f41)=[] from by kernel_rfl];exact trivial) (fun x=>ef_S_l9Order x.1)
noncomputable def sh_S_l9Good_2:List Sh:=mkSh 18 [(0,.val S_impl_Order .b),(5,.val S_impl_Order .b),(6,.val (.int .i64) .b),(7,.val (.int .i64) .b)]
noncomputable def o_S_l9Good_2:List Out:=[⟨.exit 0,⟨[],[0],[]⟩,mkSh 18 [(0,.val S_impl_Order .b)]⟩,⟨.ret,⟨[],[2],[]⟩,mkSh 18 [(2,.val .bool .b)]⟩]
noncomputable def b_S_l9Good_2 (t0:PV S_impl_Order)(t5:PV S_impl_Order)(t6:PV (.int .i64))(t7:PV (.int .i64)):Option ((PV S_impl_Order×PV S_impl_Order×PV (.int .i64)×PV (.int .i64)×Unit)⊕((PV S_impl_Order×Unit)⊕(PV .bool×Unit))):=bif (decide (t7<t6)) then bif inB t7 t5.length then(f_S_l9Order (t5.getD t7.toNat (dflt Y_impl_Order))).bind fun r4=>bif (!r4.1.1) then some (.inr (.inr (false,()))) else some (.inl (t0,t5,t6,(IntKind.wrap .i64 (t7+1)),())) else none else some (.inr (.inl (t0,())))
noncomputable def w_S_l9Good_2:PV S_impl_Order×PV S_impl_Order×PV (.int .i64)×PV (.int .i64)×Unit→Option ((PV S_impl_Order×Unit)⊕(PV .bool×Unit)):=fix fun d=>b_S_l9Good_2 d.1 d.2.1 d.2.2.1 d.2.2.2.1
noncomputable def lp_S_l9Good_2:Lp:=⟨⟨[],[0,5,6,7],[]⟩,sh_S_l9Good_2,o_S_l9Good_2,fun d=>b_S_l9Good_2 d.1 d.2.1 d.2.2.1 d.2.2.2.1⟩
noncomputable def pl_S_l9Good:Plan:=⟨[],[(2,lp_S_l9Good_2)],0,0⟩
noncomputable def f_S_l9Good (t0:PV S_impl_Order):Option (PVs [.bool]×PVs []):=
 (w_S_l9Good_2 (t0,t0,(t0.length:Int),0,())).bind fun x9=>
   match x9 with
   | .inl l7=>
     some (((decide ((l7.1.length:Int)≤60)),()),())
   | .inr l8=>
     some ((l8.1,()),())
noncomputable def ct_S_l9Good:Ct:=⟨[(.bor,S_impl_Order)],[(.bool,.b)],fun x=>f_S_l9Good x.1⟩
noncomputable def cx_S_l9Good:Cx:=⟨tab,arrs,[(41,ct_S_l9Order)],[],gl,[]⟩
theorem eb_S_l9Good_2 (t0:PV S_impl_Order)(t5:PV S_impl_Order)(t6:PV (.int .i64))(t7:PV (.int .i64)):denK cx_S_l9Good (rcN cx_S_l9Good 0) pl_S_l9Good 0 ((loopsOf (bodyOf Tryz.f21)).getD 0 .skip) (fillS sh_S_l9Good_2 (t0,t5,t6,t7,())) (roundK 0 lp_S_l9Good_2)=b_S_l9Good_2 t0 t5 t6 t7:=by kernel_rfl
theorem ef_S_l9Good (t0:PV S_impl_Order):denF cx_S_l9Good 0 pl_S_l9Good Tryz.f21.ntmps (bodyOf Tryz.f21) Tryz.f21.results.toList [(.bor,S_impl_Order)] [(.bool,.b)] (t0,())=f_S_l9Good t0:=by kernel_rfl
theorem ok_S_l9Good:FnOk gl Tryz.prog 21 ct_S_l9Good:=
 fnOk (cx:=cx_S_l9Good) (pl:=pl_S_l9Good) (dp:=0) (ok0_of tabOk (by unfold ArrOk;kernel_rfl) mix ⟨ok_S_l9Order,trivial⟩ trivial) Tryz.func21 (by kernel_rfl) (by kernel_rfl) (by kernel_rfl)
  (by rw[show loopsOf (bodyOf Tryz.f21)=[((loopsOf (bodyOf Tryz.f21)).getD 0 .skip)] from by kernel_rfl];exact⟨(by rw[show lookup pl_S_l9Good.loops (firstId ((loopsOf (bodyOf Tryz.f21)).getD 0 .skip))=some lp_S_l9Good_2 from by kernel_rfl];exact fun d z h=>(eb_S_l9Good_2 d.1 d.2.1 d.2.2.1 d.2.2.2.1).trans h),trivial⟩) (fun x=>ef_S_l9Good x.1)
noncomputable def fr_S_l1Num (ih:PV (.int .i64)→Option (PVs [.str]×PVs []))(t0:PV (.int .i64)):Option (PVs [.str]×PVs []):=
 bif (decide (t0<10)) then
  some (((bytesOfInts [(IntKind.wrap .u8 (IntKind.wrap .i64 (48+t0)))]),()),())
 else
  bif 10==0 then
   none
  else
   (ih (IntKind.wrap .i64 (t0.tdiv 10))).bind fun r1=>
     bif 10==0 then
      none
     else
      bif decide (r1.1.1.length+(bytesOfInts [(IntKind.wrap .u8 (IntKind.wrap .i64 (48+(t0.tmod 10))))]).length≤1099511627776) then
       some (((r1.1.1++(bytesOfInts [(IntKind.wrap .u8 (IntKind.wrap .i64 (48+(t0.tmod 10))))])),()),())
      else
       none
noncomputable def fn_S_l1Num:Nat→PV (.int .i64)→Option (PVs [.str]×PVs []):=fun n=>Nat.rec (motive:=fun _=>PV (.int .i64)→Option (PVs [.str]×PVs [])) (fun _=>none) (fun _ ih=>fr_S_l1Num ih) n
noncomputable def f_S_l1Num (t0:PV (.int .i64)):Option (PVs [.str]×PVs []):=fn_S_l1Num (t0.toNat+1) t0
noncomputable def ct_S_l1Num:Ct:=⟨[(.bor,(.int .i64))],[(.str,.b)],fun x=>f_S_l1Num x.1⟩
noncomputable def ctn_S_l1Num (n:Nat):Ct:=⟨[(.bor,(.int .i64))],[(.str,.b)],fun x=>fn_S_l1Num n x.1⟩
noncomputable def cxn_S_l1Num (n:Nat):Cx:=⟨tab,arrs,[(67,ctn_S_l1Num n)],[],gl,[]⟩
noncomputable def pl_S_l1Num:Plan:=⟨[],[],0,0⟩
theorem efn_S_l1Num (n:Nat)(t0:PV (.int .i64)):denF (cxn_S_l1Num n) 0 pl_S_l1Num Tryz.f67.ntmps (bodyOf Tryz.f67) Tryz.f67.results.toList [(.bor,(.int .i64))] [(.str,.b)] (t0,())=fr_S_l1Num (fn_S_l1Num n) t0:=by kernel_rfl
theorem okn_S_l1Num:∀n,FnOk gl Tryz.prog 67 (ctn_S_l1Num n)
 |0=>fnOk_none (by kernel_rfl)
 |n+1=>fnOk (cx:=cxn_S_l1Num n) (pl:=pl_S_l1Num) (dp:=0) (ct:=ctn_S_l1Num (n+1)) (ok0_of tabOk (by unfold ArrOk;kernel_rfl) mix ⟨okn_S_l1Num n,trivial⟩ trivial) Tryz.func67 (by kernel_rfl) (by kernel_rfl) (by kernel_rfl)
  (by rw[show loopsOf (bodyOf Tryz.f67)=[] from by kernel_rfl];exact trivial) (fun x=>efn_S_l1Num n x.1)
theorem ok_S_l1Num:FnOk gl Tryz.prog 67 ct_S_l1Num:=fnOk_fuel (pars:=[(.bor,(.int .i64))]) (rets:=[(.str,.b)]) (Fs:=fun n x=>fn_S_l1Num n x.1) (N:=fun x=>x.1.toNat+1) okn_S_l1Num
noncomputable def pl_S_l5Numbers:Plan:=⟨[],[],0,0⟩
noncomputable def f_S_l5Numbers (t0:PV (.int .i64))(t1:PV (.int .i64)):Option (PVs [.str]×PVs []):=bif (t0==t1) then(f_S_l1Num t0).bind fun r2=>some ((r2.1.1,()),()) else(f_S_l1Num t0).bind fun r3=>bif decide (r3.1.1.length+[44].length≤1099511627776) then(f_S_l1Num t1).bind fun r4=>bif decide ((r3.1.1++[44]).length+r4.1.1.length≤1099511627776) then some ((((r3.1.1++[44])++r4.1.1),()),()) else none else none
noncomputable def ct_S_l5Numbers:Ct:=⟨[(.bor,(.int .i64)),(.bor,(.int .i64))],[(.str,.b)],fun x=>f_S_l5Numbers x.1 x.2.1⟩
noncomputable def cx_S_l5Numbers:Cx:=⟨tab,arrs,[(67,ct_S_l1Num)],[],gl,[]⟩
theorem ef_S_l5Numbers (t0:PV (.int .i64))(t1:PV (.int .i64)):denF cx_S_l5Numbers 0 pl_S_l5Numbers Tryz.f42.ntmps (bodyOf Tryz.f42) Tryz.f42.results.toList [(.bor,(.int .i64)),(.bor,(.int .i64))] [(.str,.b)] (t0,t1,())=f_S_l5Numbers t0 t1:=by kernel_rfl
theorem ok_S_l5Numbers:FnOk gl Tryz.prog 42 ct_S_l5Numbers:=
 fnOk (cx:=cx_S_l5Numbers) (pl:=pl_S_l5Numbers) (dp:=0) (ok0_of tabOk (by unfold ArrOk;kernel_rfl) mix ⟨ok_S_l1Num,trivial⟩ trivial) Tryz.func42 (by kernel_rfl) (by kernel_rfl) (by kernel_rfl)
  (by rw[show loopsOf (bodyOf Tryz.f42)=[] from by kernel_rfl];exact trivial) (fun x=>ef_S_l5Numbers x.1 x.2.1)
noncomputable def sh_S_l1Text_3:List Sh:=mkSh 17 [(3,.val .str .b),(6,.val S_string .b),(7,.val (.int .i64) .b),(8,.val (.int .i64) .b)]
noncomputable def o_S_l1Text_3:List Out:=[⟨.exit 0,⟨[],[3],[]⟩,mkSh 17 [(3,.val .str .b)]⟩]
noncomputable def b_S_l1Text_3 (t3:PV .str)(t6:PV S_string)(t7:PV (.int .i64))(t8:PV (.int .i64)):Option ((PV .str×PV S_string×PV (.int .i64)×PV (.int .i64)×Unit)⊕((PV .str×Unit))):=bif (decide (t8<t7)) then bif inB t8 t6.length then bif decide (t3.length+(t6.getD t8.toNat []).length≤1099511627776) then some (.inl ((t3++(t6.getD t8.toNat [])),t6,t7,(IntKind.wrap .i64 (t8+1)),())) else none else none else some (.inr (t3,()))
noncomputable def w_S_l1Text_3:PV .str×PV S_string×PV (.int .i64)×PV (.int .i64)×Unit→Option ((PV .str×Unit)):=fix fun d=>b_S_l1Text_3 d.1 d.2.1 d.2.2.1 d.2.2.2.1
noncomputable def lp_S_l1Text_3:Lp:=⟨⟨[],[3,6,7,8],[]⟩,sh_S_l1Text_3,o_S_l1Text_3,fun d=>b_S_l1Text_3 d.1 d.2.1 d.2.2.1 d.2.2.2.1⟩
noncomputable def pl_S_l1Text:Plan:=⟨[],[(3,lp_S_l1Text_3)],0,0⟩
noncomputable def f_S_l1Text (t0:PV S_string):Option (PVs [.str]×PVs []):=(w_S_l1Text_3 ([],t0,(t0.length:Int),0,())).bind fun l2=>some ((l2.1,()),())
noncomputable def ct_S_l1Text:Ct:=⟨[(.bor,S_string)],[(.str,.b)],fun x=>f_S_l1Text x.1⟩
noncomputable def cx_S_l1Text:Cx:=⟨tab,arrs,[],[],gl,[]⟩
theorem eb_S_l1Text_3 (t3:PV .str)(t6:PV S_string)(t7:PV (.int .i64))(t8:PV (.int .i64)):denK cx_S_l1Text (rcN cx_S_l1Text 0) pl_S_l1Text 0 ((loopsOf (bodyOf Tryz.f43)).getD 0 .skip) (fillS sh_S_l1Text_3 (t3,t6,t7,t8,())) (roundK 0 lp_S_l1Text_3)=b_S_l1Text_3 t3 t6 t7 t8:=by kernel_rfl
theorem ef_S_l1Text (t0:PV S_string):denF cx_S_l1Text 0 pl_S_l1Text Tryz.f43.ntmps (bodyOf Tryz.f43) Tryz.f43.results.toList [(.bor,S_string)] [(.str,.b)] (t0,())=f_S_l1Text t0:=by kernel_rfl
theorem ok_S_l1Text:FnOk gl Tryz.prog 43 ct_S_l1Text:=
 fnOk (cx:=cx_S_l1Text) (pl:=pl_S_l1Text) (dp:=0) (ok0_of tabOk (by unfold ArrOk;kernel_rfl) mix trivial trivial) Tryz.func43 (by kernel_rfl) (by kernel_rfl) (by kernel_rfl)
  (by rw[show loopsOf (bodyOf Tryz.f43)=[((loopsOf (bodyOf Tryz.f43)).getD 0 .skip)] from by kernel_rfl];exact⟨(by rw[show lookup pl_S_l1Text.loops (firstId ((loopsOf (bodyOf Tryz.f43)).getD 0 .skip))=some lp_S_l1Text_3 from by kernel_rfl];exact fun d z h=>(eb_S_l1Text_3 d.1 d.2.1 d.2.2.1 d.2.2.2.1).trans h),trivial⟩) (fun x=>ef_S_l1Text x.1)
noncomputable def o_S_l9Text_8:List Out:=[⟨.normal,⟨[],[3,6,7,8],[]⟩,mkSh 38 [(3,.val .str .b),(6,.val S_impl_Order .b),(7,.val (.int .i64) .b),(8,.val (.int .i64) .b)]⟩]
noncomputable def sh_S_l9Text_3:List Sh:=mkSh 38 [(3,.val .str .b),(6,.val S_impl_Order .b),(7,.val (.int .i64) .b),(8,.val (.int .i64) .b)]
noncomputable def o_S_l9Text_3:List Out:=[⟨.exit 0,⟨[],[3],[]⟩,mkSh 38 [(3,.val .str .b)]⟩]
noncomputable def b_S_l9Text_3 (t3:PV .str)(t6:PV S_impl_Order)(t7:PV (.int .i64))(t8:PV (.int .i64)):Option ((PV .str×PV S_impl_Order×PV (.int .i64)×PV (.int .i64)×Unit)⊕((PV .str×Unit))):=bif (decide (t8<t7)) then((bif inB t8 t6.length then(f_S_l5Numbers (((t6.getD t8.toNat (dflt Y_impl_Order)).2).1) ((((t6.getD t8.toNat (dflt Y_impl_Order)).2).2).1)).bind fun r3=>(f_S_l9Words).bind fun r4=>bif inB ((t6.getD t8.toNat (dflt Y_impl_Order)).1) r4.1.1.length then bif decide (r3.1.1.length+(r4.1.1.getD (((t6.getD t8.toNat (dflt Y_impl_Order)).1).toNat) []).length≤1099511627776) then bif decide ((r3.1.1++(r4.1.1.getD (((t6.getD t8.toNat (dflt Y_impl_Order)).1).toNat) [])).length+[10].length≤1099511627776) then bif decide (t3.length+((r3.1.1++(r4.1.1.getD (((t6.getD t8.toNat (dflt Y_impl_Order)).1).toNat) []))++[10]).length≤1099511627776) then bif (decide (((((((t6.getD t8.toNat (dflt Y_impl_Order)).2).2).2).1).length:Int)>0)) then(f_S_l1Text (((((t6.getD t8.toNat (dflt Y_impl_Order)).2).2).2).1)).bind fun r5=>bif decide (r5.1.1.length+[46,10].length≤1099511627776) then bif decide ((t3++((r3.1.1++(r4.1.1.getD (((t6.getD t8.toNat (dflt Y_impl_Order)).1).toNat) []))++[10])).length+(r5.1.1++[46,10]).length≤1099511627776) then some (((t3++((r3.1.1++(r4.1.1.getD (((t6.getD t8.toNat (dflt Y_impl_Order)).1).toNat) []))++[10]))++(r5.1.1++[46,10])),t6,t7,t8,()) else none else none else some ((t3++((r3.1.1++(r4.1.1.getD (((t6.getD t8.toNat (dflt Y_impl_Order)).1).toNat) []))++[10])),t6,t7,t8,()) else none else none else none else none else none:Option ((PV .str×PV S_impl_Order×PV (.int .i64)×PV (.int .i64)×Unit)))).bind fun j6=>some (.inl (j6.1,j6.2.1,j6.2.2.1,(IntKind.wrap .i64 (j6.2.2.2.1+1)),())) else some (.inr (t3,()))
noncomputable def w_S_l9Text_3:PV .str×PV S_impl_Order×PV (.int .i64)×PV (.int .i64)×Unit→Option ((PV .str×Unit)):=fix fun d=>b_S_l9Text_3 d.1 d.2.1 d.2.2.1 d.2.2.2.1
noncomputable def lp_S_l9Text_3:Lp:=⟨⟨[],[3,6,7,8],[]⟩,sh_S_l9Text_3,o_S_l9Text_3,fun d=>b_S_l9Text_3 d.1 d.2.1 d.2.2.1 d.2.2.2.1⟩
noncomputable def pl_S_l9Text:Plan:=⟨[(8,o_S_l9Text_8)],[(3,lp_S_l9Text_3)],0,0⟩
noncomputable def f_S_l9Text (t0:PV S_impl_Order):Option (PVs [.str]×PVs []):=(w_S_l9Text_3 ([],t0,(t0.length:Int),0,())).bind fun l8=>some ((l8.1,()),())
noncomputable def ct_S_l9Text:Ct:=⟨[(.bor,S_impl_Order)],[(.str,.b)],fun x=>f_S_l9Text x.1⟩
noncomputable def cx_S_l9Text:Cx:=⟨tab,arrs,[(39,ct_S_l9Words),(42,ct_S_l5Numbers),(43,ct_S_l1Text)],[],gl,[]⟩
theorem eb_S_l9Text_3 (t3:PV .str)(t6:PV S_impl_Order)(t7:PV (.int .i64))(t8:PV (.int .i64)):denK cx_S_l9Text (rcN cx_S_l9Text 0) pl_S_l9Text 0 ((loopsOf (bodyOf Tryz.f22)).getD 0 .skip) (fillS sh_S_l9Text_3 (t3,t6,t7,t8,())) (roundK 0 lp_S_l9Text_3)=b_S_l9Text_3 t3 t6 t7 t8:=by kernel_rfl
theorem ef_S_l9Text (t0:PV S_impl_Order):denF cx_S_l9Text 0 pl_S_l9Text Tryz.f22.ntmps (bodyOf Tryz.f22) Tryz.f22.results.toList [(.bor,S_impl_Order)] [(.str,.b)] (t0,())=f_S_l9Text t0:=by kernel_rfl
theorem ok_S_l9Text:FnOk gl Tryz.prog 22 ct_S_l9Text:=
 fnOk (cx:=cx_S_l9Text) (pl:=pl_S_l9Text) (dp:=0) (ok0_of tabOk (by unfold ArrOk;kernel_rfl) mix ⟨ok_S_l9Words,ok_S_l5Numbers,ok_S_l1Text,trivial⟩ trivial) Tryz.func22 (by kernel_rfl) (by kernel_rfl) (by kernel_rfl)
  (by rw[show loopsOf (bodyOf Tryz.f22)=[((loopsOf (bodyOf Tryz.f22)).getD 0 .skip)] from by kernel_rfl];exact⟨(by rw[show lookup pl_S_l9Text.loops (firstId ((loopsOf (bodyOf Tryz.f22)).getD 0 .skip))=some lp_S_l9Text_3 from by kernel_rfl];exact fun d z h=>(eb_S_l9Text_3 d.1 d.2.1 d.2.2.1 d.2.2.2.1).trans h),trivial⟩) (fun x=>ef_S_l9Text x.1)
noncomputable def o_S_OrdersText_2:List Out:=[⟨.normal,⟨[],[0,12],[]⟩,mkSh 15 [(0,.val S_impl_Order .b),(12,.val .bool .b)]⟩]
noncomputable def pl_S_OrdersText:Plan:=⟨[(2,o_S_OrdersText_2)],[],0,0⟩
noncomputable def f_S_OrdersText (t0:PV S_impl_Order):Option (PVs [.str,.bool]×PVs []):=(((f_S_l9Good t0).bind fun r6=>bif (!r6.1.1) then some (t0,true,()) else(f_S_l9Text t0).bind fun r7=>some (t0,(decide ((r7.1.1.length:Int)>3000)),()):Option ((PV S_impl_Order×PV .bool×Unit)))).bind fun j8=>bif j8.2.1 then some (([],false,()),()) else(f_S_l9Text j8.1).bind fun r9=>some ((r9.1.1,true,()),())
noncomputable def ct_S_OrdersText:Ct:=⟨[(.bor,S_impl_Order)],[(.str,.b),(.bool,.b)],fun x=>f_S_OrdersText x.1⟩
noncomputable def cx_S_OrdersText:Cx:=⟨tab,arrs,[(21,ct_S_l9Good),(22,ct_S_l9Text)],[],gl,[]⟩
theorem ef_S_OrdersText (t0:PV S_impl_Order):denF cx_S_OrdersText 0 pl_S_OrdersText Tryz.f13.ntmps (bodyOf Tryz.f13) Tryz.f13.results.toList [(.bor,S_impl_Order)] [(.str,.b),(.bool,.b)] (t0,())=f_S_OrdersText t0:=by kernel_rfl
theorem ok_S_OrdersText:FnOk gl Tryz.prog 13 ct_S_OrdersText:=
 fnOk (cx:=cx_S_OrdersText) (pl:=pl_S_OrdersText) (dp:=0) (ok0_of tabOk (by unfold ArrOk;kernel_rfl) mix ⟨ok_S_l9Good,ok_S_l9Text,trivial⟩ trivial) Tryz.func13 (by kernel_rfl) (by kernel_rfl) (by kernel_rfl)
  (by rw[show loopsOf (bodyOf Tryz.f13)=[] from by kernel_rfl];exact trivial) (fun x=>ef_S_OrdersText x.1)
noncomputable def pl_I_GoodOrders:Plan:=⟨[],[],0,0⟩
noncomputable def f_I_GoodOrders (t0:PV S_impl_Order):Option (PVs [.bool]×PVs []):=(f_I_goodOrders t0).bind fun r1=>some ((r1.1.1,()),())
noncomputable def ct_I_GoodOrders:Ct:=⟨[(.bor,S_impl_Order)],[(.bool,.b)],fun x=>f_I_GoodOrders x.1⟩
noncomputable def cx_I_GoodOrders:Cx:=⟨tab,arrs,[(29,ct_I_goodOrders)],[],gl,[]⟩
theorem ef_I_GoodOrders (t0:PV S_impl_Order):denF cx_I_GoodOrders 0 pl_I_GoodOrders Tryz.f14.ntmps (bodyOf Tryz.f14) Tryz.f14.results.toList [(.bor,S_impl_Order)] [(.bool,.b)] (t0,())=f_I_GoodOrders t0:=by kernel_rfl
theorem ok_I_GoodOrders:FnOk gl Tryz.prog 14 ct_I_GoodOrders:=
 fnOk (cx:=cx_I_GoodOrders) (pl:=pl_I_GoodOrders) (dp:=0) (ok0_of tabOk (by unfold ArrOk;kernel_rfl) mix ⟨ok_I_goodOrders,trivial⟩ trivial) Tryz.func14 (by kernel_rfl) (by kernel_rfl) (by kernel_rfl)
  (by rw[show loopsOf (bodyOf Tryz.f14)=[] from by kernel_rfl];exact trivial) (fun x=>ef_I_GoodOrders x.1)
noncomputable def pl_S_GoodOrders:Plan:=⟨[],[],0,0⟩
noncomputable def f_S_GoodOrders (t0:PV S_impl_Order):Option (PVs [.bool]×PVs []):=(f_S_l9Good t0).bind fun r1=>some ((r1.1.1,()),())
noncomputable def ct_S_GoodOrders:Ct:=⟨[(.bor,S_impl_Order)],[(.bool,.b)],fun x=>f_S_GoodOrders x.1⟩
noncomputable def cx_S_GoodOrders:Cx:=⟨tab,arrs,[(21,ct_S_l9Good)],[],gl,[]⟩
theorem ef_S_GoodOrders (t0:PV S_impl_Order):denF cx_S_GoodOrders 0 pl_S_GoodOrders Tryz.f15.ntmps (bodyOf Tryz.f15) Tryz.f15.results.toList [(.bor,S_impl_Order)] [(.bool,.b)] (t0,())=f_S_GoodOrders t0:=by kernel_rfl
theorem ok_S_GoodOrders:FnOk gl Tryz.prog 15 ct_S_GoodOrders:=
 fnOk (cx:=cx_S_GoodOrders) (pl:=pl_S_GoodOrders) (dp:=0) (ok0_of tabOk (by unfold ArrOk;kernel_rfl) mix ⟨ok_S_l9Good,trivial⟩ trivial) Tryz.func15 (by kernel_rfl) (by kernel_rfl) (by kernel_rfl)
  (by rw[show loopsOf (bodyOf Tryz.f15)=[] from by kernel_rfl];exact trivial) (fun x=>ef_S_GoodOrders x.1)
noncomputable def pl_strings_SplitAfter:Plan:=⟨[],[],0,0⟩
noncomputable def f_strings_SplitAfter (t0:PV .str)(t1:PV .str):Option (PVs [S_string]×PVs []):=(f_strings_genSplit t0 t1 (t1.length:Int) (-1)).bind fun r1=>some ((r1.1.1,()),())
noncomputable def ct_strings_SplitAfter:Ct:=⟨[(.bor,.str),(.bor,.str)],[(S_string,.b)],fun x=>f_strings_SplitAfter x.1 x.2.1⟩
noncomputable def cx_strings_SplitAfter:Cx:=⟨tab,arrs,[(75,ct_strings_genSplit)],[],gl,[]⟩
theorem ef_strings_SplitAfter (t0:PV .str)(t1:PV .str):denF cx_strings_SplitAfter 0 pl_strings_SplitAfter Tryz.f49.ntmps (bodyOf Tryz.f49) Tryz.f49.results.toList [(.bor,.str),(.bor,.str)] [(S_string,.b)] (t0,t1,())=f_strings_SplitAfter t0 t1:=by kernel_rfl
theorem ok_strings_SplitAfter:FnOk gl Tryz.prog 49 ct_strings_SplitAfter:=
 fnOk (cx:=cx_strings_SplitAfter) (pl:=pl_strings_SplitAfter) (dp:=0) (ok0_of tabOk (by unfold ArrOk;kernel_rfl) mix ⟨ok_strings_genSplit,trivial⟩ trivial) Tryz.func49 (by kernel_rfl) (by kernel_rfl) (by kernel_rfl)
  (by rw[show loopsOf (bodyOf Tryz.f49)=[] from by kernel_rfl];exact trivial) (fun x=>ef_strings_SplitAfter x.1 x.2.1)
noncomputable def o_I_linesOf_7:List Out:=[⟨.normal,⟨[],[3],[]⟩,mkSh 21 [(3,.val S_string .b)]⟩]
noncomputable def pl_I_linesOf:Plan:=⟨[(7,o_I_linesOf_7)],[],0,0⟩
noncomputable def f_I_linesOf (t0:PV .str):Option (PVs [S_string]×PVs []):=bif (t0==[]) then some (([],()),()) else(f_strings_SplitAfter t0 [10]).bind fun r2=>((bif inB (IntKind.wrap .i64 ((r2.1.1.length:Int) -1)) r2.1.1.length then bif ((r2.1.1.getD ((IntKind.wrap .i64 ((r2.1.1.length:Int) -1)).toNat) [])==[]) then bif cutB 0 (IntKind.wrap .i64 ((r2.1.1.length:Int) -1)) r2.1.1.length then some ((cutL 0 (IntKind.wrap .i64 ((r2.1.1.length:Int) -1)) r2.1.1),()) else none else some (r2.1.1,()) else none:Option ((PV S_string×Unit)))).bind fun j3=>some ((j3.1,()),())
noncomputable def ct_I_linesOf:Ct:=⟨[(.bor,.str)],[(S_string,.b)],fun x=>f_I_linesOf x.1⟩
noncomputable def cx_I_linesOf:Cx:=⟨tab,arrs,[(49,ct_strings_SplitAfter)],[],gl,[]⟩
theorem ef_I_linesOf (t0:PV .str):denF cx_I_linesOf 0 pl_I_linesOf Tryz.f24.ntmps (bodyOf Tryz.f24) Tryz.f24.results.toList [(.bor,.str)] [(S_string,.b)] (t0,())=f_I_linesOf t0:=by kernel_rfl
theorem ok_I_linesOf:FnOk gl Tryz.prog 24 ct_I_linesOf:=
 fnOk (cx:=cx_I_linesOf) (pl:=pl_I_linesOf) (dp:=0) (ok0_of tabOk (by unfold ArrOk;kernel_rfl) mix ⟨ok_strings_SplitAfter,trivial⟩ trivial) Tryz.func24 (by kernel_rfl) (by kernel_rfl) (by kernel_rfl)
  (by rw[show loopsOf (bodyOf Tryz.f24)=[] from by kernel_rfl];exact trivial) (fun x=>ef_I_linesOf x.1)
noncomputable def pl_internal_stringslite_TrimSuffix:Plan:=⟨[],[],0,0⟩
noncomputable def f_internal_stringslite_TrimSuffix (t0:PV .str)(t1:PV .str):Option (PVs [.str]×PVs []):=(f_internal_stringslite_HasSuffix t0 t1).bind fun r4=>bif r4.1.1 then bif cutB 0 (IntKind.wrap .i64 ((t0.length:Int) -(t1.length:Int))) t0.length then some (((cutL 0 (IntKind.wrap .i64 ((t0.length:Int) -(t1.length:Int))) t0),()),()) else none else some ((t0,()),())
noncomputable def ct_internal_stringslite_TrimSuffix:Ct:=⟨[(.bor,.str),(.bor,.str)],[(.str,.b)],fun x=>f_internal_stringslite_TrimSuffix x.1 x.2.1⟩
noncomputable def cx_internal_stringslite_TrimSuffix:Cx:=⟨tab,arrs,[(111,ct_internal_stringslite_HasSuffix)],[],gl,[]⟩
theorem ef_internal_stringslite_TrimSuffix (t0:PV .str)(t1:PV .str):denF cx_internal_stringslite_TrimSuffix 0 pl_internal_stringslite_TrimSuffix Tryz.f93.ntmps (bodyOf Tryz.f93) Tryz.f93.results.toList [(.bor,.str),(.bor,.str)] [(.str,.b)] (t0,t1,())=f_internal_stringslite_TrimSuffix t0 t1:=by kernel_rfl
theorem ok_internal_stringslite_TrimSuffix:FnOk gl Tryz.prog 93 ct_internal_stringslite_TrimSuffix:=
 fnOk (cx:=cx_internal_stringslite_TrimSuffix) (pl:=pl_internal_stringslite_TrimSuffix) (dp:=0) (ok0_of tabOk (by unfold ArrOk;kernel_rfl) mix ⟨ok_internal_stringslite_HasSuffix,trivial⟩ trivial) Tryz.func93 (by kernel_rfl) (by kernel_rfl) (by kernel_rfl)
  (by rw[show loopsOf (bodyOf Tryz.f93)=[] from by kernel_rfl];exact trivial) (fun x=>ef_internal_stringslite_TrimSuffix x.1 x.2.1)
noncomputable def pl_strings_TrimSuffix:Plan:=⟨[],[],0,0⟩
noncomputable def f_strings_TrimSuffix (t0:PV .str)(t1:PV .str):Option (PVs [.str]×PVs []):=(f_internal_stringslite_TrimSuffix t0 t1).bind fun r1=>some ((r1.1.1,()),())
noncomputable def ct_strings_TrimSuffix:Ct:=⟨[(.bor,.str),(.bor,.str)],[(.str,.b)],fun x=>f_strings_TrimSuffix x.1 x.2.1⟩
noncomputable def cx_strings_TrimSuffix:Cx:=⟨tab,arrs,[(93,ct_internal_stringslite_TrimSuffix)],[],gl,[]⟩
theorem ef_strings_TrimSuffix (t0:PV .str)(t1:PV .str):denF cx_strings_TrimSuffix 0 pl_strings_TrimSuffix Tryz.f68.ntmps (bodyOf Tryz.f68) Tryz.f68.results.toList [(.bor,.str),(.bor,.str)] [(.str,.b)] (t0,t1,())=f_strings_TrimSuffix t0 t1:=by kernel_rfl
theorem ok_strings_TrimSuffix:FnOk gl Tryz.prog 68 ct_strings_TrimSuffix:=
 fnOk (cx:=cx_strings_TrimSuffix) (pl:=pl_strings_TrimSuffix) (dp:=0) (ok0_of tabOk (by unfold ArrOk;kernel_rfl) mix ⟨ok_internal_stringslite_TrimSuffix,trivial⟩ trivial) Tryz.func68 (by kernel_rfl) (by kernel_rfl) (by kernel_rfl)
  (by rw[show loopsOf (bodyOf Tryz.f68)=[] from by kernel_rfl];exact trivial) (fun x=>ef_strings_TrimSuffix x.1 x.2.1)
noncomputable def pl_I_plain:Plan:=⟨[],[],0,0⟩
noncomputable def f_I_plain (t0:PV .str):Option (PVs [.str]×PVs []):=(f_strings_TrimSuffix t0 [10]).bind fun r1=>some ((r1.1.1,()),())
noncomputable def ct_I_plain:Ct:=⟨[(.bor,.str)],[(.str,.b)],fun x=>f_I_plain x.1⟩
noncomputable def cx_I_plain:Cx:=⟨tab,arrs,[(68,ct_strings_TrimSuffix)],[],gl,[]⟩
theorem ef_I_plain (t0:PV .str):denF cx_I_plain 0 pl_I_plain Tryz.f44.ntmps (bodyOf Tryz.f44) Tryz.f44.results.toList [(.bor,.str)] [(.str,.b)] (t0,())=f_I_plain t0:=by kernel_rfl
theorem ok_I_plain:FnOk gl Tryz.prog 44 ct_I_plain:=
 fnOk (cx:=cx_I_plain) (pl:=pl_I_plain) (dp:=0) (ok0_of tabOk (by unfold ArrOk;kernel_rfl) mix ⟨ok_strings_TrimSuffix,trivial⟩ trivial) Tryz.func44 (by kernel_rfl) (by kernel_rfl) (by kernel_rfl)
  (by rw[show loopsOf (bodyOf Tryz.f44)=[] from by kernel_rfl];exact trivial) (fun x=>ef_I_plain x.1)
noncomputable def sh_slices_Index_string_2:List Sh:=mkSh 19 [(0,.val S_string .b),(1,.val .str .b),(7,.val (.int .i64) .b),(8,.val (.int .i64) .b)]
noncomputable def o_slices_Index_string_2:List Out:=[⟨.exit 0,⟨[],[],[]⟩,mkSh 19 []⟩,⟨.ret,⟨[],[4],[]⟩,mkSh 19 [(4,.val (.int .i64) .b)]⟩]
noncomputable def b_slices_Index_string_2 (t0:PV S_string)(t1:PV .str)(t7:PV (.int .i64))(t8:PV (.int .i64)):Option ((PV S_string×PV .str×PV (.int .i64)×PV (.int .i64)×Unit)⊕((Unit)⊕(PV (.int .i64)×Unit))):=bif (decide (t8<t7)) then bif inB t8 t0.length then bif (t1==(t0.getD t8.toNat [])) then some (.inr (.inr (t8,()))) else some (.inl (t0,t1,t7,(IntKind.wrap .i64 (t8+1)),())) else none else some (.inr (.inl ()))
noncomputable def w_slices_Index_string_2:PV S_string×PV .str×PV (.int .i64)×PV (.int .i64)×Unit→Option ((Unit)⊕(PV (.int .i64)×Unit)):=fix fun d=>b_slices_Index_string_2 d.1 d.2.1 d.2.2.1 d.2.2.2.1
noncomputable def lp_slices_Index_string_2:Lp:=⟨⟨[],[0,1,7,8],[]⟩,sh_slices_Index_string_2,o_slices_Index_string_2,fun d=>b_slices_Index_string_2 d.1 d.2.1 d.2.2.1 d.2.2.2.1⟩
noncomputable def pl_slices_Index_string:Plan:=⟨[],[(2,lp_slices_Index_string_2)],0,0⟩
noncomputable def f_slices_Index_string (t0:PV S_string)(t1:PV .str):Option (PVs [(.int .i64)]×PVs []):=
 (w_slices_Index_string_2 (t0,t1,(t0.length:Int),0,())).bind fun x5=>
   match x5 with
   | .inl l3=>
     some (((-1),()),())
   | .inr l4=>
     some ((l4.1,()),())
noncomputable def ct_slices_Index_string:Ct:=⟨[(.bor,S_string),(.bor,.str)],[((.int .i64),.b)],fun x=>f_slices_Index_string x.1 x.2.1⟩
noncomputable def cx_slices_Index_string:Cx:=⟨tab,arrs,[],[],gl,[]⟩
theorem eb_slices_Index_string_2 (t0:PV S_string)(t1:PV .str)(t7:PV (.int .i64))(t8:PV (.int .i64)):denK cx_slices_Index_string (rcN cx_slices_Index_string 0) pl_slices_Index_string 0 ((loopsOf (bodyOf Tryz.f46)).getD 0 .skip) (fillS sh_slices_Index_string_2 (t0,t1,t7,t8,())) (roundK 0 lp_slices_Index_string_2)=b_slices_Index_string_2 t0 t1 t7 t8:=by kernel_rfl
theorem ef_slices_Index_string (t0:PV S_string)(t1:PV .str):denF cx_slices_Index_string 0 pl_slices_Index_string Tryz.f46.ntmps (bodyOf Tryz.f46) Tryz.f46.results.toList [(.bor,S_string),(.bor,.str)] [((.int .i64),.b)] (t0,t1,())=f_slices_Index_string t0 t1:=by kernel_rfl
theorem ok_slices_Index_string:FnOk gl Tryz.prog 46 ct_slices_Index_string:=
 fnOk (cx:=cx_slices_Index_string) (pl:=pl_slices_Index_string) (dp:=0) (ok0_of tabOk (by unfold ArrOk;kernel_rfl) mix trivial trivial) Tryz.func46 (by kernel_rfl) (by kernel_rfl) (by kernel_rfl)
  (by rw[show loopsOf (bodyOf Tryz.f46)=[((loopsOf (bodyOf Tryz.f46)).getD 0 .skip)] from by kernel_rfl];exact⟨(by rw[show lookup pl_slices_Index_string.loops (firstId ((loopsOf (bodyOf Tryz.f46)).getD 0 .skip))=some lp_slices_Index_string_2 from by kernel_rfl];exact fun d z h=>(eb_slices_Index_string_2 d.1 d.2.1 d.2.2.1 d.2.2.2.1).trans h),trivial⟩) (fun x=>ef_slices_Index_string x.1 x.2.1)
noncomputable def pl_internal_stringslite_Cut:Plan:=⟨[],[],0,0⟩
noncomputable def f_internal_stringslite_Cut (t0:PV .str)(t1:PV .str):Option (PVs [.str,.str,.bool]×PVs []):=(f_internal_stringslite_Index t0 t1).bind fun r4=>bif (decide (r4.1.1≥0)) then bif cutB 0 r4.1.1 t0.length then bif cutB (IntKind.wrap .i64 (r4.1.1+(t1.length:Int))) (t0.length:Int) t0.length then some (((cutL 0 r4.1.1 t0),(cutL (IntKind.wrap .i64 (r4.1.1+(t1.length:Int))) (t0.length:Int) t0),true,()),()) else none else none else some ((t0,[],false,()),())
noncomputable def ct_internal_stringslite_Cut:Ct:=⟨[(.bor,.str),(.bor,.str)],[(.str,.b),(.str,.b),(.bool,.b)],fun x=>f_internal_stringslite_Cut x.1 x.2.1⟩
noncomputable def cx_internal_stringslite_Cut:Cx:=⟨tab,arrs,[(113,ct_internal_stringslite_Index)],[],gl,[]⟩
theorem ef_internal_stringslite_Cut (t0:PV .str)(t1:PV .str):denF cx_internal_stringslite_Cut 0 pl_internal_stringslite_Cut Tryz.f98.ntmps (bodyOf Tryz.f98) Tryz.f98.results.toList [(.bor,.str),(.bor,.str)] [(.str,.b),(.str,.b),(.bool,.b)] (t0,t1,())=f_internal_stringslite_Cut t0 t1:=by kernel_rfl
theorem ok_internal_stringslite_Cut:FnOk gl Tryz.prog 98 ct_internal_stringslite_Cut:=
 fnOk (cx:=cx_internal_stringslite_Cut) (pl:=pl_internal_stringslite_Cut) (dp:=0) (ok0_of tabOk (by unfold ArrOk;kernel_rfl) mix ⟨ok_internal_stringslite_Index,trivial⟩ trivial) Tryz.func98 (by kernel_rfl) (by kernel_rfl) (by kernel_rfl)
  (by rw[show loopsOf (bodyOf Tryz.f98)=[] from by kernel_rfl];exact trivial) (fun x=>ef_internal_stringslite_Cut x.1 x.2.1)
noncomputable def pl_strings_Cut:Plan:=⟨[],[],0,0⟩
noncomputable def f_strings_Cut (t0:PV .str)(t1:PV .str):Option (PVs [.str,.str,.bool]×PVs []):=(f_internal_stringslite_Cut t0 t1).bind fun r1=>some ((r1.1.1,r1.1.2.1,r1.1.2.2.1,()),())
noncomputable def ct_strings_Cut:Ct:=⟨[(.bor,.str),(.bor,.str)],[(.str,.b),(.str,.b),(.bool,.b)],fun x=>f_strings_Cut x.1 x.2.1⟩
noncomputable def cx_strings_Cut:Cx:=⟨tab,arrs,[(98,ct_internal_stringslite_Cut)],[],gl,[]⟩
theorem ef_strings_Cut (t0:PV .str)(t1:PV .str):denF cx_strings_Cut 0 pl_strings_Cut Tryz.f73.ntmps (bodyOf Tryz.f73) Tryz.f73.results.toList [(.bor,.str),(.bor,.str)] [(.str,.b),(.str,.b),(.bool,.b)] (t0,t1,())=f_strings_Cut t0 t1:=by kernel_rfl
theorem ok_strings_Cut:FnOk gl Tryz.prog 73 ct_strings_Cut:=
 fnOk (cx:=cx_strings_Cut) (pl:=pl_strings_Cut) (dp:=0) (ok0_of tabOk (by unfold ArrOk;kernel_rfl) mix ⟨ok_internal_stringslite_Cut,trivial⟩ trivial) Tryz.func73 (by kernel_rfl) (by kernel_rfl) (by kernel_rfl)
  (by rw[show loopsOf (bodyOf Tryz.f73)=[] from by kernel_rfl];exact trivial) (fun x=>ef_strings_Cut x.1 x.2.1)
noncomputable def pl_I_readTwo:Plan:=⟨[],[],0,0⟩
noncomputable def f_I_readTwo (t0:PV .str):Option (PVs [(.int .i64),(.int .i64),.bool,.bool]×PVs []):=(f_strings_Cut t0 [44]).bind fun r2=>(f_I_readNumber r2.1.1).bind fun r4=>bif (!r2.1.2.2.1) then some ((r4.1.1,r4.1.1,false,r4.1.2.1,()),()) else(f_I_readNumber r2.1.2.1).bind fun r6=>bif r4.1.2.1 then some ((r4.1.1,r6.1.1,true,r6.1.2.1,()),()) else some ((r4.1.1,r6.1.1,true,false,()),())
noncomputable def ct_I_readTwo:Ct:=⟨[(.bor,.str)],[((.int .i64),.b),((.int .i64),.b),(.bool,.b),(.bool,.b)],fun x=>f_I_readTwo x.1⟩
noncomputable def cx_I_readTwo:Cx:=⟨tab,arrs,[(73,ct_strings_Cut),(74,ct_I_readNumber)],[],gl,[]⟩
theorem ef_I_readTwo (t0:PV .str):denF cx_I_readTwo 0 pl_I_readTwo Tryz.f47.ntmps (bodyOf Tryz.f47) Tryz.f47.results.toList [(.bor,.str)] [((.int .i64),.b),((.int .i64),.b),(.bool,.b),(.bool,.b)] (t0,())=f_I_readTwo t0:=by kernel_rfl
theorem ok_I_readTwo:FnOk gl Tryz.prog 47 ct_I_readTwo:=
 fnOk (cx:=cx_I_readTwo) (pl:=pl_I_readTwo) (dp:=0) (ok0_of tabOk (by unfold ArrOk;kernel_rfl) mix ⟨ok_strings_Cut,ok_I_readNumber,trivial⟩ trivial) Tryz.func47 (by kernel_rfl) (by kernel_rfl) (by kernel_rfl)
  (by rw[show loopsOf (bodyOf Tryz.f47)=[] from by kernel_rfl];exact trivial) (fun x=>ef_I_readTwo x.1)
noncomputable def o_I_readOrders_7:List Out:=[⟨.normal,⟨[],[0,4,5,6,28,49,50,51],[]⟩,mkSh 74 [(0,.val S_string .b),(4,.val S_impl_Order (.row (.pr .b (.pr .b (.pr .b (.pr (.row .b) .b)))))),(5,.val .str .b),(6,.val (.int .i64) .b),(28,.val .bool .b)]⟩]
noncomputable def o_I_readOrders_11:List Out:=[⟨.normal,⟨[],[0,4,7,25,26,27,52],[]⟩,mkSh 74 [(0,.val S_string .b),(4,.val S_impl_Order (.row (.pr .b (.pr .b (.pr .b (.pr (.row .b) .b)))))),(7,.var Y_impl_Order (.pr .b (.pr .b (.pr .b (.pr (.row .b) .b))))),(52,.val .bool .b)]⟩]
noncomputable def o_I_readOrders_17:List Out:=[⟨.normal,⟨[],[0,4,7,25,26,27,49,50,51],[]⟩,mkSh 74 [(0,.val S_string .b),(4,.val S_impl_Order (.row (.pr .b (.pr .b (.pr .b (.pr (.row .b) .b)))))),(7,.var Y_impl_Order (.pr .b (.pr .b (.pr .b (.pr (.row .b) .b)))))]⟩,⟨.ret,⟨[],[2,3],[]⟩,mkSh 74 [(2,.val S_impl_Order (.row (.pr .b (.pr .b (.pr .b (.pr (.row .b) .b)))))),(3,.val .bool .b)]⟩]
noncomputable def sh_I_readOrders_2:List Sh:=mkSh 74 [(0,.val S_string .b),(4,.val S_impl_Order (.row (.pr .b (.pr .b (.pr .b (.pr (.row .b) .b))))))]
noncomputable def o_I_readOrders_2:List Out:=[⟨.exit 0,⟨[],[4],[]⟩,mkSh 74 [(4,.val S_impl_Order (.row (.pr .b (.pr .b (.pr .b (.pr (.row .b) .b))))))]⟩,⟨.ret,⟨[],[2,3],[]⟩,mkSh 74 [(2,.val S_impl_Order (.row (.pr .b (.pr .b (.pr .b (.pr (.row .b) .b)))))),(3,.val .bool .b)]⟩]
noncomputable def b_I_readOrders_2 (t0:PV S_string)(t4:PV S_impl_Order):Option ((PV S_string×PV S_impl_Order×Unit)⊕((PV S_impl_Order×Unit)⊕(PV S_impl_Order×PV .bool×Unit))):=
 bif (decide ((t0.length:Int)>0)) then
  bif inB 0 t0.length then
   (f_I_plain (t0.getD ((0:Int).toNat) [])).bind fun r2=>
     bif cutB 1 (t0.length:Int) t0.length then
      (f_strings_IndexAny r2.1.1 [97,105,99,100,115]).bind fun r4=>
        ((
          bif (decide (r4.1.1<0)) then
           some ((cutL 1 (t0.length:Int) t0),t4,r2.1.1,r4.1.1,true,())
          else
           some ((cutL 1 (t0.length:Int) t0),t4,r2.1.1,r4.1.1,((t4.length:Int)==60),()):Option ((PV S_string×PV S_impl_Order×PV .str×PV (.int .i64)×PV .bool×Unit)))).bind fun j6=>
          bif j6.2.2.2.2.1 then
           some (.inr (.inr ([],false,())))
          else
           bif cutB j6.2.2.2.1 (j6.2.2.1.length:Int) j6.2.2.1.length then
            (f_slices_Index_string gs0 (cutL j6.2.2.2.1 (j6.2.2.1.length:Int) j6.2.2.1)).bind fun r8=>
              bif cutB 0 j6.2.2.2.1 j6.2.2.1.length then
               (f_I_readTwo (cutL 0 j6.2.2.2.1 j6.2.2.1)).bind fun r10=>
                 ((
                   bif (!r10.1.2.2.2.1) then
                    some (j6.1,j6.2.1,(r8.1.1,(r10.1.1,(r10.1.2.1,(([]:PV S_string),())))),true,())
                   else
                    some (j6.1,j6.2.1,(r8.1.1,(r10.1.1,(r10.1.2.1,(([]:PV S_string),())))),(decide (r8.1.1<1)),()):Option ((PV S_string×PV S_impl_Order×PV Y_impl_Order×PV .bool×Unit)))).bind fun j12=>
                   bif j12.2.2.2.1 then
                    some (.inr (.inr ([],false,())))
                   else
                    ((
                      bif (decide (j12.2.2.1.1≤3)) then
                       (f_slices_Index_string j12.1 [46,10]).bind fun r14=>
                         bif (decide (r14.1.1<0)) then
                          some (.inr ([],false,()))
                         else
                          bif cutB 0 r14.1.1 j12.1.length then
                           (f_slices_Clone_string (cutL 0 r14.1.1 j12.1)).bind fun r15=>
                             bif cutB (IntKind.wrap .i64 (r14.1.1+1)) (j12.1.length:Int) j12.1.length then
                              some (.inl ((cutL (IntKind.wrap .i64 (r14.1.1+1)) (j12.1.length:Int) j12.1),j12.2.1,(j12.2.2.1.1,(j12.2.2.1.2.1,(j12.2.2.1.2.2.1,(r15.1.1,j12.2.2.1.2.2.2.2)))),()))
                             else
                              none
                          else
                           none
                      else
                       some (.inl (j12.1,j12.2.1,j12.2.2.1,())):Option ((PV S_string×PV S_impl_Order×PV Y_impl_Order×Unit)⊕(PV S_impl_Order×PV .bool×Unit)))).bind fun x22=>
                      match x22 with
                      | .inl j16=>
                        bif roomB (j16.2.1.length+[j16.2.2.1].length) then
                         some (.inl (j16.1,(j16.2.1++[j16.2.2.1]),()))
                        else
                         none
                      | .inr j17=>
                        some (.inr (.inr (j17.1,j17.2.1,())))
              else
               none
           else
            none
     else
      none
  else
   none
 else
  some (.inr (.inl (t4,())))
noncomputable def w_I_readOrders_2:PV S_string×PV S_impl_Order×Unit→Option ((PV S_impl_Order×Unit)⊕(PV S_impl_Order×PV .bool×Unit)):=fix fun d=>b_I_readOrders_2 d.1 d.2.1
noncomputable def lp_I_readOrders_2:Lp:=⟨⟨[],[0,4,25,26,27,49,50,51],[]⟩,sh_I_readOrders_2,o_I_readOrders_2,fun d=>b_I_readOrders_2 d.1 d.2.1⟩
noncomputable def pl_I_readOrders:Plan:=⟨[(7,o_I_readOrders_7),(11,o_I_readOrders_11),(17,o_I_readOrders_17)],[(2,lp_I_readOrders_2)],0,0⟩
noncomputable def f_I_readOrders (t0:PV S_string):Option (PVs [S_impl_Order,.bool]×PVs []):=
 (w_I_readOrders_2 (t0,([]:PV S_impl_Order),())).bind fun x23=>
   match x23 with
   | .inl l20=>
     some ((l20.1,true,()),())
   | .inr l21=>
     some ((l21.1,l21.2.1,()),())
noncomputable def ct_I_readOrders:Ct:=⟨[(.bor,S_string)],[(S_impl_Order,(.row (.pr .b (.pr .b (.pr .b (.pr (.row .b) .b)))))),(.bool,.b)],fun x=>f_I_readOrders x.1⟩
noncomputable def cx_I_readOrders:Cx:=⟨tab,arrs,[(44,ct_I_plain),(45,ct_strings_IndexAny),(46,ct_slices_Index_string),(47,ct_I_readTwo),(48,ct_slices_Clone_string)],[],gl,[]⟩
theorem eb_I_readOrders_2 (t0:PV S_string)(t4:PV S_impl_Order):denK cx_I_readOrders (rcN cx_I_readOrders 0) pl_I_readOrders 0 ((loopsOf (bodyOf Tryz.f23)).getD 0 .skip) (fillS sh_I_readOrders_2 (t0,t4,())) (roundK 0 lp_I_readOrders_2)=b_I_readOrders_2 t0 t4:=by kernel_rfl
theorem ef_I_readOrders (t0:PV S_string):denF cx_I_readOrders 0 pl_I_readOrders Tryz.f23.ntmps (bodyOf Tryz.f23) Tryz.f23.results.toList [(.bor,S_string)] [(S_impl_Order,(.row (.pr .b (.pr .b (.pr .b (.pr (.row .b) .b)))))),(.bool,.b)] (t0,())=f_I_readOrders t0:=by kernel_rfl
theorem ok_I_readOrders:FnOk gl Tryz.prog 23 ct_I_readOrders:=
 fnOk (cx:=cx_I_readOrders) (pl:=pl_I_readOrders) (dp:=0) (ok0_of tabOk (by unfold ArrOk;kernel_rfl) mix ⟨ok_I_plain,ok_strings_IndexAny,ok_slices_Index_string,ok_I_readTwo,ok_slices_Clone_string,trivial⟩ trivial) Tryz.func23 (by kernel_rfl) (by kernel_rfl) (by kernel_rfl)
  (by rw[show loopsOf (bodyOf Tryz.f23)=[((loopsOf (bodyOf Tryz.f23)).getD 0 .skip)] from by kernel_rfl];exact⟨(by rw[show lookup pl_I_readOrders.loops (firstId ((loopsOf (bodyOf Tryz.f23)).getD 0 .skip))=some lp_I_readOrders_2 from by kernel_rfl];exact fun d z h=>(eb_I_readOrders_2 d.1 d.2.1).trans h),trivial⟩) (fun x=>ef_I_readOrders x.1)
noncomputable def o_I_ReadOrders_5:List Out:=[⟨.normal,⟨[],[5,31],[]⟩,mkSh 33 [(5,.val S_impl_Order (.row (.pr .b (.pr .b (.pr .b (.pr (.row .b) .b)))))),(31,.val .bool .b)]⟩]
noncomputable def o_I_ReadOrders_6:List Out:=[⟨.normal,⟨[],[],[]⟩,mkSh 33 []⟩,⟨.ret,⟨[],[2,3,4],[]⟩,mkSh 33 [(2,.val S_impl_Order (.row (.pr .b (.pr .b (.pr .b (.pr (.row .b) .b)))))),(3,.val (.int .i64) .b),(4,.val .bool .b)]⟩]
noncomputable def pl_I_ReadOrders:Plan:=⟨[(5,o_I_ReadOrders_5),(6,o_I_ReadOrders_6)],[],0,0⟩
noncomputable def f_I_ReadOrders (t0:PV .str):Option (PVs [S_impl_Order,(.int .i64),.bool]×PVs []):=
 ((
   bif (decide ((t0.length:Int)≤3000)) then
    (f_I_linesOf t0).bind fun r10=>
      (f_I_readOrders r10.1.1).bind fun r11=>
        (f_I_OrdersText r11.1.1).bind fun r13=>
          ((
            bif r11.1.2.1 then
             bif r13.1.2.1 then
              some (r11.1.1,(r13.1.1==t0),())
             else
              some (r11.1.1,false,())
            else
             some (r11.1.1,false,()):Option ((PV S_impl_Order×PV .bool×Unit)))).bind fun j14=>
            bif j14.2.1 then
             some (.inr (j14.1,0,true,()))
            else
             some (.inl ())
   else
    some (.inl ()):Option ((Unit)⊕(PV S_impl_Order×PV (.int .i64)×PV .bool×Unit)))).bind fun x17=>
   match x17 with
   | .inl j15=>
     some (([],1,false,()),())
   | .inr j16=>
     some ((j16.1,j16.2.1,j16.2.2.1,()),())
noncomputable def ct_I_ReadOrders:Ct:=⟨[(.bor,.str)],[(S_impl_Order,(.row (.pr .b (.pr .b (.pr .b (.pr (.row .b) .b)))))),((.int .i64),.b),(.bool,.b)],fun x=>f_I_ReadOrders x.1⟩
noncomputable def cx_I_ReadOrders:Cx:=⟨tab,arrs,[(12,ct_I_OrdersText),(23,ct_I_readOrders),(24,ct_I_linesOf)],[],gl,[]⟩
theorem ef_I_ReadOrders (t0:PV .str):denF cx_I_ReadOrders 0 pl_I_ReadOrders Tryz.f6.ntmps (bodyOf Tryz.f6) Tryz.f6.results.toList [(.bor,.str)] [(S_impl_Order,(.row (.pr .b (.pr .b (.pr .b (.pr (.row .b) .b)))))),((.int .i64),.b),(.bool,.b)] (t0,())=f_I_ReadOrders t0:=by kernel_rfl
theorem ok_I_ReadOrders:FnOk gl Tryz.prog 6 ct_I_ReadOrders:=
 fnOk (cx:=cx_I_ReadOrders) (pl:=pl_I_ReadOrders) (dp:=0) (ok0_of tabOk (by unfold ArrOk;kernel_rfl) mix ⟨ok_I_OrdersText,ok_I_readOrders,ok_I_linesOf,trivial⟩ trivial) Tryz.func6 (by kernel_rfl) (by kernel_rfl) (by kernel_rfl)
  (by rw[show loopsOf (bodyOf Tryz.f6)=[] from by kernel_rfl];exact trivial) (fun x=>ef_I_ReadOrders x.1)
noncomputable def sh_L_sameTexts_4:List Sh:=mkSh 26 [(0,.val S_string .b),(1,.val S_string .b),(12,.val (.int .i64) .b),(13,.val (.int .i64) .b)]
noncomputable def o_L_sameTexts_4:List Out:=[⟨.exit 0,⟨[],[],[]⟩,mkSh 26 []⟩,⟨.ret,⟨[],[4],[]⟩,mkSh 26 [(4,.val .bool .b)]⟩]
noncomputable def b_L_sameTexts_4 (t0:PV S_string)(t1:PV S_string)(t12:PV (.int .i64))(t13:PV (.int .i64)):Option ((PV S_string×PV S_string×PV (.int .i64)×PV (.int .i64)×Unit)⊕((Unit)⊕(PV .bool×Unit))):=bif (decide (t13<t12)) then bif inB t13 t0.length then bif inB t13 t1.length then bif (!((t0.getD t13.toNat [])==(t1.getD t13.toNat []))) then some (.inr (.inr (false,()))) else some (.inl (t0,t1,t12,(IntKind.wrap .i64 (t13+1)),())) else none else none else some (.inr (.inl ()))
noncomputable def w_L_sameTexts_4:PV S_string×PV S_string×PV (.int .i64)×PV (.int .i64)×Unit→Option ((Unit)⊕(PV .bool×Unit)):=fix fun d=>b_L_sameTexts_4 d.1 d.2.1 d.2.2.1 d.2.2.2.1
noncomputable def lp_L_sameTexts_4:Lp:=⟨⟨[],[0,1,12,13],[]⟩,sh_L_sameTexts_4,o_L_sameTexts_4,fun d=>b_L_sameTexts_4 d.1 d.2.1 d.2.2.1 d.2.2.2.1⟩
noncomputable def pl_L_sameTexts:Plan:=⟨[],[(4,lp_L_sameTexts_4)],0,0⟩
noncomputable def f_L_sameTexts (t0:PV S_string)(t1:PV S_string):Option (PVs [.bool]×PVs []):=
 bif (!((t0.length:Int)==(t1.length:Int))) then
  some ((false,()),())
 else
  (w_L_sameTexts_4 (t0,t1,(t0.length:Int),0,())).bind fun x5=>
    match x5 with
    | .inl l3=>
      some ((true,()),())
    | .inr l4=>
      some ((l4.1,()),())
noncomputable def ct_L_sameTexts:Ct:=⟨[(.bor,S_string),(.bor,S_string)],[(.bool,.b)],fun x=>f_L_sameTexts x.1 x.2.1⟩
noncomputable def cx_L_sameTexts:Cx:=⟨tab,arrs,[],[],gl,[]⟩
theorem eb_L_sameTexts_4 (t0:PV S_string)(t1:PV S_string)(t12:PV (.int .i64))(t13:PV (.int .i64)):denK cx_L_sameTexts (rcN cx_L_sameTexts 0) pl_L_sameTexts 0 ((loopsOf (bodyOf Tryz.f33)).getD 0 .skip) (fillS sh_L_sameTexts_4 (t0,t1,t12,t13,())) (roundK 0 lp_L_sameTexts_4)=b_L_sameTexts_4 t0 t1 t12 t13:=by kernel_rfl
theorem ef_L_sameTexts (t0:PV S_string)(t1:PV S_string):denF cx_L_sameTexts 0 pl_L_sameTexts Tryz.f33.ntmps (bodyOf Tryz.f33) Tryz.f33.results.toList [(.bor,S_string),(.bor,S_string)] [(.bool,.b)] (t0,t1,())=f_L_sameTexts t0 t1:=by kernel_rfl
theorem ok_L_sameTexts:FnOk gl Tryz.prog 33 ct_L_sameTexts:=
 fnOk (cx:=cx_L_sameTexts) (pl:=pl_L_sameTexts) (dp:=0) (ok0_of tabOk (by unfold ArrOk;kernel_rfl) mix trivial trivial) Tryz.func33 (by kernel_rfl) (by kernel_rfl) (by kernel_rfl)
  (by rw[show loopsOf (bodyOf Tryz.f33)=[((loopsOf (bodyOf Tryz.f33)).getD 0 .skip)] from by kernel_rfl];exact⟨(by rw[show lookup pl_L_sameTexts.loops (firstId ((loopsOf (bodyOf Tryz.f33)).getD 0 .skip))=some lp_L_sameTexts_4 from by kernel_rfl];exact fun d z h=>(eb_L_sameTexts_4 d.1 d.2.1 d.2.2.1 d.2.2.2.1).trans h),trivial⟩) (fun x=>ef_L_sameTexts x.1 x.2.1)
noncomputable def o_L_sameOrders_7:List Out:=[⟨.normal,⟨[],[1,6,12,13,14,57],[]⟩,mkSh 59 [(1,.val S_impl_Order .b),(6,.var Y_impl_Order .b),(12,.val S_impl_Order .b),(13,.val (.int .i64) .b),(14,.val (.int .i64) .b),(57,.val .bool .b)]⟩]
noncomputable def sh_L_sameOrders_4:List Sh:=mkSh 59 [(1,.val S_impl_Order .b),(12,.val S_impl_Order .b),(13,.val (.int .i64) .b),(14,.val (.int .i64) .b)]
noncomputable def o_L_sameOrders_4:List Out:=[⟨.exit 0,⟨[],[],[]⟩,mkSh 59 []⟩,⟨.ret,⟨[],[4],[]⟩,mkSh 59 [(4,.val .bool .b)]⟩]
noncomputable def b_L_sameOrders_4 (t1:PV S_impl_Order)(t12:PV S_impl_Order)(t13:PV (.int .i64))(t14:PV (.int .i64)):Option ((PV S_impl_Order×PV S_impl_Order×PV (.int .i64)×PV (.int .i64)×Unit)⊕((Unit)⊕(PV .bool×Unit))):=bif (decide (t14<t13)) then bif inB t14 t12.length then((bif inB t14 t1.length then bif (!(((t12.getD t14.toNat (dflt Y_impl_Order)).1)==((t1.getD t14.toNat (dflt Y_impl_Order)).1))) then some (t1,(t12.getD t14.toNat (dflt Y_impl_Order)),t12,t13,t14,true,()) else bif inB t14 t1.length then bif (!((((t12.getD t14.toNat (dflt Y_impl_Order)).2).1)==(((t1.getD t14.toNat (dflt Y_impl_Order)).2).1))) then some (t1,(t12.getD t14.toNat (dflt Y_impl_Order)),t12,t13,t14,true,()) else bif inB t14 t1.length then bif (!(((((t12.getD t14.toNat (dflt Y_impl_Order)).2).2).1)==((((t1.getD t14.toNat (dflt Y_impl_Order)).2).2).1))) then some (t1,(t12.getD t14.toNat (dflt Y_impl_Order)),t12,t13,t14,true,()) else bif inB t14 t1.length then(f_L_sameTexts (((((t12.getD t14.toNat (dflt Y_impl_Order)).2).2).2).1) (((((t1.getD t14.toNat (dflt Y_impl_Order)).2).2).2).1)).bind fun r3=>some (t1,(t12.getD t14.toNat (dflt Y_impl_Order)),t12,t13,t14,(!r3.1.1),()) else none else none else none else none:Option ((PV S_impl_Order×PV Y_impl_Order×PV S_impl_Order×PV (.int .i64)×PV (.int .i64)×PV .bool×Unit)))).bind fun j4=>bif j4.2.2.2.2.2.1 then some (.inr (.inr (false,()))) else some (.inl (j4.1,j4.2.2.1,j4.2.2.2.1,(IntKind.wrap .i64 (j4.2.2.2.2.1+1)),())) else none else some (.inr (.inl ()))
noncomputable def w_L_sameOrders_4:PV S_impl_Order×PV S_impl_Order×PV (.int .i64)×PV (.int .i64)×Unit→Option ((Unit)⊕(PV .bool×Unit)):=fix fun d=>b_L_sameOrders_4 d.1 d.2.1 d.2.2.1 d.2.2.2.1
noncomputable def lp_L_sameOrders_4:Lp:=⟨⟨[],[1,12,13,14,28,29,30,31,32,33,34,35,38,39,40,41,42,43,44,45,48,49,50,51,52,53,54,55,56],[]⟩,sh_L_sameOrders_4,o_L_sameOrders_4,fun d=>b_L_sameOrders_4 d.1 d.2.1 d.2.2.1 d.2.2.2.1⟩
noncomputable def pl_L_sameOrders:Plan:=⟨[(7,o_L_sameOrders_7)],[(4,lp_L_sameOrders_4)],0,0⟩
noncomputable def f_L_sameOrders (t0:PV S_impl_Order)(t1:PV S_impl_Order):Option (PVs [.bool]×PVs []):=
 bif (!((t0.length:Int)==(t1.length:Int))) then
  some ((false,()),())
 else
  (w_L_sameOrders_4 (t1,t0,(t0.length:Int),0,())).bind fun x9=>
    match x9 with
    | .inl l7=>
      some ((true,()),())
    | .inr l8=>
      some ((l8.1,()),())
noncomputable def ct_L_sameOrders:Ct:=⟨[(.bor,S_impl_Order),(.bor,S_impl_Order)],[(.bool,.b)],fun x=>f_L_sameOrders x.1 x.2.1⟩
noncomputable def cx_L_sameOrders:Cx:=⟨tab,arrs,[(33,ct_L_sameTexts)],[],gl,[]⟩
theorem eb_L_sameOrders_4 (t1:PV S_impl_Order)(t12:PV S_impl_Order)(t13:PV (.int .i64))(t14:PV (.int .i64)):denK cx_L_sameOrders (rcN cx_L_sameOrders 0) pl_L_sameOrders 0 ((loopsOf (bodyOf Tryz.f16)).getD 0 .skip) (fillS sh_L_sameOrders_4 (t1,t12,t13,t14,())) (roundK 0 lp_L_sameOrders_4)=b_L_sameOrders_4 t1 t12 t13 t14:=by kernel_rfl
theorem ef_L_sameOrders (t0:PV S_impl_Order)(t1:PV S_impl_Order):denF cx_L_sameOrders 0 pl_L_sameOrders Tryz.f16.ntmps (bodyOf Tryz.f16) Tryz.f16.results.toList [(.bor,S_impl_Order),(.bor,S_impl_Order)] [(.bool,.b)] (t0,t1,())=f_L_sameOrders t0 t1:=by kernel_rfl
theorem ok_L_sameOrders:FnOk gl Tryz.prog 16 ct_L_sameOrders:=
 fnOk (cx:=cx_L_sameOrders) (pl:=pl_L_sameOrders) (dp:=0) (ok0_of tabOk (by unfold ArrOk;kernel_rfl) mix ⟨ok_L_sameTexts,trivial⟩ trivial) Tryz.func16 (by kernel_rfl) (by kernel_rfl) (by kernel_rfl)
  (by rw[show loopsOf (bodyOf Tryz.f16)=[((loopsOf (bodyOf Tryz.f16)).getD 0 .skip)] from by kernel_rfl];exact⟨(by rw[show lookup pl_L_sameOrders.loops (firstId ((loopsOf (bodyOf Tryz.f16)).getD 0 .skip))=some lp_L_sameOrders_4 from by kernel_rfl];exact fun d z h=>(eb_L_sameOrders_4 d.1 d.2.1 d.2.2.1 d.2.2.2.1).trans h),trivial⟩) (fun x=>ef_L_sameOrders x.1 x.2.1)
noncomputable def o_S_l1Cur_spoilt_3:List Out:=[⟨.normal,⟨[],[0,1,2,7,16,17,18],[]⟩,mkSh 69 [(0,.var Y_spec_l1Cur .b),(1,.addr ⟨0,[],0,0⟩),(2,.val .str .b),(3,.val .str .b),(8,.val (.int .i64) .b),(17,.val .str .b),(18,.val (.int .i64) .b),(19,.val .bool .b)]⟩]
noncomputable def sh_S_l1Cur_spoilt_2:List Sh:=mkSh 69 [(0,.var Y_spec_l1Cur .b),(1,.addr ⟨0,[],0,0⟩),(2,.val .str .b),(3,.val .str .b),(8,.val (.int .i64) .b)]
noncomputable def o_S_l1Cur_spoilt_2:List Out:=[⟨.exit 0,⟨[],[1],[]⟩,mkSh 69 [(0,.var Y_spec_l1Cur .b),(2,.val .str .b)]⟩]
noncomputable def b_S_l1Cur_spoilt_2 (t0:PV Y_spec_l1Cur)(t2:PV .str)(t3:PV .str)(t8:PV (.int .i64)):Option ((PV Y_spec_l1Cur×PV .str×PV .str×PV (.int .i64)×Unit)⊕((PV Y_spec_l1Cur×PV .str×Unit))):=bif (decide (t8>0)) then bif (decide ((t2.length:Int)>0)) then(((f_S_l1Cur_pick t0 (t2.length:Int)).bind fun r17=>(f_S_l1Cur_pick r17.2.1 (t3.length:Int)).bind fun r19=>bif inB r19.1.1 t3.length then(f_S_l1Cur_pick r19.2.1 3).bind fun r21=>bif (r21.1.1==0) then bif cutB 0 r17.1.1 t2.length then bif decide ((cutL 0 r17.1.1 t2).length+(bytesOfInts [((t3.getD r19.1.1.toNat 0).toNat:Int)]).length≤1099511627776) then bif cutB r17.1.1 (t2.length:Int) t2.length then bif decide (((cutL 0 r17.1.1 t2)++(bytesOfInts [((t3.getD r19.1.1.toNat 0).toNat:Int)])).length+(cutL r17.1.1 (t2.length:Int) t2).length≤1099511627776) then some (r21.2.1,(((cutL 0 r17.1.1 t2)++(bytesOfInts [((t3.getD r19.1.1.toNat 0).toNat:Int)]))++(cutL r17.1.1 (t2.length:Int) t2)),t3,t8,t2,(t2.length:Int),(decide ((t2.length:Int)>0)),()) else none else none else none else none else bif (r21.1.1==1) then bif cutB 0 r17.1.1 t2.length then bif decide ((cutL 0 r17.1.1 t2).length+(bytesOfInts [((t3.getD r19.1.1.toNat 0).toNat:Int)]).length≤1099511627776) then bif cutB (IntKind.wrap .i64 (r17.1.1+1)) (t2.length:Int) t2.length then bif decide (((cutL 0 r17.1.1 t2)++(bytesOfInts [((t3.getD r19.1.1.toNat 0).toNat:Int)])).length+(cutL (IntKind.wrap .i64 (r17.1.1+1)) (t2.length:Int) t2).length≤1099511627776) then some (r21.2.1,(((cutL 0 r17.1.1 t2)++(bytesOfInts [((t3.getD r19.1.1.toNat 0).toNat:Int)]))++(cutL (IntKind.wrap .i64 (r17.1.1+1)) (t2.length:Int) t2)),t3,t8,t2,(t2.length:Int),(decide ((t2.length:Int)>0)),()) else none else none else none else none else bif cutB 0 r17.1.1 t2.length then bif cutB (IntKind.wrap .i64 (r17.1.1+1)) (t2.length:Int) t2.length then bif decide ((cutL 0 r17.1.1 t2).length+(cutL (IntKind.wrap .i64 (r17.1.1+1)) (t2.length:Int) t2).length≤1099511627776) then some (r21.2.1,((cutL 0 r17.1.1 t2)++(cutL (IntKind.wrap .i64 (r17.1.1+1)) (t2.length:Int) t2)),t3,t8,t2,(t2.length:Int),(decide ((t2.length:Int)>0)),()) else none else none else none else none:Option ((PV Y_spec_l1Cur×PV .str×PV .str×PV (.int .i64)×PV .str×PV (.int .i64)×PV .bool×Unit)))).bind fun j22=>some (.inl (j22.1,j22.2.1,j22.2.2.1,(IntKind.wrap .i64 (j22.2.2.2.1 -1)),())) else some (.inr (t0,t2,())) else some (.inr (t0,t2,()))
noncomputable def w_S_l1Cur_spoilt_2:PV Y_spec_l1Cur×PV .str×PV .str×PV (.int .i64)×Unit→Option ((PV Y_spec_l1Cur×PV .str×Unit)):=fix fun d=>b_S_l1Cur_spoilt_2 d.1 d.2.1 d.2.2.1 d.2.2.2.1
noncomputable def lp_S_l1Cur_spoilt_2:Lp:=⟨⟨[],[0,1,2,7],[]⟩,sh_S_l1Cur_spoilt_2,o_S_l1Cur_spoilt_2,fun d=>b_S_l1Cur_spoilt_2 d.1 d.2.1 d.2.2.1 d.2.2.2.1⟩
noncomputable def pl_S_l1Cur_spoilt:Plan:=⟨[(3,o_S_l1Cur_spoilt_3)],[(2,lp_S_l1Cur_spoilt_2)],0,1⟩
noncomputable def f_S_l1Cur_spoilt (t0:PV Y_spec_l1Cur)(t1:PV .str)(t2:PV .str):Option (PVs [.str]×PVs [Y_spec_l1Cur]):=(f_S_l1Cur_pick t0 2).bind fun r25=>(w_S_l1Cur_spoilt_2 (r25.2.1,t1,t2,(IntKind.wrap .i64 (1+r25.1.1)),())).bind fun l26=>some ((l26.2.1,()),(l26.1,()))
noncomputable def ct_S_l1Cur_spoilt:Ct:=⟨[(.ptr,Y_spec_l1Cur),(.bor,.str),(.bor,.str)],[(.str,.b)],fun x=>f_S_l1Cur_spoilt x.1 x.2.1 x.2.2.1⟩
noncomputable def cx_S_l1Cur_spoilt:Cx:=⟨tab,arrs,[(35,ct_S_l1Cur_pick)],[],gl,[]⟩
theorem eb_S_l1Cur_spoilt_2 (t0:PV Y_spec_l1Cur)(t2:PV .str)(t3:PV .str)(t8:PV (.int .i64)):denK cx_S_l1Cur_spoilt (rcN cx_S_l1Cur_spoilt 0) pl_S_l1Cur_spoilt 1 ((loopsOf (bodyOf Tryz.f36)).getD 0 .skip) (fillS sh_S_l1Cur_spoilt_2 (t0,t2,t3,t8,())) (roundK 1 lp_S_l1Cur_spoilt_2)=b_S_l1Cur_spoilt_2 t0 t2 t3 t8:=by kernel_rfl
theorem ef_S_l1Cur_spoilt (t0:PV Y_spec_l1Cur)(t1:PV .str)(t2:PV .str):denF cx_S_l1Cur_spoilt 0 pl_S_l1Cur_spoilt Tryz.f36.ntmps (bodyOf Tryz.f36) Tryz.f36.results.toList [(.ptr,Y_spec_l1Cur),(.bor,.str),(.bor,.str)] [(.str,.b)] (t0,t1,t2,())=f_S_l1Cur_spoilt t0 t1 t2:=by kernel_rfl
theorem ok_S_l1Cur_spoilt:FnOk gl Tryz.prog 36 ct_S_l1Cur_spoilt:=
 fnOk (cx:=cx_S_l1Cur_spoilt) (pl:=pl_S_l1Cur_spoilt) (dp:=0) (ok0_of tabOk (by unfold ArrOk;kernel_rfl) mix ⟨ok_S_l1Cur_pick,trivial⟩ trivial) Tryz.func36 (by kernel_rfl) (by kernel_rfl) (by kernel_rfl)
  (by rw[show loopsOf (bodyOf Tryz.f36)=[((loopsOf (bodyOf Tryz.f36)).getD 0 .skip)] from by kernel_rfl];exact⟨(by rw[show lookup pl_S_l1Cur_spoilt.loops (firstId ((loopsOf (bodyOf Tryz.f36)).getD 0 .skip))=some lp_S_l1Cur_spoilt_2 from by kernel_rfl];exact fun d z h=>(eb_S_l1Cur_spoilt_2 d.1 d.2.1 d.2.2.1 d.2.2.2.1).trans h),trivial⟩) (fun x=>ef_S_l1Cur_spoilt x.1 x.2.1 x.2.2.1)
noncomputable def o_S_DrawReadOrders_9:List Out:=[⟨.normal,⟨[],[6],[]⟩,mkSh 34 [(6,.val .str .b)]⟩]
noncomputable def pl_S_DrawReadOrders_37:Plan:=⟨[],[],0,34⟩
noncomputable def pl_S_DrawReadOrders:Plan:=⟨[(9,o_S_DrawReadOrders_9)],[],1,0⟩
noncomputable def f_S_DrawReadOrders (t0:PV S_uint8):Option (PVs [.str]×PVs []):=(f_S_l1Cur_orders (t0,(0,(0,())))).bind fun r2=>(f_S_OrdersText r2.1.2.1).bind fun r4=>(((f_S_l1Cur_pick r2.2.1 4).bind fun r10=>bif (r10.1.1==0) then(f_S_l1Cur_spoilt r10.2.1 r4.1.1 [97,99,100,46,44,49,10]).bind fun r11=>some (r11.1.1,()) else bif (r10.1.1==1) then(f_S_l1Cur_pick r10.2.1 ([[],[49,100,10],[49,97,10,120,10,46,10],[49,97,10,120,10],[49,97,10,46,10],[49,115,47,46,47,47,10],[50,44,49,100,10],[49,44,49,100,10],[48,100,10],[100,10]].length:Int)).bind fun r12=>bif inB r12.1.1 [[],[49,100,10],[49,97,10,120,10,46,10],[49,97,10,120,10],[49,97,10,46,10],[49,115,47,46,47,47,10],[50,44,49,100,10],[49,44,49,100,10],[48,100,10],[100,10]].length then some (([[],[49,100,10],[49,97,10,120,10,46,10],[49,97,10,120,10],[49,97,10,46,10],[49,115,47,46,47,47,10],[50,44,49,100,10],[49,44,49,100,10],[48,100,10],[100,10]].getD r12.1.1.toNat []),()) else none else some (r4.1.1,()):Option ((PV .str×Unit)))).bind fun j13=>some ((j13.1,()),())
noncomputable def ct_S_DrawReadOrders:Ct:=⟨[(.bor,S_uint8)],[(.str,.b)],fun x=>f_S_DrawReadOrders x.1⟩
noncomputable def cx_S_DrawReadOrders:Cx:=⟨tab,arrs,[(13,ct_S_OrdersText),(34,ct_S_l1Cur_orders),(35,ct_S_l1Cur_pick),(36,ct_S_l1Cur_spoilt)],[(37,Tryz.f37,pl_S_DrawReadOrders_37)],gl,[]⟩
theorem ef_S_DrawReadOrders (t0:PV S_uint8):denF cx_S_DrawReadOrders 1 pl_S_DrawReadOrders Tryz.f17.ntmps (bodyOf Tryz.f17) Tryz.f17.results.toList [(.bor,S_uint8)] [(.str,.b)] (t0,())=f_S_DrawReadOrders t0:=by kernel_rfl
theorem ok_S_DrawReadOrders:FnOk gl Tryz.prog 17 ct_S_DrawReadOrders:=
 fnOk (cx:=cx_S_DrawReadOrders) (pl:=pl_S_DrawReadOrders) (dp:=1) (ok0_of tabOk (by unfold ArrOk;kernel_rfl) mix ⟨ok_S_OrdersText,ok_S_l1Cur_orders,ok_S_l1Cur_pick,ok_S_l1Cur_spoilt,trivial⟩ ⟨⟨Tryz.func37,by kernel_rfl,(by rw[show loopsOf (bodyOf Tryz.f37)=[] from by kernel_rfl];exact trivial)⟩,trivial⟩) Tryz.func17 (by kernel_rfl) (by kernel_rfl) (by kernel_rfl)
  (by rw[show loopsOf (bodyOf Tryz.f17)=[] from by kernel_rfl];exact trivial) (fun x=>ef_S_DrawReadOrders x.1)
noncomputable def o_S_l1Cut_5:List Out:=[⟨.normal,⟨[],[0,3,4,5],[]⟩,mkSh 37 [(0,.val .str .b),(3,.val S_string (.row .b)),(4,.val (.int .i64) .b),(5,.val (.int .i64) .b)]⟩]
noncomputable def o_S_l1Cut_11:List Out:=[⟨.normal,⟨[],[3],[]⟩,mkSh 37 [(3,.val S_string (.row .b))]⟩]
noncomputable def sh_S_l1Cut_4:List Sh:=mkSh 37 [(0,.val .str .b),(3,.val S_string (.row .b)),(4,.val (.int .i64) .b),(5,.val (.int .i64) .b)]
noncomputable def o_S_l1Cut_4:List Out:=[⟨.exit 0,⟨[],[0,3,4],[]⟩,mkSh 37 [(0,.val .str .b),(3,.val S_string (.row .b)),(4,.val (.int .i64) .b)]⟩]
noncomputable def b_S_l1Cut_4 (t0:PV .str)(t3:PV S_string)(t4:PV (.int .i64))(t5:PV (.int .i64)):Option ((PV .str×PV S_string×PV (.int .i64)×PV (.int .i64)×Unit)⊕((PV .str×PV S_string×PV (.int .i64)×Unit))):=bif (decide (t5<(t0.length:Int))) then((bif inB t5 t0.length then bif (((t0.getD t5.toNat 0).toNat:Int)==10) then bif cutB t4 (IntKind.wrap .i64 (t5+1)) t0.length then bif roomB (t3.length+[(cutL t4 (IntKind.wrap .i64 (t5+1)) t0)].length) then some (t0,(t3++[(cutL t4 (IntKind.wrap .i64 (t5+1)) t0)]),(IntKind.wrap .i64 (t5+1)),t5,()) else none else none else some (t0,t3,t4,t5,()) else none:Option ((PV .str×PV S_string×PV (.int .i64)×PV (.int .i64)×Unit)))).bind fun j1=>some (.inl (j1.1,j1.2.1,j1.2.2.1,(IntKind.wrap .i64 (j1.2.2.2.1+1)),())) else some (.inr (t0,t3,t4,()))
noncomputable def w_S_l1Cut_4:PV .str×PV S_string×PV (.int .i64)×PV (.int .i64)×Unit→Option ((PV .str×PV S_string×PV (.int .i64)×Unit)):=fix fun d=>b_S_l1Cut_4 d.1 d.2.1 d.2.2.1 d.2.2.2.1
noncomputable def lp_S_l1Cut_4:Lp:=⟨⟨[],[0,3,4,5],[]⟩,sh_S_l1Cut_4,o_S_l1Cut_4,fun d=>b_S_l1Cut_4 d.1 d.2.1 d.2.2.1 d.2.2.2.1⟩
noncomputable def pl_S_l1Cut:Plan:=⟨[(5,o_S_l1Cut_5),(11,o_S_l1Cut_11)],[(4,lp_S_l1Cut_4)],0,0⟩
noncomputable def f_S_l1Cut (t0:PV .str):Option (PVs [S_string]×PVs []):=(w_S_l1Cut_4 (t0,[],0,0,())).bind fun l3=>((bif (decide (l3.2.2.1<(l3.1.length:Int))) then bif cutB l3.2.2.1 (l3.1.length:Int) l3.1.length then bif roomB (l3.2.1.length+[(cutL l3.2.2.1 (l3.1.length:Int) l3.1)].length) then some ((l3.2.1++[(cutL l3.2.2.1 (l3.1.length:Int) l3.1)]),()) else none else none else some (l3.2.1,()):Option ((PV S_string×Unit)))).bind fun j4=>some ((j4.1,()),())
noncomputable def ct_S_l1Cut:Ct:=⟨[(.bor,.str)],[(S_string,.b)],fun x=>f_S_l1Cut x.1⟩
noncomputable def cx_S_l1Cut:Cx:=⟨tab,arrs,[],[],gl,[]⟩
theorem eb_S_l1Cut_4 (t0:PV .str)(t3:PV S_string)(t4:PV (.int .i64))(t5:PV (.int .i64)):denK cx_S_l1Cut (rcN cx_S_l1Cut 0) pl_S_l1Cut 0 ((loopsOf (bodyOf Tryz.f18)).getD 0 .skip) (fillS sh_S_l1Cut_4 (t0,t3,t4,t5,())) (roundK 0 lp_S_l1Cut_4)=b_S_l1Cut_4 t0 t3 t4 t5:=by kernel_rfl
theorem ef_S_l1Cut (t0:PV .str):denF cx_S_l1Cut 0 pl_S_l1Cut Tryz.f18.ntmps (bodyOf Tryz.f18) Tryz.f18.results.toList [(.bor,.str)] [(S_string,.b)] (t0,())=f_S_l1Cut t0:=by kernel_rfl
theorem ok_S_l1Cut:FnOk gl Tryz.prog 18 ct_S_l1Cut:=
 fnOk (cx:=cx_S_l1Cut) (pl:=pl_S_l1Cut) (dp:=0) (ok0_of tabOk (by unfold ArrOk;kernel_rfl) mix trivial trivial) Tryz.func18 (by kernel_rfl) (by kernel_rfl) (by kernel_rfl)
  (by rw[show loopsOf (bodyOf Tryz.f18)=[((loopsOf (bodyOf Tryz.f18)).getD 0 .skip)] from by kernel_rfl];exact⟨(by rw[show lookup pl_S_l1Cut.loops (firstId ((loopsOf (bodyOf Tryz.f18)).getD 0 .skip))=some lp_S_l1Cut_4 from by kernel_rfl];exact fun d z h=>(eb_S_l1Cut_4 d.1 d.2.1 d.2.2.1 d.2.2.2.1).trans h),trivial⟩) (fun x=>ef_S_l1Cut x.1)
noncomputable def pl_S_l1Plain:Plan:=⟨[],[],0,0⟩
noncomputable def f_S_l1Plain (t0:PV .str):Option (PVs [.str]×PVs []):=(f_S_l1Ends t0).bind fun r4=>bif r4.1.1 then bif cutB 0 (IntKind.wrap .i64 ((t0.length:Int) -1)) t0.length then some (((cutL 0 (IntKind.wrap .i64 ((t0.length:Int) -1)) t0),()),()) else none else some ((t0,()),())
noncomputable def ct_S_l1Plain:Ct:=⟨[(.bor,.str)],[(.str,.b)],fun x=>f_S_l1Plain x.1⟩
noncomputable def cx_S_l1Plain:Cx:=⟨tab,arrs,[(40,ct_S_l1Ends)],[],gl,[]⟩
theorem ef_S_l1Plain (t0:PV .str):denF cx_S_l1Plain 0 pl_S_l1Plain Tryz.f20.ntmps (bodyOf Tryz.f20) Tryz.f20.results.toList [(.bor,.str)] [(.str,.b)] (t0,())=f_S_l1Plain t0:=by kernel_rfl
theorem ok_S_l1Plain:FnOk gl Tryz.prog 20 ct_S_l1Plain:=
 fnOk (cx:=cx_S_l1Plain) (pl:=pl_S_l1Plain) (dp:=0) (ok0_of tabOk (by unfold ArrOk;kernel_rfl) mix ⟨ok_S_l1Ends,trivial⟩ trivial) Tryz.func20 (by kernel_rfl) (by kernel_rfl) (by kernel_rfl)
  (by rw[show loopsOf (bodyOf Tryz.f20)=[] from by kernel_rfl];exact trivial) (fun x=>ef_S_l1Plain x.1)
noncomputable def o_S_ReadOrders_17:List Out:=[⟨.normal,⟨[],[0,5,6,7,36,37,38,39,64,65,66,67],[]⟩,mkSh 70 [(0,.val .str .b),(5,.val S_string .b),(6,.val S_impl_Order (.row (.pr .b (.pr .b (.pr .b (.pr (.row .b) .b)))))),(7,.var Y_impl_Order (.pr .b (.pr .b (.pr .b (.pr (.row .b) .b)))))]⟩,⟨.ret,⟨[],[2,3,4],[]⟩,mkSh 70 [(2,.val S_impl_Order (.row (.pr .b (.pr .b (.pr .b (.pr (.row .b) .b)))))),(3,.val (.int .i64) .b),(4,.val .bool .b)]⟩]
noncomputable def o_S_ReadOrders_19:List Out:=[⟨.normal,⟨[],[6,68],[]⟩,mkSh 70 [(6,.val S_impl_Order (.row (.pr .b (.pr .b (.pr .b (.pr (.row .b) .b)))))),(68,.val .bool .b)]⟩]
noncomputable def sh_S_ReadOrders_11:List Sh:=mkSh 70 [(0,.val .str .b),(5,.val S_string .b),(6,.val S_impl_Order (.row (.pr .b (.pr .b (.pr .b (.pr (.row .b) .b)))))),(7,.var Y_impl_Order (.pr .b (.pr .b (.pr .b (.pr (.row .b) .b)))))]
noncomputable def o_S_ReadOrders_11:List Out:=[⟨.exit 2,⟨[],[0,5,6,7,64,65,66,67],[]⟩,mkSh 70 [(0,.val .str .b),(5,.val S_string .b),(6,.val S_impl_Order (.row (.pr .b (.pr .b (.pr .b (.pr (.row .b) .b)))))),(7,.var Y_impl_Order (.pr .b (.pr .b (.pr .b (.pr (.row .b) .b)))))]⟩]
noncomputable def b_S_ReadOrders_11 (t0:PV .str)(t5:PV S_string)(t6:PV S_impl_Order)(t7:PV Y_impl_Order):Option ((PV .str×PV S_string×PV S_impl_Order×PV Y_impl_Order×Unit)⊕((PV .str×PV S_string×PV S_impl_Order×PV Y_impl_Order×Unit))):=bif (decide ((t5.length:Int)>0)) then bif inB 0 t5.length then bif (!((t5.getD ((0:Int).toNat) [])==[46,10])) then bif inB 0 t5.length then bif roomB (t7.2.2.2.1.length+[(t5.getD ((0:Int).toNat) [])].length) then bif cutB 1 (t5.length:Int) t5.length then some (.inl (t0,(cutL 1 (t5.length:Int) t5),t6,(t7.1,(t7.2.1,(t7.2.2.1,((t7.2.2.2.1++[(t5.getD ((0:Int).toNat) [])]),t7.2.2.2.2)))),())) else none else none else none else some (.inr (t0,t5,t6,t7,())) else none else some (.inr (t0,t5,t6,t7,()))
noncomputable def w_S_ReadOrders_11:PV .str×PV S_string×PV S_impl_Order×PV Y_impl_Order×Unit→Option ((PV .str×PV S_string×PV S_impl_Order×PV Y_impl_Order×Unit)):=fix fun d=>b_S_ReadOrders_11 d.1 d.2.1 d.2.2.1 d.2.2.2.1
noncomputable def lp_S_ReadOrders_11:Lp:=⟨⟨[],[0,5,6,7,64,65,66,67],[]⟩,sh_S_ReadOrders_11,o_S_ReadOrders_11,fun d=>b_S_ReadOrders_11 d.1 d.2.1 d.2.2.1 d.2.2.2.1⟩
noncomputable def sh_S_ReadOrders_5:List Sh:=mkSh 70 [(0,.val .str .b),(5,.val S_string .b),(6,.val S_impl_Order (.row (.pr .b (.pr .b (.pr .b (.pr (.row .b) .b))))))]
noncomputable def o_S_ReadOrders_5:List Out:=[⟨.exit 0,⟨[],[0,6,64,65,66,67],[]⟩,mkSh 70 [(0,.val .str .b),(6,.val S_impl_Order (.row (.pr .b (.pr .b (.pr .b (.pr (.row .b) .b))))))]⟩,⟨.ret,⟨[],[2,3,4],[]⟩,mkSh 70 [(2,.val S_impl_Order (.row (.pr .b (.pr .b (.pr .b (.pr (.row .b) .b)))))),(3,.val (.int .i64) .b),(4,.val .bool .b)]⟩]
noncomputable def b_S_ReadOrders_5 (t0:PV .str)(t5:PV S_string)(t6:PV S_impl_Order):Option ((PV .str×PV S_string×PV S_impl_Order×Unit)⊕((PV .str×PV S_impl_Order×Unit)⊕(PV S_impl_Order×PV (.int .i64)×PV .bool×Unit))):=
 bif (decide ((t5.length:Int)>0)) then
  bif inB 0 t5.length then
   (f_S_l1Plain (t5.getD ((0:Int).toNat) [])).bind fun r5=>
     (f_S_l9Head r5.1.1).bind fun r6=>
       bif (!r6.1.2.1) then
        some (.inr (.inr ([],1,false,())))
       else
        bif cutB 1 (t5.length:Int) t5.length then
         ((
           bif (decide (r6.1.1.1≤3)) then
            (w_S_ReadOrders_11 (t0,(cutL 1 (t5.length:Int) t5),t6,r6.1.1,())).bind fun l8=>
              bif ((l8.2.1.length:Int)==0) then
               some (.inr ([],1,false,()))
              else
               bif cutB 1 (l8.2.1.length:Int) l8.2.1.length then
                some (.inl (l8.1,(cutL 1 (l8.2.1.length:Int) l8.2.1),l8.2.2.1,l8.2.2.2.1,()))
               else
                none
           else
            some (.inl (t0,(cutL 1 (t5.length:Int) t5),t6,r6.1.1,())):Option ((PV .str×PV S_string×PV S_impl_Order×PV Y_impl_Order×Unit)⊕(PV S_impl_Order×PV (.int .i64)×PV .bool×Unit)))).bind fun x23=>
           match x23 with
           | .inl j9=>
             bif roomB (j9.2.2.1.length+[j9.2.2.2.1].length) then
              some (.inl (j9.1,j9.2.1,(j9.2.2.1++[j9.2.2.2.1]),()))
             else
              none
           | .inr j10=>
             some (.inr (.inr (j10.1,j10.2.1,j10.2.2.1,())))
        else
         none
  else
   none
 else
  some (.inr (.inl (t0,t6,())))
noncomputable def w_S_ReadOrders_5:PV .str×PV S_string×PV S_impl_Order×Unit→Option ((PV .str×PV S_impl_Order×Unit)⊕(PV S_impl_Order×PV (.int .i64)×PV .bool×Unit)):=fix fun d=>b_S_ReadOrders_5 d.1 d.2.1 d.2.2.1
noncomputable def lp_S_ReadOrders_5:Lp:=⟨⟨[],[0,5,6,36,37,38,39,64,65,66,67],[]⟩,sh_S_ReadOrders_5,o_S_ReadOrders_5,fun d=>b_S_ReadOrders_5 d.1 d.2.1 d.2.2.1⟩
noncomputable def pl_S_ReadOrders:Plan:=⟨[(17,o_S_ReadOrders_17),(19,o_S_ReadOrders_19)],[(11,lp_S_ReadOrders_11),(5,lp_S_ReadOrders_5)],0,0⟩
noncomputable def f_S_ReadOrders (t0:PV .str):Option (PVs [S_impl_Order,(.int .i64),.bool]×PVs []):=
 bif (decide ((t0.length:Int)>3000)) then
  some (([],1,false,()),())
 else
  (f_S_l1Cut t0).bind fun r2=>
    (w_S_ReadOrders_5 (t0,r2.1.1,[],())).bind fun x24=>
      match x24 with
      | .inl l13=>
        ((
          (f_S_l9Good l13.2.1).bind fun r19=>
            bif (!r19.1.1) then
             some (l13.2.1,true,())
            else
             (f_S_l9Text l13.2.1).bind fun r20=>
               some (l13.2.1,(!(r20.1.1==l13.1)),()):Option ((PV S_impl_Order×PV .bool×Unit)))).bind fun j21=>
          bif j21.2.1 then
           some (([],1,false,()),())
          else
           some ((j21.1,0,true,()),())
      | .inr l22=>
        some ((l22.1,l22.2.1,l22.2.2.1,()),())
noncomputable def ct_S_ReadOrders:Ct:=⟨[(.bor,.str)],[(S_impl_Order,(.row (.pr .b (.pr .b (.pr .b (.pr (.row .b) .b)))))),((.int .i64),.b),(.bool,.b)],fun x=>f_S_ReadOrders x.1⟩
noncomputable def cx_S_ReadOrders:Cx:=⟨tab,arrs,[(18,ct_S_l1Cut),(19,ct_S_l9Head),(20,ct_S_l1Plain),(21,ct_S_l9Good),(22,ct_S_l9Text)],[],gl,[]⟩
theorem eb_S_ReadOrders_5 (t0:PV .str)(t5:PV S_string)(t6:PV S_impl_Order):denK cx_S_ReadOrders (rcN cx_S_ReadOrders 0) pl_S_ReadOrders 0 ((loopsOf (bodyOf Tryz.f5)).getD 0 .skip) (fillS sh_S_ReadOrders_5 (t0,t5,t6,())) (roundK 0 lp_S_ReadOrders_5)=b_S_ReadOrders_5 t0 t5 t6:=by kernel_rfl
theorem eb_S_ReadOrders_11 (t0:PV .str)(t5:PV S_string)(t6:PV S_impl_Order)(t7:PV Y_impl_Order):denK cx_S_ReadOrders (rcN cx_S_ReadOrders 0) pl_S_ReadOrders 0 ((loopsOf (bodyOf Tryz.f5)).getD 1 .skip) (fillS sh_S_ReadOrders_11 (t0,t5,t6,t7,())) (roundK 0 lp_S_ReadOrders_11)=b_S_ReadOrders_11 t0 t5 t6 t7:=by kernel_rfl
theorem ef_S_ReadOrders (t0:PV .str):denF cx_S_ReadOrders 0 pl_S_ReadOrders Tryz.f5.ntmps (bodyOf Tryz.f5) Tryz.f5.results.toList [(.bor,.str)] [(S_impl_Order,(.row (.pr .b (.pr .b (.pr .b (.pr (.row .b) .b)))))),((.int .i64),.b),(.bool,.b)] (t0,())=f_S_ReadOrders t0:=by kernel_rfl
theorem ok_S_ReadOrders:FnOk gl Tryz.prog 5 ct_S_ReadOrders:=
 fnOk (cx:=cx_S_ReadOrders) (pl:=pl_S_ReadOrders) (dp:=0) (ok0_of tabOk (by unfold ArrOk;kernel_rfl) mix ⟨ok_S_l1Cut,ok_S_l9Head,ok_S_l1Plain,ok_S_l9Good,ok_S_l9Text,trivial⟩ trivial) Tryz.func5 (by kernel_rfl) (by kernel_rfl) (by kernel_rfl)
  (by rw[show loopsOf (bodyOf Tryz.f5)=[((loopsOf (bodyOf Tryz.f5)).getD 0 .skip),((loopsOf (bodyOf Tryz.f5)).getD 1 .skip)] from by kernel_rfl];exact⟨(by rw[show lookup pl_S_ReadOrders.loops (firstId ((loopsOf (bodyOf Tryz.f5)).getD 0 .skip))=some lp_S_ReadOrders_5 from by kernel_rfl];exact fun d z h=>(eb_S_ReadOrders_5 d.1 d.2.1 d.2.2.1).trans h),(by rw[show lookup pl_S_ReadOrders.loops (firstId ((loopsOf (bodyOf Tryz.f5)).getD 1 .skip))=some lp_S_ReadOrders_11 from by kernel_rfl];exact fun d z h=>(eb_S_ReadOrders_11 d.1 d.2.1 d.2.2.1 d.2.2.2.1).trans h),trivial⟩) (fun x=>ef_S_ReadOrders x.1)
noncomputable def o_L_FnOrders_7:List Out:=[⟨.normal,⟨[],[1,5,6,7,51,62,63,66,67,68,69,89,90,91,94,95,96,97,107,108,109],[]⟩,mkSh 113 [(1,.val S_uint8 .b),(5,.val S_impl_Order (.row (.pr .b (.pr .b (.pr .b (.pr (.row .b) .b)))))),(6,.val .str .b),(7,.val .bool .b),(51,.val .bool .b)]⟩]
noncomputable def o_L_FnOrders_11:List Out:=[⟨.normal,⟨[],[1,70,89,90,91,94,95,96,97,107,108,109],[]⟩,mkSh 113 [(1,.val S_uint8 .b),(70,.val .bool .b)]⟩]
noncomputable def o_L_FnOrders_12:List Out:=[⟨.normal,⟨[],[1,89,90,91,94,95,96,97,107,108,109],[]⟩,mkSh 113 [(1,.val S_uint8 .b)]⟩,⟨.ret,⟨[],[4],[]⟩,mkSh 113 [(4,.val .bool .b)]⟩]
noncomputable def o_L_FnOrders_16:List Out:=[⟨.normal,⟨[],[13,14,15,16,98,107,108,109],[]⟩,mkSh 113 [(13,.val .str .b),(14,.val S_impl_Order (.row (.pr .b (.pr .b (.pr .b (.pr (.row .b) .b)))))),(15,.val (.int .i64) .b),(16,.val .bool .b),(98,.val .bool .b)]⟩]
noncomputable def pl_L_FnOrders:Plan:=⟨[(7,o_L_FnOrders_7),(11,o_L_FnOrders_11),(12,o_L_FnOrders_12),(16,o_L_FnOrders_16)],[],0,0⟩
noncomputable def f_L_FnOrders (t0:PV S_uint8)(t1:PV S_uint8):Option (PVs [.bool]×PVs []):=
 (f_L_big t0 t1).bind fun r4=>
   bif r4.1.1 then
    some ((true,()),())
   else
    (f_S_DrawOrdersText t0).bind fun r6=>
      (f_I_OrdersText r6.1.1).bind fun r8=>
        (f_S_OrdersText r6.1.1).bind fun r10=>
          ((
            bif (!(r8.1.2.1==r10.1.2.1)) then
             some (t1,r6.1.1,r8.1.1,r8.1.2.1,true,())
            else
             bif (!(r8.1.1==r10.1.1)) then
              some (t1,r6.1.1,r8.1.1,r8.1.2.1,true,())
             else
              (f_I_GoodOrders r6.1.1).bind fun r16=>
                (f_S_GoodOrders r6.1.1).bind fun r17=>
                  some (t1,r6.1.1,r8.1.1,r8.1.2.1,(!(r16.1.1==r17.1.1)),()):Option ((PV S_uint8×PV S_impl_Order×PV .str×PV .bool×PV .bool×Unit)))).bind fun j18=>
            bif j18.2.2.2.2.1 then
             some ((false,()),())
            else
             ((
               bif j18.2.2.2.1 then
                (f_I_ReadOrders j18.2.2.1).bind fun r25=>
                  ((
                    bif (!r25.1.2.2.1) then
                     some (j18.1,true,())
                    else
                     bif (!(r25.1.2.1==0)) then
                      some (j18.1,true,())
                     else
                      (f_L_sameOrders r25.1.1 j18.2.1).bind fun r26=>
                        some (j18.1,(!r26.1.1),()):Option ((PV S_uint8×PV .bool×Unit)))).bind fun j27=>
                    bif j27.2.1 then
                     some (.inr (false,()))
                    else
                     some (.inl (j27.1,()))
               else
                some (.inl (j18.1,())):Option ((PV S_uint8×Unit)⊕(PV .bool×Unit)))).bind fun x45=>
               match x45 with
               | .inl j28=>
                 (f_S_DrawReadOrders j28.1).bind fun r30=>
                   (f_I_ReadOrders r30.1.1).bind fun r32=>
                     (f_S_ReadOrders r30.1.1).bind fun r34=>
                       ((
                         bif (!(r32.1.2.2.1==r34.1.2.2.1)) then
                          some (r30.1.1,r32.1.1,r32.1.2.1,r32.1.2.2.1,true,())
                         else
                          bif (!(r32.1.2.1==r34.1.2.1)) then
                           some (r30.1.1,r32.1.1,r32.1.2.1,r32.1.2.2.1,true,())
                          else
                           (f_L_sameOrders r32.1.1 r34.1.1).bind fun r38=>
                             some (r30.1.1,r32.1.1,r32.1.2.1,r32.1.2.2.1,(!r38.1.1),()):Option ((PV .str×PV S_impl_Order×PV (.int .i64)×PV .bool×PV .bool×Unit)))).bind fun j39=>
                         bif j39.2.2.2.2.1 then
                          some ((false,()),())
                         else
                          bif j39.2.2.2.1 then
                           (f_I_OrdersText j39.2.1).bind fun r43=>
                             bif r43.1.2.1 then
                              some (((r43.1.1==j39.1),()),())
                             else
                              some ((false,()),())
                          else
                           some (((j39.2.2.1==1),()),())
               | .inr j44=>
                 some ((j44.1,()),())
noncomputable def ct_L_FnOrders:Ct:=⟨[(.bor,S_uint8),(.bor,S_uint8)],[(.bool,.b)],fun x=>f_L_FnOrders x.1 x.2.1⟩
noncomputable def cx_L_FnOrders:Cx:=⟨tab,arrs,[(5,ct_S_ReadOrders),(6,ct_I_ReadOrders),(10,ct_L_big),(11,ct_S_DrawOrdersText),(12,ct_I_OrdersText),(13,ct_S_OrdersText),(14,ct_I_GoodOrders),(15,ct_S_GoodOrders),(16,ct_L_sameOrders),(17,ct_S_DrawReadOrders)],[],gl,[]⟩
theorem ef_L_FnOrders (t0:PV S_uint8)(t1:PV S_uint8):denF cx_L_FnOrders 0 pl_L_FnOrders Tryz.f4.ntmps (bodyOf Tryz.f4) Tryz.f4.results.toList [(.bor,S_uint8),(.bor,S_uint8)] [(.bool,.b)] (t0,t1,())=f_L_FnOrders t0 t1:=by kernel_rfl
theorem ok_L_FnOrders:FnOk gl Tryz.prog 4 ct_L_FnOrders:=
 fnOk (cx:=cx_L_FnOrders) (pl:=pl_L_FnOrders) (dp:=0) (ok0_of tabOk (by unfold ArrOk;kernel_rfl) mix ⟨ok_S_ReadOrders,ok_I_ReadOrders,ok_L_big,ok_S_DrawOrdersText,ok_I_OrdersText,ok_S_OrdersText,ok_I_GoodOrders,ok_S_GoodOrders,ok_L_sameOrders,ok_S_DrawReadOrders,trivial⟩ trivial) Tryz.func4 (by kernel_rfl) (by kernel_rfl) (by kernel_rfl)
  (by rw[show loopsOf (bodyOf Tryz.f4)=[] from by kernel_rfl];exact trivial) (fun x=>ef_L_FnOrders x.1 x.2.1)
end R
