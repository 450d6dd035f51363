/- The functions, part 3. -/
import Derived.Test.YtljgmcbpjakecaaGreatDoorPaIa2
open Go Go.Dn Go.Proofs
namespace R
set_option linter.unusedVariables false
set_option maxRecDepth 20000
open Go.Shelf
noncomputable def pl_I_Group_has_230:Plan:=⟨[],[],2,9⟩
noncomputable def sh_I_Group_has_266_2:List Sh:=mkSh 37 [(0,.val Y_impl_Group .b),(1,.val (.int .i64) .b),(2,.var Y_impl_Group .b),(3,.var (.int .i64) .b),(4,.val .bool .b),(5,.addr ⟨2,[.r,.r,.l],0,0⟩),(6,.val S_impl_Row .b),(7,.fn 231 [⟨3,[],0,0⟩]),(9,.val S_impl_Row .b),(10,.fn 231 [⟨3,[],0,0⟩]),(13,.val .bool .b),(14,.val S_impl_Row .b),(15,.fn 231 [⟨3,[],0,0⟩]),(18,.val S_impl_Row .b),(19,.fn 231 [⟨3,[],0,0⟩]),(25,.val (.int .i64) .b),(26,.val (.int .i64) .b)]
noncomputable def o_I_Group_has_266_2:List Out:=[⟨.exit 0,⟨[],[],[]⟩,mkSh 37 [(0,.val Y_impl_Group .b),(1,.val (.int .i64) .b),(2,.var Y_impl_Group .b),(3,.var (.int .i64) .b),(4,.val .bool .b),(5,.addr ⟨2,[.r,.r,.l],0,0⟩),(6,.val S_impl_Row .b),(7,.fn 231 [⟨3,[],0,0⟩]),(9,.val S_impl_Row .b),(10,.fn 231 [⟨3,[],0,0⟩]),(13,.val .bool .b),(14,.val S_impl_Row .b),(15,.fn 231 [⟨3,[],0,0⟩])]⟩,⟨.ret,⟨[],[4],[]⟩,mkSh 37 [(0,.val Y_impl_Group .b),(1,.val (.int .i64) .b),(2,.var Y_impl_Group .b),(3,.var (.int .i64) .b),(4,.val .bool .b),(5,.addr ⟨2,[.r,.r,.l],0,0⟩),(6,.val S_impl_Row .b),(7,.fn 231 [⟨3,[],0,0⟩]),(9,.val S_impl_Row .b),(10,.fn 231 [⟨3,[],0,0⟩]),(13,.val .bool .b),(14,.val S_impl_Row .b),(15,.fn 231 [⟨3,[],0,0⟩]),(22,.val (.int .i64) .b)]⟩]
noncomputable def b_I_Group_has_266_2 (t0:PV Y_impl_Group)(t1:PV (.int .i64))(t2:PV Y_impl_Group)(t3:PV (.int .i64))(t4:PV .bool)(t6:PV S_impl_Row)(t9:PV S_impl_Row)(t13:PV .bool)(t14:PV S_impl_Row)(t18:PV S_impl_Row)(t25:PV (.int .i64))(t26:PV (.int .i64)):Option ((PV Y_impl_Group×PV (.int .i64)×PV Y_impl_Group×PV (.int .i64)×PV .bool×PV S_impl_Row×PV S_impl_Row×PV .bool×PV S_impl_Row×PV S_impl_Row×PV (.int .i64)×PV (.int .i64)×Unit)⊕((PV Y_impl_Group×PV (.int .i64)×PV Y_impl_Group×PV (.int .i64)×PV .bool×PV S_impl_Row×PV S_impl_Row×PV .bool×PV S_impl_Row×Unit)⊕(PV Y_impl_Group×PV (.int .i64)×PV Y_impl_Group×PV (.int .i64)×PV .bool×PV S_impl_Row×PV S_impl_Row×PV .bool×PV S_impl_Row×PV (.int .i64)×Unit))):=bif (decide (t26<t25)) then bif inB t26 t18.length then bif (((t18.getD t26.toNat (dflt Y_impl_Row)).1)==t3) then some (.inr (.inr (t0,t1,t2,t3,t4,t6,t9,t13,t14,t26,()))) else some (.inl (t0,t1,t2,t3,t4,t6,t9,t13,t14,t18,t25,(IntKind.wrap .i64 (t26+1)),())) else none else some (.inr (.inl (t0,t1,t2,t3,t4,t6,t9,t13,t14,())))
noncomputable def w_I_Group_has_266_2:PV Y_impl_Group×PV (.int .i64)×PV Y_impl_Group×PV (.int .i64)×PV .bool×PV S_impl_Row×PV S_impl_Row×PV .bool×PV S_impl_Row×PV S_impl_Row×PV (.int .i64)×PV (.int .i64)×Unit→Option ((PV Y_impl_Group×PV (.int .i64)×PV Y_impl_Group×PV (.int .i64)×PV .bool×PV S_impl_Row×PV S_impl_Row×PV .bool×PV S_impl_Row×Unit)⊕(PV Y_impl_Group×PV (.int .i64)×PV Y_impl_Group×PV (.int .i64)×PV .bool×PV S_impl_Row×PV S_impl_Row×PV .bool×PV S_impl_Row×PV (.int .i64)×Unit)):=fix fun d=>b_I_Group_has_266_2 d.1 d.2.1 d.2.2.1 d.2.2.2.1 d.2.2.2.2.1 d.2.2.2.2.2.1 d.2.2.2.2.2.2.1 d.2.2.2.2.2.2.2.1 d.2.2.2.2.2.2.2.2.1 d.2.2.2.2.2.2.2.2.2.1 d.2.2.2.2.2.2.2.2.2.2.1 d.2.2.2.2.2.2.2.2.2.2.2.1
noncomputable def lp_I_Group_has_266_2:Lp:=⟨⟨[],[0,1,7,8],[]⟩,sh_I_Group_has_266_2,o_I_Group_has_266_2,fun d=>b_I_Group_has_266_2 d.1 d.2.1 d.2.2.1 d.2.2.2.1 d.2.2.2.2.1 d.2.2.2.2.2.1 d.2.2.2.2.2.2.1 d.2.2.2.2.2.2.2.1 d.2.2.2.2.2.2.2.2.1 d.2.2.2.2.2.2.2.2.2.1 d.2.2.2.2.2.2.2.2.2.2.1 d.2.2.2.2.2.2.2.2.2.2.2.1⟩
noncomputable def pl_I_Group_has_266:Plan:=⟨[],[(2,lp_I_Group_has_266_2)],1,18⟩
noncomputable def pl_I_Group_has_231:Plan:=⟨[],[],0,37⟩
noncomputable def pl_I_Group_has:Plan:=⟨[],[],3,0⟩
noncomputable def f_I_Group_has (t0:PV Y_impl_Group)(t1:PV (.int .i64)):Option (PVs [.bool]×PVs []):=
 (w_I_Group_has_266_2 (t0,t1,t0,t1,false,t0.2.2.1,t0.2.2.1,false,t0.2.2.1,t0.2.2.1,(t0.2.2.1.length:Int),0,())).bind fun x5=>
   match x5 with
   | .inl l3=>
     some (((decide ((-1)≥0)),()),())
   | .inr l4=>
     some (((decide (l4.2.2.2.2.2.2.2.2.2.1≥0)),()),())
noncomputable def ct_I_Group_has:Ct:=⟨[(.bor,Y_impl_Group),(.bor,(.int .i64))],[(.bool,.b)],fun x=>f_I_Group_has x.1 x.2.1⟩
noncomputable def cx_I_Group_has:Cx:=⟨tab,arrs,[],[(230,Tryz.f230,pl_I_Group_has_230),(266,Tryz.f266,pl_I_Group_has_266),(231,Tryz.f231,pl_I_Group_has_231)],gl,[]⟩
theorem eb_I_Group_has_266_2 (t0:PV Y_impl_Group)(t1:PV (.int .i64))(t2:PV Y_impl_Group)(t3:PV (.int .i64))(t4:PV .bool)(t6:PV S_impl_Row)(t9:PV S_impl_Row)(t13:PV .bool)(t14:PV S_impl_Row)(t18:PV S_impl_Row)(t25:PV (.int .i64))(t26:PV (.int .i64)):denK cx_I_Group_has (rcN cx_I_Group_has 1) pl_I_Group_has_266 18 ((loopsOf (bodyOf Tryz.f266)).getD 0 .skip) (fillS sh_I_Group_has_266_2 (t0,t1,t2,t3,t4,t6,t9,t13,t14,t18,t25,t26,())) (roundK 18 lp_I_Group_has_266_2)=b_I_Group_has_266_2 t0 t1 t2 t3 t4 t6 t9 t13 t14 t18 t25 t26:=by kernel_rfl
theorem ef_I_Group_has (t0:PV Y_impl_Group)(t1:PV (.int .i64)):denF cx_I_Group_has 3 pl_I_Group_has Tryz.f167.ntmps (bodyOf Tryz.f167) Tryz.f167.results.toList [(.bor,Y_impl_Group),(.bor,(.int .i64))] [(.bool,.b)] (t0,t1,())=f_I_Group_has t0 t1:=by kernel_rfl
theorem ok_I_Group_has:FnOk gl Tryz.prog 167 ct_I_Group_has:=
 fnOk (cx:=cx_I_Group_has) (pl:=pl_I_Group_has) (dp:=3) (ok0_of tabOk (by unfold ArrOk;kernel_rfl) mix trivial ⟨⟨Tryz.func230,by kernel_rfl,(by rw[show loopsOf (bodyOf Tryz.f230)=[] from by kernel_rfl];exact trivial)⟩,⟨Tryz.func266,by kernel_rfl,(by rw[show loopsOf (bodyOf Tryz.f266)=[((loopsOf (bodyOf Tryz.f266)).getD 0 .skip)] from by kernel_rfl];exact⟨(by rw[show lookup pl_I_Group_has_266.loops (firstId ((loopsOf (bodyOf Tryz.f266)).getD 0 .skip))=some lp_I_Group_has_266_2 from by kernel_rfl];exact fun d z h=>(eb_I_Group_has_266_2 d.1 d.2.1 d.2.2.1 d.2.2.2.1 d.2.2.2.2.1 d.2.2.2.2.2.1 d.2.2.2.2.2.2.1 d.2.2.2.2.2.2.2.1 d.2.2.2.2.2.2.2.2.1 d.2.2.2.2.2.2.2.2.2.1 d.2.2.2.2.2.2.2.2.2.2.1 d.2.2.2.2.2.2.2.2.2.2.2.1).trans h),trivial⟩)⟩,⟨Tryz.func231,by kernel_rfl,(by rw[show loopsOf (bodyOf Tryz.f231)=[] from by kernel_rfl];exact trivial)⟩,trivial⟩) Tryz.func167 (by kernel_rfl) (by kernel_rfl) (by kernel_rfl)
  (by rw[show loopsOf (bodyOf Tryz.f167)=[] from by kernel_rfl];exact trivial) (fun x=>ef_I_Group_has x.1 x.2.1)
noncomputable def pl_I_Group_runHas_230:Plan:=⟨[],[],2,48⟩
noncomputable def sh_I_Group_runHas_266_2:List Sh:=mkSh 76 [(3,.var Y_impl_Group .b),(5,.var (.int .i64) .b),(7,.val (.int .i64) .b),(8,.val (.int .i64) .b),(41,.addr ⟨3,[.r,.r,.l],0,0⟩),(42,.val S_impl_Row .b),(43,.val (.int .i64) .b),(44,.val (.int .i64) .b),(45,.val S_impl_Row .b),(46,.fn 237 [⟨5,[],0,0⟩]),(48,.val S_impl_Row .b),(49,.fn 237 [⟨5,[],0,0⟩]),(52,.val .bool .b),(53,.val S_impl_Row .b),(54,.fn 237 [⟨5,[],0,0⟩]),(57,.val S_impl_Row .b),(58,.fn 237 [⟨5,[],0,0⟩]),(64,.val (.int .i64) .b),(65,.val (.int .i64) .b)]
noncomputable def o_I_Group_runHas_266_2:List Out:=[⟨.exit 0,⟨[],[],[]⟩,mkSh 76 [(3,.var Y_impl_Group .b),(5,.var (.int .i64) .b),(7,.val (.int .i64) .b),(8,.val (.int .i64) .b),(41,.addr ⟨3,[.r,.r,.l],0,0⟩),(42,.val S_impl_Row .b),(43,.val (.int .i64) .b),(44,.val (.int .i64) .b),(45,.val S_impl_Row .b),(46,.fn 237 [⟨5,[],0,0⟩]),(48,.val S_impl_Row .b),(49,.fn 237 [⟨5,[],0,0⟩]),(52,.val .bool .b),(53,.val S_impl_Row .b),(54,.fn 237 [⟨5,[],0,0⟩])]⟩,⟨.ret,⟨[],[4],[]⟩,mkSh 76 [(3,.var Y_impl_Group .b),(5,.var (.int .i64) .b),(7,.val (.int .i64) .b),(8,.val (.int .i64) .b),(41,.addr ⟨3,[.r,.r,.l],0,0⟩),(42,.val S_impl_Row .b),(43,.val (.int .i64) .b),(44,.val (.int .i64) .b),(45,.val S_impl_Row .b),(46,.fn 237 [⟨5,[],0,0⟩]),(48,.val S_impl_Row .b),(49,.fn 237 [⟨5,[],0,0⟩]),(52,.val .bool .b),(53,.val S_impl_Row .b),(54,.fn 237 [⟨5,[],0,0⟩]),(61,.val (.int .i64) .b)]⟩]
noncomputable def b_I_Group_runHas_266_2 (t3:PV Y_impl_Group)(t5:PV (.int .i64))(t7:PV (.int .i64))(t8:PV (.int .i64))(t42:PV S_impl_Row)(t43:PV (.int .i64))(t44:PV (.int .i64))(t45:PV S_impl_Row)(t48:PV S_impl_Row)(t52:PV .bool)(t53:PV S_impl_Row)(t57:PV S_impl_Row)(t64:PV (.int .i64))(t65:PV (.int .i64)):Option ((PV Y_impl_Group×PV (.int .i64)×PV (.int .i64)×PV (.int .i64)×PV S_impl_Row×PV (.int .i64)×PV (.int .i64)×PV S_impl_Row×PV S_impl_Row×PV .bool×PV S_impl_Row×PV S_impl_Row×PV (.int .i64)×PV (.int .i64)×Unit)⊕((PV Y_impl_Group×PV (.int .i64)×PV (.int .i64)×PV (.int .i64)×PV S_impl_Row×PV (.int .i64)×PV (.int .i64)×PV S_impl_Row×PV S_impl_Row×PV .bool×PV S_impl_Row×Unit)⊕(PV Y_impl_Group×PV (.int .i64)×PV (.int .i64)×PV (.int .i64)×PV S_impl_Row×PV (.int .i64)×PV (.int .i64)×PV S_impl_Row×PV S_impl_Row×PV .bool×PV S_impl_Row×PV (.int .i64)×Unit))):=bif (decide (t65<t64)) then bif inB t65 t57.length then bif (((t57.getD t65.toNat (dflt Y_impl_Row)).1)==t5) then some (.inr (.inr (t3,t5,t7,t8,t42,t43,t44,t45,t48,t52,t53,t65,()))) else some (.inl (t3,t5,t7,t8,t42,t43,t44,t45,t48,t52,t53,t57,t64,(IntKind.wrap .i64 (t65+1)),())) else none else some (.inr (.inl (t3,t5,t7,t8,t42,t43,t44,t45,t48,t52,t53,())))
noncomputable def w_I_Group_runHas_266_2:PV Y_impl_Group×PV (.int .i64)×PV (.int .i64)×PV (.int .i64)×PV S_impl_Row×PV (.int .i64)×PV (.int .i64)×PV S_impl_Row×PV S_impl_Row×PV .bool×PV S_impl_Row×PV S_impl_Row×PV (.int .i64)×PV (.int .i64)×Unit→Option ((PV Y_impl_Group×PV (.int .i64)×PV (.int .i64)×PV (.int .i64)×PV S_impl_Row×PV (.int .i64)×PV (.int .i64)×PV S_impl_Row×PV S_impl_Row×PV .bool×PV S_impl_Row×Unit)⊕(PV Y_impl_Group×PV (.int .i64)×PV (.int .i64)×PV (.int .i64)×PV S_impl_Row×PV (.int .i64)×PV (.int .i64)×PV S_impl_Row×PV S_impl_Row×PV .bool×PV S_impl_Row×PV (.int .i64)×Unit)):=fix fun d=>b_I_Group_runHas_266_2 d.1 d.2.1 d.2.2.1 d.2.2.2.1 d.2.2.2.2.1 d.2.2.2.2.2.1 d.2.2.2.2.2.2.1 d.2.2.2.2.2.2.2.1 d.2.2.2.2.2.2.2.2.1 d.2.2.2.2.2.2.2.2.2.1 d.2.2.2.2.2.2.2.2.2.2.1 d.2.2.2.2.2.2.2.2.2.2.2.1 d.2.2.2.2.2.2.2.2.2.2.2.2.1 d.2.2.2.2.2.2.2.2.2.2.2.2.2.1
noncomputable def lp_I_Group_runHas_266_2:Lp:=⟨⟨[],[0,1,7,8],[]⟩,sh_I_Group_runHas_266_2,o_I_Group_runHas_266_2,fun d=>b_I_Group_runHas_266_2 d.1 d.2.1 d.2.2.1 d.2.2.2.1 d.2.2.2.2.1 d.2.2.2.2.2.1 d.2.2.2.2.2.2.1 d.2.2.2.2.2.2.2.1 d.2.2.2.2.2.2.2.2.1 d.2.2.2.2.2.2.2.2.2.1 d.2.2.2.2.2.2.2.2.2.2.1 d.2.2.2.2.2.2.2.2.2.2.2.1 d.2.2.2.2.2.2.2.2.2.2.2.2.1 d.2.2.2.2.2.2.2.2.2.2.2.2.2.1⟩
noncomputable def pl_I_Group_runHas_266:Plan:=⟨[],[(2,lp_I_Group_runHas_266_2)],1,57⟩
noncomputable def pl_I_Group_runHas_237:Plan:=⟨[],[],0,76⟩
noncomputable def sh_I_Group_runHas_2:List Sh:=mkSh 48 [(3,.var Y_impl_Group .b),(5,.var (.int .i64) .b),(7,.val (.int .i64) .b),(8,.val (.int .i64) .b)]
noncomputable def o_I_Group_runHas_2:List Out:=[⟨.exit 0,⟨[],[3,5,7,8,31,32,33,34,35,36,37],[]⟩,mkSh 48 [(3,.var Y_impl_Group .b),(5,.var (.int .i64) .b),(7,.val (.int .i64) .b),(8,.val (.int .i64) .b)]⟩]
noncomputable def b_I_Group_runHas_2 (t3:PV Y_impl_Group)(t5:PV (.int .i64))(t7:PV (.int .i64))(t8:PV (.int .i64)):Option ((PV Y_impl_Group×PV (.int .i64)×PV (.int .i64)×PV (.int .i64)×Unit)⊕((PV Y_impl_Group×PV (.int .i64)×PV (.int .i64)×PV (.int .i64)×Unit))):=bif (decide (t7>0)) then bif inB (IntKind.wrap .i64 (t7 -1)) t3.2.2.1.length then bif (!(((t3.2.2.1.getD ((IntKind.wrap .i64 (t7 -1)).toNat) (dflt Y_impl_Row)).1)==1)) then some (.inl (t3,t5,(IntKind.wrap .i64 (t7 -1)),t8,())) else some (.inr (t3,t5,t7,t8,())) else none else some (.inr (t3,t5,t7,t8,()))
noncomputable def w_I_Group_runHas_2:PV Y_impl_Group×PV (.int .i64)×PV (.int .i64)×PV (.int .i64)×Unit→Option ((PV Y_impl_Group×PV (.int .i64)×PV (.int .i64)×PV (.int .i64)×Unit)):=fix fun d=>b_I_Group_runHas_2 d.1 d.2.1 d.2.2.1 d.2.2.2.1
noncomputable def lp_I_Group_runHas_2:Lp:=⟨⟨[],[3,5,7,8,31,32,33,34,35,36,37],[]⟩,sh_I_Group_runHas_2,o_I_Group_runHas_2,fun d=>b_I_Group_runHas_2 d.1 d.2.1 d.2.2.1 d.2.2.2.1⟩
noncomputable def sh_I_Group_runHas_4:List Sh:=mkSh 48 [(3,.var Y_impl_Group .b),(5,.var (.int .i64) .b),(7,.val (.int .i64) .b),(8,.val (.int .i64) .b)]
noncomputable def o_I_Group_runHas_4:List Out:=[⟨.exit 2,⟨[],[3,5,7,8],[]⟩,mkSh 48 [(3,.var Y_impl_Group .b),(5,.var (.int .i64) .b),(7,.val (.int .i64) .b),(8,.val (.int .i64) .b)]⟩]
noncomputable def b_I_Group_runHas_4 (t3:PV Y_impl_Group)(t5:PV (.int .i64))(t7:PV (.int .i64))(t8:PV (.int .i64)):Option ((PV Y_impl_Group×PV (.int .i64)×PV (.int .i64)×PV (.int .i64)×Unit)⊕((PV Y_impl_Group×PV (.int .i64)×PV (.int .i64)×PV (.int .i64)×Unit))):=bif (decide (t8<(t3.2.2.1.length:Int))) then bif inB t8 t3.2.2.1.length then bif (!(((t3.2.2.1.getD t8.toNat (dflt Y_impl_Row)).1)==1)) then some (.inl (t3,t5,t7,(IntKind.wrap .i64 (t8+1)),())) else some (.inr (t3,t5,t7,t8,())) else none else some (.inr (t3,t5,t7,t8,()))
noncomputable def w_I_Group_runHas_4:PV Y_impl_Group×PV (.int .i64)×PV (.int .i64)×PV (.int .i64)×Unit→Option ((PV Y_impl_Group×PV (.int .i64)×PV (.int .i64)×PV (.int .i64)×Unit)):=fix fun d=>b_I_Group_runHas_4 d.1 d.2.1 d.2.2.1 d.2.2.2.1
noncomputable def lp_I_Group_runHas_4:Lp:=⟨⟨[],[3,5,7,8],[]⟩,sh_I_Group_runHas_4,o_I_Group_runHas_4,fun d=>b_I_Group_runHas_4 d.1 d.2.1 d.2.2.1 d.2.2.2.1⟩
noncomputable def pl_I_Group_runHas:Plan:=⟨[],[(2,lp_I_Group_runHas_2),(4,lp_I_Group_runHas_4)],3,0⟩
noncomputable def f_I_Group_runHas (t0:PV Y_impl_Group)(t1:PV (.int .i64))(t2:PV (.int .i64)):Option (PVs [.bool]×PVs []):=
 (w_I_Group_runHas_2 (t0,t2,t1,t1,())).bind fun l2=>
   (w_I_Group_runHas_4 (l2.1,l2.2.1,l2.2.2.1,l2.2.2.2.1,())).bind fun l4=>
     bif cutB l4.2.2.1 l4.2.2.2.1 l4.1.2.2.1.length then
      (w_I_Group_runHas_266_2 (l4.1,l4.2.1,l4.2.2.1,l4.2.2.2.1,l4.1.2.2.1,l4.2.2.1,l4.2.2.2.1,(cutL l4.2.2.1 l4.2.2.2.1 l4.1.2.2.1),(cutL l4.2.2.1 l4.2.2.2.1 l4.1.2.2.1),false,(cutL l4.2.2.1 l4.2.2.2.1 l4.1.2.2.1),(cutL l4.2.2.1 l4.2.2.2.1 l4.1.2.2.1),((cutL l4.2.2.1 l4.2.2.2.1 l4.1.2.2.1).length:Int),0,())).bind fun x9=>
        match x9 with
        | .inl l7=>
          some (((decide ((-1)≥0)),()),())
        | .inr l8=>
          some (((decide (l8.2.2.2.2.2.2.2.2.2.2.2.1≥0)),()),())
     else
      none
noncomputable def ct_I_Group_runHas:Ct:=⟨[(.bor,Y_impl_Group),(.bor,(.int .i64)),(.bor,(.int .i64))],[(.bool,.b)],fun x=>f_I_Group_runHas x.1 x.2.1 x.2.2.1⟩
noncomputable def cx_I_Group_runHas:Cx:=⟨tab,arrs,[],[(230,Tryz.f230,pl_I_Group_runHas_230),(266,Tryz.f266,pl_I_Group_runHas_266),(237,Tryz.f237,pl_I_Group_runHas_237)],gl,[]⟩
theorem eb_I_Group_runHas_266_2 (t3:PV Y_impl_Group)(t5:PV (.int .i64))(t7:PV (.int .i64))(t8:PV (.int .i64))(t42:PV S_impl_Row)(t43:PV (.int .i64))(t44:PV (.int .i64))(t45:PV S_impl_Row)(t48:PV S_impl_Row)(t52:PV .bool)(t53:PV S_impl_Row)(t57:PV S_impl_Row)(t64:PV (.int .i64))(t65:PV (.int .i64)):denK cx_I_Group_runHas (rcN cx_I_Group_runHas 1) pl_I_Group_runHas_266 57 ((loopsOf (bodyOf Tryz.f266)).getD 0 .skip) (fillS sh_I_Group_runHas_266_2 (t3,t5,t7,t8,t42,t43,t44,t45,t48,t52,t53,t57,t64,t65,())) (roundK 57 lp_I_Group_runHas_266_2)=b_I_Group_runHas_266_2 t3 t5 t7 t8 t42 t43 t44 t45 t48 t52 t53 t57 t64 t65:=by kernel_rfl
theorem eb_I_Group_runHas_2 (t3:PV Y_impl_Group)(t5:PV (.int .i64))(t7:PV (.int .i64))(t8:PV (.int .i64)):denK cx_I_Group_runHas (rcN cx_I_Group_runHas 3) pl_I_Group_runHas 0 ((loopsOf (bodyOf Tryz.f180)).getD 0 .skip) (fillS sh_I_Group_runHas_2 (t3,t5,t7,t8,())) (roundK 0 lp_I_Group_runHas_2)=b_I_Group_runHas_2 t3 t5 t7 t8:=by kernel_rfl
theorem eb_I_Group_runHas_4 (t3:PV Y_impl_Group)(t5:PV (.int .i64))(t7:PV (.int .i64))(t8:PV (.int .i64)):denK cx_I_Group_runHas (rcN cx_I_Group_runHas 3) pl_I_Group_runHas 0 ((loopsOf (bodyOf Tryz.f180)).getD 1 .skip) (fillS sh_I_Group_runHas_4 (t3,t5,t7,t8,())) (roundK 0 lp_I_Group_runHas_4)=b_I_Group_runHas_4 t3 t5 t7 t8:=by kernel_rfl
theorem ef_I_Group_runHas (t0:PV Y_impl_Group)(t1:PV (.int .i64))(t2:PV (.int .i64)):denF cx_I_Group_runHas 3 pl_I_Group_runHas Tryz.f180.ntmps (bodyOf Tryz.f180) Tryz.f180.results.toList [(.bor,Y_impl_Group),(.bor,(.int .i64)),(.bor,(.int .i64))] [(.bool,.b)] (t0,t1,t2,())=f_I_Group_runHas t0 t1 t2:=by kernel_rfl
theorem ok_I_Group_runHas:FnOk gl Tryz.prog 180 ct_I_Group_runHas:=
 fnOk (cx:=cx_I_Group_runHas) (pl:=pl_I_Group_runHas) (dp:=3) (ok0_of tabOk (by unfold ArrOk;kernel_rfl) mix trivial ⟨⟨Tryz.func230,by kernel_rfl,(by rw[show loopsOf (bodyOf Tryz.f230)=[] from by kernel_rfl];exact trivial)⟩,⟨Tryz.func266,by kernel_rfl,(by rw[show loopsOf (bodyOf Tryz.f266)=[((loopsOf (bodyOf Tryz.f266)).getD 0 .skip)] from by kernel_rfl];exact⟨(by rw[show lookup pl_I_Group_runHas_266.loops (firstId ((loopsOf (bodyOf Tryz.f266)).getD 0 .skip))=some lp_I_Group_runHas_266_2 from by kernel_rfl];exact fun d z h=>(eb_I_Group_runHas_266_2 d.1 d.2.1 d.2.2.1 d.2.2.2.1 d.2.2.2.2.1 d.2.2.2.2.2.1 d.2.2.2.2.2.2.1 d.2.2.2.2.2.2.2.1 d.2.2.2.2.2.2.2.2.1 d.2.2.2.2.2.2.2.2.2.1 d.2.2.2.2.2.2.2.2.2.2.1 d.2.2.2.2.2.2.2.2.2.2.2.1 d.2.2.2.2.2.2.2.2.2.2.2.2.1 d.2.2.2.2.2.2.2.2.2.2.2.2.2.1).trans h),trivial⟩)⟩,⟨Tryz.func237,by kernel_rfl,(by rw[show loopsOf (bodyOf Tryz.f237)=[] from by kernel_rfl];exact trivial)⟩,trivial⟩) Tryz.func180 (by kernel_rfl) (by kernel_rfl) (by kernel_rfl)
  (by rw[show loopsOf (bodyOf Tryz.f180)=[((loopsOf (bodyOf Tryz.f180)).getD 0 .skip),((loopsOf (bodyOf Tryz.f180)).getD 1 .skip)] from by kernel_rfl];exact⟨(by rw[show lookup pl_I_Group_runHas.loops (firstId ((loopsOf (bodyOf Tryz.f180)).getD 0 .skip))=some lp_I_Group_runHas_2 from by kernel_rfl];exact fun d z h=>(eb_I_Group_runHas_2 d.1 d.2.1 d.2.2.1 d.2.2.2.1).trans h),(by rw[show lookup pl_I_Group_runHas.loops (firstId ((loopsOf (bodyOf Tryz.f180)).getD 1 .skip))=some lp_I_Group_runHas_4 from by kernel_rfl];exact fun d z h=>(eb_I_Group_runHas_4 d.1 d.2.1 d.2.2.1 d.2.2.2.1).trans h),trivial⟩) (fun x=>ef_I_Group_runHas x.1 x.2.1 x.2.2.1)
noncomputable def pl_I_shown:Plan:=⟨[],[],0,0⟩
noncomputable def f_I_shown (t0:PV .str)(t1:PV .str):Option (PVs [.str]×PVs []):=(f_I_isEnded t1).bind fun r4=>bif r4.1.1 then bif decide (t0.length+t1.length≤1099511627776) then some (((t0++t1),()),()) else none else bif decide (t0.length+t1.length≤1099511627776) then bif decide ((t0++t1).length+[10].length≤1099511627776) then bif decide (((t0++t1)++[10]).length+[92,32,110,111,110,101,10].length≤1099511627776) then some (((((t0++t1)++[10])++[92,32,110,111,110,101,10]),()),()) else none else none else none
noncomputable def ct_I_shown:Ct:=⟨[(.bor,.str),(.bor,.str)],[(.str,.b)],fun x=>f_I_shown x.1 x.2.1⟩
noncomputable def cx_I_shown:Cx:=⟨tab,arrs,[(157,ct_I_isEnded)],[],gl,[]⟩
theorem ef_I_shown (t0:PV .str)(t1:PV .str):denF cx_I_shown 0 pl_I_shown Tryz.f181.ntmps (bodyOf Tryz.f181) Tryz.f181.results.toList [(.bor,.str),(.bor,.str)] [(.str,.b)] (t0,t1,())=f_I_shown t0 t1:=by kernel_rfl
theorem ok_I_shown:FnOk gl Tryz.prog 181 ct_I_shown:=
 fnOk (cx:=cx_I_shown) (pl:=pl_I_shown) (dp:=0) (ok0_of tabOk (by unfold ArrOk;kernel_rfl) mix ⟨ok_I_isEnded,trivial⟩ trivial) Tryz.func181 (by kernel_rfl) (by kernel_rfl) (by kernel_rfl)
  (by rw[show loopsOf (bodyOf Tryz.f181)=[] from by kernel_rfl];exact trivial) (fun x=>ef_I_shown x.1 x.2.1)
noncomputable def pl_I_Row_sign:Plan:=⟨[],[],0,0⟩
noncomputable def f_I_Row_sign (t0:PV Y_impl_Row):Option (PVs [.str]×PVs []):=bif cutB t0.1 (IntKind.wrap .i64 (t0.1+1)) [63,32,45,43].length then some (((cutL t0.1 (IntKind.wrap .i64 (t0.1+1)) [63,32,45,43]),()),()) else none
noncomputable def ct_I_Row_sign:Ct:=⟨[(.bor,Y_impl_Row)],[(.str,.b)],fun x=>f_I_Row_sign x.1⟩
noncomputable def cx_I_Row_sign:Cx:=⟨tab,arrs,[],[],gl,[]⟩
theorem ef_I_Row_sign (t0:PV Y_impl_Row):denF cx_I_Row_sign 0 pl_I_Row_sign Tryz.f182.ntmps (bodyOf Tryz.f182) Tryz.f182.results.toList [(.bor,Y_impl_Row)] [(.str,.b)] (t0,())=f_I_Row_sign t0:=by kernel_rfl
theorem ok_I_Row_sign:FnOk gl Tryz.prog 182 ct_I_Row_sign:=
 fnOk (cx:=cx_I_Row_sign) (pl:=pl_I_Row_sign) (dp:=0) (ok0_of tabOk (by unfold ArrOk;kernel_rfl) mix trivial trivial) Tryz.func182 (by kernel_rfl) (by kernel_rfl) (by kernel_rfl)
  (by rw[show loopsOf (bodyOf Tryz.f182)=[] from by kernel_rfl];exact trivial) (fun x=>ef_I_Row_sign x.1)
noncomputable def o_I_Group_half_8:List Out:=[⟨.normal,⟨[],[1,2,5,7,9,10,11,29],[]⟩,mkSh 46 [(1,.val (.int .i64) .b),(2,.var Y_impl_Group .b),(5,.val .str .b),(7,.var Y_impl_Row .b),(9,.val S_impl_Row .b),(10,.val (.int .i64) .b),(11,.val (.int .i64) .b),(29,.val .bool .b)]⟩]
noncomputable def o_I_Group_half_9:List Out:=[⟨.normal,⟨[],[1,2,5,9,10,11,34,35,36,37],[]⟩,mkSh 46 [(1,.val (.int .i64) .b),(2,.var Y_impl_Group .b),(5,.val .str .b),(9,.val S_impl_Row .b),(10,.val (.int .i64) .b),(11,.val (.int .i64) .b)]⟩]
noncomputable def sh_I_Group_half_3:List Sh:=mkSh 46 [(1,.val (.int .i64) .b),(2,.var Y_impl_Group .b),(5,.val .str .b),(9,.val S_impl_Row .b),(10,.val (.int .i64) .b),(11,.val (.int .i64) .b)]
noncomputable def o_I_Group_half_3:List Out:=[⟨.exit 0,⟨[],[5],[]⟩,mkSh 46 [(5,.val .str .b)]⟩]
noncomputable def b_I_Group_half_3 (t1:PV (.int .i64))(t2:PV Y_impl_Group)(t5:PV .str)(t9:PV S_impl_Row)(t10:PV (.int .i64))(t11:PV (.int .i64)):Option ((PV (.int .i64)×PV Y_impl_Group×PV .str×PV S_impl_Row×PV (.int .i64)×PV (.int .i64)×Unit)⊕((PV .str×Unit))):=bif (decide (t11<t10)) then((bif inB t11 t9.length then bif (((t9.getD t11.toNat (dflt Y_impl_Row)).1)==t1) then some (t1,t2,t5,t9,t10,t11,()) else((bif (!(((t9.getD t11.toNat (dflt Y_impl_Row)).1)==1)) then(f_I_Group_runHas t2 t11 t1).bind fun r1=>some (t1,t2,t5,(t9.getD t11.toNat (dflt Y_impl_Row)),t9,t10,t11,r1.1.1,()) else some (t1,t2,t5,(t9.getD t11.toNat (dflt Y_impl_Row)),t9,t10,t11,false,()):Option ((PV (.int .i64)×PV Y_impl_Group×PV .str×PV Y_impl_Row×PV S_impl_Row×PV (.int .i64)×PV (.int .i64)×PV .bool×Unit)))).bind fun j2=>bif j2.2.2.2.2.2.2.2.1 then(f_I_shown [33,32] j2.2.2.2.1.2.1).bind fun r3=>bif decide (j2.2.2.1.length+r3.1.1.length≤1099511627776) then some (j2.1,j2.2.1,(j2.2.2.1++r3.1.1),j2.2.2.2.2.1,j2.2.2.2.2.2.1,j2.2.2.2.2.2.2.1,()) else none else(f_I_Row_sign j2.2.2.2.1).bind fun r4=>bif decide (r4.1.1.length+[32].length≤1099511627776) then(f_I_shown (r4.1.1++[32]) j2.2.2.2.1.2.1).bind fun r5=>bif decide (j2.2.2.1.length+r5.1.1.length≤1099511627776) then some (j2.1,j2.2.1,(j2.2.2.1++r5.1.1),j2.2.2.2.2.1,j2.2.2.2.2.2.1,j2.2.2.2.2.2.2.1,()) else none else none else none:Option ((PV (.int .i64)×PV Y_impl_Group×PV .str×PV S_impl_Row×PV (.int .i64)×PV (.int .i64)×Unit)))).bind fun j6=>some (.inl (j6.1,j6.2.1,j6.2.2.1,j6.2.2.2.1,j6.2.2.2.2.1,(IntKind.wrap .i64 (j6.2.2.2.2.2.1+1)),())) else some (.inr (t5,()))
noncomputable def w_I_Group_half_3:PV (.int .i64)×PV Y_impl_Group×PV .str×PV S_impl_Row×PV (.int .i64)×PV (.int .i64)×Unit→Option ((PV .str×Unit)):=fix fun d=>b_I_Group_half_3 d.1 d.2.1 d.2.2.1 d.2.2.2.1 d.2.2.2.2.1 d.2.2.2.2.2.1
noncomputable def lp_I_Group_half_3:Lp:=⟨⟨[],[1,2,5,9,10,11,34,35,36,37],[]⟩,sh_I_Group_half_3,o_I_Group_half_3,fun d=>b_I_Group_half_3 d.1 d.2.1 d.2.2.1 d.2.2.2.1 d.2.2.2.2.1 d.2.2.2.2.2.1⟩
noncomputable def pl_I_Group_half:Plan:=⟨[(8,o_I_Group_half_8),(9,o_I_Group_half_9)],[(3,lp_I_Group_half_3)],0,0⟩
noncomputable def f_I_Group_half (t0:PV Y_impl_Group)(t1:PV (.int .i64)):Option (PVs [.str]×PVs []):=(w_I_Group_half_3 (t1,t0,[],t0.2.2.1,(t0.2.2.1.length:Int),0,())).bind fun l8=>some ((l8.1,()),())
noncomputable def ct_I_Group_half:Ct:=⟨[(.bor,Y_impl_Group),(.bor,(.int .i64))],[(.str,.b)],fun x=>f_I_Group_half x.1 x.2.1⟩
noncomputable def cx_I_Group_half:Cx:=⟨tab,arrs,[(180,ct_I_Group_runHas),(181,ct_I_shown),(182,ct_I_Row_sign)],[],gl,[]⟩
theorem eb_I_Group_half_3 (t1:PV (.int .i64))(t2:PV Y_impl_Group)(t5:PV .str)(t9:PV S_impl_Row)(t10:PV (.int .i64))(t11:PV (.int .i64)):denK cx_I_Group_half (rcN cx_I_Group_half 0) pl_I_Group_half 0 ((loopsOf (bodyOf Tryz.f107)).getD 0 .skip) (fillS sh_I_Group_half_3 (t1,t2,t5,t9,t10,t11,())) (roundK 0 lp_I_Group_half_3)=b_I_Group_half_3 t1 t2 t5 t9 t10 t11:=by kernel_rfl
theorem ef_I_Group_half (t0:PV Y_impl_Group)(t1:PV (.int .i64)):denF cx_I_Group_half 0 pl_I_Group_half Tryz.f107.ntmps (bodyOf Tryz.f107) Tryz.f107.results.toList [(.bor,Y_impl_Group),(.bor,(.int .i64))] [(.str,.b)] (t0,t1,())=f_I_Group_half t0 t1:=by kernel_rfl
theorem ok_I_Group_half:FnOk gl Tryz.prog 107 ct_I_Group_half:=
 fnOk (cx:=cx_I_Group_half) (pl:=pl_I_Group_half) (dp:=0) (ok0_of tabOk (by unfold ArrOk;kernel_rfl) mix ⟨ok_I_Group_runHas,ok_I_shown,ok_I_Row_sign,trivial⟩ trivial) Tryz.func107 (by kernel_rfl) (by kernel_rfl) (by kernel_rfl)
  (by rw[show loopsOf (bodyOf Tryz.f107)=[((loopsOf (bodyOf Tryz.f107)).getD 0 .skip)] from by kernel_rfl];exact⟨(by rw[show lookup pl_I_Group_half.loops (firstId ((loopsOf (bodyOf Tryz.f107)).getD 0 .skip))=some lp_I_Group_half_3 from by kernel_rfl];exact fun d z h=>(eb_I_Group_half_3 d.1 d.2.1 d.2.2.1 d.2.2.2.1 d.2.2.2.2.1 d.2.2.2.2.2.1).trans h),trivial⟩) (fun x=>ef_I_Group_half x.1 x.2.1)
noncomputable def o_I_sidesText_9:List Out:=[⟨.normal,⟨[],[3,5,7,8,9,10],[]⟩,mkSh 60 [(3,.val .str .b),(5,.var Y_impl_Group .b),(7,.val (.int .i64) .b),(8,.val S_impl_Group .b),(9,.val (.int .i64) .b),(10,.val (.int .i64) .b)]⟩]
noncomputable def o_I_sidesText_12:List Out:=[⟨.normal,⟨[],[3,8,9,10],[]⟩,mkSh 60 [(3,.val .str .b),(8,.val S_impl_Group .b),(9,.val (.int .i64) .b),(10,.val (.int .i64) .b)]⟩]
noncomputable def sh_I_sidesText_3:List Sh:=mkSh 60 [(3,.val .str .b),(8,.val S_impl_Group .b),(9,.val (.int .i64) .b),(10,.val (.int .i64) .b)]
noncomputable def o_I_sidesText_3:List Out:=[⟨.exit 0,⟨[],[3],[]⟩,mkSh 60 [(3,.val .str .b)]⟩]
noncomputable def b_I_sidesText_3 (t3:PV .str)(t8:PV S_impl_Group)(t9:PV (.int .i64))(t10:PV (.int .i64)):Option ((PV .str×PV S_impl_Group×PV (.int .i64)×PV (.int .i64)×Unit)⊕((PV .str×Unit))):=bif (decide (t10<t9)) then((bif inB t10 t8.length then(f_I_Group_old (t8.getD t10.toNat (dflt Y_impl_Group))).bind fun r3=>(f_I_Group_fresh (t8.getD t10.toNat (dflt Y_impl_Group))).bind fun r4=>(f_I_numberOf ((t8.getD t10.toNat (dflt Y_impl_Group)).1) (r3.1.1.length:Int)).bind fun r8=>(f_I_endOf ((t8.getD t10.toNat (dflt Y_impl_Group)).1) (r3.1.1.length:Int)).bind fun r9=>(f_I_pairOf r8.1.1 r9.1.1).bind fun r10=>bif decide ([42,42,42,42,42,42,42,42,42,42,42,42,42,42,42,10,42,42,42,32].length+r10.1.1.length≤1099511627776) then bif decide (([42,42,42,42,42,42,42,42,42,42,42,42,42,42,42,10,42,42,42,32]++r10.1.1).length+[32,42,42,42,42,10].length≤1099511627776) then bif decide (t3.length+(([42,42,42,42,42,42,42,42,42,42,42,42,42,42,42,10,42,42,42,32]++r10.1.1)++[32,42,42,42,42,10]).length≤1099511627776) then(((f_I_Group_has (t8.getD t10.toNat (dflt Y_impl_Group)) 2).bind fun r12=>bif r12.1.1 then(f_I_Group_half (t8.getD t10.toNat (dflt Y_impl_Group)) 3).bind fun r13=>bif decide ((t3++(([42,42,42,42,42,42,42,42,42,42,42,42,42,42,42,10,42,42,42,32]++r10.1.1)++[32,42,42,42,42,10])).length+r13.1.1.length≤1099511627776) then some (((t3++(([42,42,42,42,42,42,42,42,42,42,42,42,42,42,42,10,42,42,42,32]++r10.1.1)++[32,42,42,42,42,10]))++r13.1.1),(t8.getD t10.toNat (dflt Y_impl_Group)),(r4.1.1.length:Int),t8,t9,t10,()) else none else some ((t3++(([42,42,42,42,42,42,42,42,42,42,42,42,42,42,42,10,42,42,42,32]++r10.1.1)++[32,42,42,42,42,10])),(t8.getD t10.toNat (dflt Y_impl_Group)),(r4.1.1.length:Int),t8,t9,t10,()):Option ((PV .str×PV Y_impl_Group×PV (.int .i64)×PV S_impl_Group×PV (.int .i64)×PV (.int .i64)×Unit)))).bind fun j14=>(f_I_numberOf j14.2.1.2.1 j14.2.2.1).bind fun r18=>(f_I_endOf j14.2.1.2.1 j14.2.2.1).bind fun r19=>(f_I_pairOf r18.1.1 r19.1.1).bind fun r20=>bif decide ([45,45,45,32].length+r20.1.1.length≤1099511627776) then bif decide (([45,45,45,32]++r20.1.1).length+[32,45,45,45,45,10].length≤1099511627776) then bif decide (j14.1.length+(([45,45,45,32]++r20.1.1)++[32,45,45,45,45,10]).length≤1099511627776) then(f_I_Group_has j14.2.1 3).bind fun r22=>bif r22.1.1 then(f_I_Group_half j14.2.1 2).bind fun r23=>bif decide ((j14.1++(([45,45,45,32]++r20.1.1)++[32,45,45,45,45,10])).length+r23.1.1.length≤1099511627776) then some (((j14.1++(([45,45,45,32]++r20.1.1)++[32,45,45,45,45,10]))++r23.1.1),j14.2.2.2.1,j14.2.2.2.2.1,j14.2.2.2.2.2.1,()) else none else some ((j14.1++(([45,45,45,32]++r20.1.1)++[32,45,45,45,45,10])),j14.2.2.2.1,j14.2.2.2.2.1,j14.2.2.2.2.2.1,()) else none else none else none else none else none else none else none:Option ((PV .str×PV S_impl_Group×PV (.int .i64)×PV (.int .i64)×Unit)))).bind fun j24=>some (.inl (j24.1,j24.2.1,j24.2.2.1,(IntKind.wrap .i64 (j24.2.2.2.1+1)),())) else some (.inr (t3,()))
noncomputable def w_I_sidesText_3:PV .str×PV S_impl_Group×PV (.int .i64)×PV (.int .i64)×Unit→Option ((PV .str×Unit)):=fix fun d=>b_I_sidesText_3 d.1 d.2.1 d.2.2.1 d.2.2.2.1
noncomputable def lp_I_sidesText_3:Lp:=⟨⟨[],[3,8,9,10],[]⟩,sh_I_sidesText_3,o_I_sidesText_3,fun d=>b_I_sidesText_3 d.1 d.2.1 d.2.2.1 d.2.2.2.1⟩
noncomputable def pl_I_sidesText:Plan:=⟨[(9,o_I_sidesText_9),(12,o_I_sidesText_12)],[(3,lp_I_sidesText_3)],0,0⟩
noncomputable def f_I_sidesText (t0:PV S_impl_Group):Option (PVs [.str]×PVs []):=(w_I_sidesText_3 ([],t0,(t0.length:Int),0,())).bind fun l26=>some ((l26.1,()),())
noncomputable def ct_I_sidesText:Ct:=⟨[(.bor,S_impl_Group)],[(.str,.b)],fun x=>f_I_sidesText x.1⟩
noncomputable def cx_I_sidesText:Cx:=⟨tab,arrs,[(107,ct_I_Group_half),(136,ct_I_pairOf),(150,ct_I_Group_old),(151,ct_I_Group_fresh),(165,ct_I_numberOf),(166,ct_I_endOf),(167,ct_I_Group_has)],[],gl,[]⟩
theorem eb_I_sidesText_3 (t3:PV .str)(t8:PV S_impl_Group)(t9:PV (.int .i64))(t10:PV (.int .i64)):denK cx_I_sidesText (rcN cx_I_sidesText 0) pl_I_sidesText 0 ((loopsOf (bodyOf Tryz.f99)).getD 0 .skip) (fillS sh_I_sidesText_3 (t3,t8,t9,t10,())) (roundK 0 lp_I_sidesText_3)=b_I_sidesText_3 t3 t8 t9 t10:=by kernel_rfl
theorem ef_I_sidesText (t0:PV S_impl_Group):denF cx_I_sidesText 0 pl_I_sidesText Tryz.f99.ntmps (bodyOf Tryz.f99) Tryz.f99.results.toList [(.bor,S_impl_Group)] [(.str,.b)] (t0,())=f_I_sidesText t0:=by kernel_rfl
theorem ok_I_sidesText:FnOk gl Tryz.prog 99 ct_I_sidesText:=
 fnOk (cx:=cx_I_sidesText) (pl:=pl_I_sidesText) (dp:=0) (ok0_of tabOk (by unfold ArrOk;kernel_rfl) mix ⟨ok_I_Group_half,ok_I_pairOf,ok_I_Group_old,ok_I_Group_fresh,ok_I_numberOf,ok_I_endOf,ok_I_Group_has,trivial⟩ trivial) Tryz.func99 (by kernel_rfl) (by kernel_rfl) (by kernel_rfl)
  (by rw[show loopsOf (bodyOf Tryz.f99)=[((loopsOf (bodyOf Tryz.f99)).getD 0 .skip)] from by kernel_rfl];exact⟨(by rw[show lookup pl_I_sidesText.loops (firstId ((loopsOf (bodyOf Tryz.f99)).getD 0 .skip))=some lp_I_sidesText_3 from by kernel_rfl];exact fun d z h=>(eb_I_sidesText_3 d.1 d.2.1 d.2.2.1 d.2.2.2.1).trans h),trivial⟩) (fun x=>ef_I_sidesText x.1)
noncomputable def pl_I_short:Plan:=⟨[],[],0,0⟩
noncomputable def f_I_short (t0:PV .str):Option (PVs [.str,.bool]×PVs []):=bif (decide ((t0.length:Int)>3000)) then some (([],false,()),()) else some ((t0,true,()),())
noncomputable def ct_I_short:Ct:=⟨[(.bor,.str)],[(.str,.b),(.bool,.b)],fun x=>f_I_short x.1⟩
noncomputable def cx_I_short:Cx:=⟨tab,arrs,[],[],gl,[]⟩
theorem ef_I_short (t0:PV .str):denF cx_I_short 0 pl_I_short Tryz.f71.ntmps (bodyOf Tryz.f71) Tryz.f71.results.toList [(.bor,.str)] [(.str,.b),(.bool,.b)] (t0,())=f_I_short t0:=by kernel_rfl
theorem ok_I_short:FnOk gl Tryz.prog 71 ct_I_short:=
 fnOk (cx:=cx_I_short) (pl:=pl_I_short) (dp:=0) (ok0_of tabOk (by unfold ArrOk;kernel_rfl) mix trivial trivial) Tryz.func71 (by kernel_rfl) (by kernel_rfl) (by kernel_rfl)
  (by rw[show loopsOf (bodyOf Tryz.f71)=[] from by kernel_rfl];exact trivial) (fun x=>ef_I_short x.1)
noncomputable def pl_I_SidesText:Plan:=⟨[],[],0,0⟩
noncomputable def f_I_SidesText (t0:PV S_impl_Group):Option (PVs [.str,.bool]×PVs []):=(f_I_goodGroups t0).bind fun r4=>bif (!r4.1.1) then some (([],false,()),()) else(f_I_sidesText t0).bind fun r5=>(f_I_short r5.1.1).bind fun r6=>some ((r6.1.1,r6.1.2.1,()),())
noncomputable def ct_I_SidesText:Ct:=⟨[(.bor,S_impl_Group)],[(.str,.b),(.bool,.b)],fun x=>f_I_SidesText x.1⟩
noncomputable def cx_I_SidesText:Cx:=⟨tab,arrs,[(71,ct_I_short),(86,ct_I_goodGroups),(99,ct_I_sidesText)],[],gl,[]⟩
theorem ef_I_SidesText (t0:PV S_impl_Group):denF cx_I_SidesText 0 pl_I_SidesText Tryz.f46.ntmps (bodyOf Tryz.f46) Tryz.f46.results.toList [(.bor,S_impl_Group)] [(.str,.b),(.bool,.b)] (t0,())=f_I_SidesText t0:=by kernel_rfl
theorem ok_I_SidesText:FnOk gl Tryz.prog 46 ct_I_SidesText:=
 fnOk (cx:=cx_I_SidesText) (pl:=pl_I_SidesText) (dp:=0) (ok0_of tabOk (by unfold ArrOk;kernel_rfl) mix ⟨ok_I_short,ok_I_goodGroups,ok_I_sidesText,trivial⟩ trivial) Tryz.func46 (by kernel_rfl) (by kernel_rfl) (by kernel_rfl)
  (by rw[show loopsOf (bodyOf Tryz.f46)=[] from by kernel_rfl];exact trivial) (fun x=>ef_I_SidesText x.1)
noncomputable def o_I_ReadContext_5:List Out:=[⟨.normal,⟨[],[5,31],[]⟩,mkSh 33 [(5,.val S_impl_Group (.row (.pr .b (.pr .b (.pr (.row (.pr .b (.pr .b .b))) .b))))),(31,.val .bool .b)]⟩]
noncomputable def o_I_ReadContext_6:List Out:=[⟨.normal,⟨[],[],[]⟩,mkSh 33 []⟩,⟨.ret,⟨[],[2,3,4],[]⟩,mkSh 33 [(2,.val S_impl_Group (.row (.pr .b (.pr .b (.pr (.row (.pr .b (.pr .b .b))) .b))))),(3,.val (.int .i64) .b),(4,.val .bool .b)]⟩]
noncomputable def pl_I_ReadContext:Plan:=⟨[(5,o_I_ReadContext_5),(6,o_I_ReadContext_6)],[],0,0⟩
noncomputable def f_I_ReadContext (t0:PV .str):Option (PVs [S_impl_Group,(.int .i64),.bool]×PVs []):=
 ((
   bif (decide ((t0.length:Int)≤3000)) then
    (f_I_linesOf t0).bind fun r10=>
      (f_I_readSides r10.1.1).bind fun r11=>
        (f_I_SidesText r11.1.1).bind fun r13=>
          ((
            bif r11.1.2.1 then
             bif r13.1.2.1 then
              some (r11.1.1,(r13.1.1==t0),())
             else
              some (r11.1.1,false,())
            else
             some (r11.1.1,false,()):Option ((PV S_impl_Group×PV .bool×Unit)))).bind fun j14=>
            bif j14.2.1 then
             some (.inr (j14.1,0,true,()))
            else
             some (.inl ())
   else
    some (.inl ()):Option ((Unit)⊕(PV S_impl_Group×PV (.int .i64)×PV .bool×Unit)))).bind fun x17=>
   match x17 with
   | .inl j15=>
     some (([],1,false,()),())
   | .inr j16=>
     some ((j16.1,j16.2.1,j16.2.2.1,()),())
noncomputable def ct_I_ReadContext:Ct:=⟨[(.bor,.str)],[(S_impl_Group,(.row (.pr .b (.pr .b (.pr (.row (.pr .b (.pr .b .b))) .b))))),((.int .i64),.b),(.bool,.b)],fun x=>f_I_ReadContext x.1⟩
noncomputable def cx_I_ReadContext:Cx:=⟨tab,arrs,[(46,ct_I_SidesText),(75,ct_I_linesOf),(101,ct_I_readSides)],[],gl,[]⟩
theorem ef_I_ReadContext (t0:PV .str):denF cx_I_ReadContext 0 pl_I_ReadContext Tryz.f48.ntmps (bodyOf Tryz.f48) Tryz.f48.results.toList [(.bor,.str)] [(S_impl_Group,(.row (.pr .b (.pr .b (.pr (.row (.pr .b (.pr .b .b))) .b))))),((.int .i64),.b),(.bool,.b)] (t0,())=f_I_ReadContext t0:=by kernel_rfl
theorem ok_I_ReadContext:FnOk gl Tryz.prog 48 ct_I_ReadContext:=
 fnOk (cx:=cx_I_ReadContext) (pl:=pl_I_ReadContext) (dp:=0) (ok0_of tabOk (by unfold ArrOk;kernel_rfl) mix ⟨ok_I_SidesText,ok_I_linesOf,ok_I_readSides,trivial⟩ trivial) Tryz.func48 (by kernel_rfl) (by kernel_rfl) (by kernel_rfl)
  (by rw[show loopsOf (bodyOf Tryz.f48)=[] from by kernel_rfl];exact trivial) (fun x=>ef_I_ReadContext x.1)
noncomputable def pl_I_isRange:Plan:=⟨[],[],0,0⟩
noncomputable def f_I_isRange (t0:PV (.int .i64))(t1:PV (.int .i64)):Option (PVs [.bool]×PVs []):=(f_I_in t0 0 999).bind fun r1=>bif r1.1.1 then(f_I_in t1 0 999).bind fun r2=>some ((r2.1.1,()),()) else some ((false,()),())
noncomputable def ct_I_isRange:Ct:=⟨[(.bor,(.int .i64)),(.bor,(.int .i64))],[(.bool,.b)],fun x=>f_I_isRange x.1 x.2.1⟩
noncomputable def cx_I_isRange:Cx:=⟨tab,arrs,[(131,ct_I_in)],[],gl,[]⟩
theorem ef_I_isRange (t0:PV (.int .i64))(t1:PV (.int .i64)):denF cx_I_isRange 0 pl_I_isRange Tryz.f262.ntmps (bodyOf Tryz.f262) Tryz.f262.results.toList [(.bor,(.int .i64)),(.bor,(.int .i64))] [(.bool,.b)] (t0,t1,())=f_I_isRange t0 t1:=by kernel_rfl
theorem ok_I_isRange:FnOk gl Tryz.prog 262 ct_I_isRange:=
 fnOk (cx:=cx_I_isRange) (pl:=pl_I_isRange) (dp:=0) (ok0_of tabOk (by unfold ArrOk;kernel_rfl) mix ⟨ok_I_in,trivial⟩ trivial) Tryz.func262 (by kernel_rfl) (by kernel_rfl) (by kernel_rfl)
  (by rw[show loopsOf (bodyOf Tryz.f262)=[] from by kernel_rfl];exact trivial) (fun x=>ef_I_isRange x.1 x.2.1)
noncomputable def o_I_ReadCount_4:List Out:=[⟨.normal,⟨[],[5,6,8,25,26,27,28],[]⟩,mkSh 32 [(5,.val (.int .i64) .b),(6,.val (.int .i64) .b),(8,.val .bool .b)]⟩]
noncomputable def o_I_ReadCount_6:List Out:=[⟨.normal,⟨[],[5,6,8,25,26,27,28],[]⟩,mkSh 32 [(5,.val (.int .i64) .b),(6,.val (.int .i64) .b),(8,.val .bool .b)]⟩]
noncomputable def o_I_ReadCount_7:List Out:=[⟨.normal,⟨[],[5,6,29],[]⟩,mkSh 32 [(5,.val (.int .i64) .b),(6,.val (.int .i64) .b),(29,.val .bool .b)]⟩]
noncomputable def pl_I_ReadCount:Plan:=⟨[(4,o_I_ReadCount_4),(6,o_I_ReadCount_6),(7,o_I_ReadCount_7)],[],0,0⟩
noncomputable def f_I_ReadCount (t0:PV .str):Option (PVs [(.int .i64),(.int .i64),.bool]×PVs []):=(f_I_readTwo t0).bind fun r2=>((bif (!r2.1.2.2.1) then some (r2.1.1,1,r2.1.2.2.2.1,()) else some (r2.1.1,r2.1.2.1,r2.1.2.2.2.1,()):Option ((PV (.int .i64)×PV (.int .i64)×PV .bool×Unit)))).bind fun j3=>((bif (decide (j3.2.1>0)) then some ((IntKind.wrap .i64 (j3.1 -1)),j3.2.1,j3.2.2.1,()) else some (j3.1,j3.2.1,j3.2.2.1,()):Option ((PV (.int .i64)×PV (.int .i64)×PV .bool×Unit)))).bind fun j4=>((bif (!j4.2.2.1) then some (j4.1,j4.2.1,true,()) else(f_I_isRange j4.1 j4.2.1).bind fun r8=>some (j4.1,j4.2.1,(!r8.1.1),()):Option ((PV (.int .i64)×PV (.int .i64)×PV .bool×Unit)))).bind fun j9=>bif j9.2.2.1 then some ((0,0,false,()),()) else some ((j9.1,j9.2.1,true,()),())
noncomputable def ct_I_ReadCount:Ct:=⟨[(.bor,.str)],[((.int .i64),.b),((.int .i64),.b),(.bool,.b)],fun x=>f_I_ReadCount x.1⟩
noncomputable def cx_I_ReadCount:Cx:=⟨tab,arrs,[(143,ct_I_readTwo),(262,ct_I_isRange)],[],gl,[]⟩
theorem ef_I_ReadCount (t0:PV .str):denF cx_I_ReadCount 0 pl_I_ReadCount Tryz.f220.ntmps (bodyOf Tryz.f220) Tryz.f220.results.toList [(.bor,.str)] [((.int .i64),.b),((.int .i64),.b),(.bool,.b)] (t0,())=f_I_ReadCount t0:=by kernel_rfl
theorem ok_I_ReadCount:FnOk gl Tryz.prog 220 ct_I_ReadCount:=
 fnOk (cx:=cx_I_ReadCount) (pl:=pl_I_ReadCount) (dp:=0) (ok0_of tabOk (by unfold ArrOk;kernel_rfl) mix ⟨ok_I_readTwo,ok_I_isRange,trivial⟩ trivial) Tryz.func220 (by kernel_rfl) (by kernel_rfl) (by kernel_rfl)
  (by rw[show loopsOf (bodyOf Tryz.f220)=[] from by kernel_rfl];exact trivial) (fun x=>ef_I_ReadCount x.1)
noncomputable def pl_strings_IndexByte:Plan:=⟨[],[],0,0⟩
noncomputable def f_strings_IndexByte (t0:PV .str)(t1:PV (.int .u8)):Option (PVs [(.int .i64)]×PVs []):=(f_internal_stringslite_IndexByte t0 t1).bind fun r1=>some ((r1.1.1,()),())
noncomputable def ct_strings_IndexByte:Ct:=⟨[(.bor,.str),(.bor,(.int .u8))],[((.int .i64),.b)],fun x=>f_strings_IndexByte x.1 x.2.1⟩
noncomputable def cx_strings_IndexByte:Cx:=⟨tab,arrs,[(263,ct_internal_stringslite_IndexByte)],[],gl,[]⟩
theorem ef_strings_IndexByte (t0:PV .str)(t1:PV (.int .u8)):denF cx_strings_IndexByte 0 pl_strings_IndexByte Tryz.f221.ntmps (bodyOf Tryz.f221) Tryz.f221.results.toList [(.bor,.str),(.bor,(.int .u8))] [((.int .i64),.b)] (t0,t1,())=f_strings_IndexByte t0 t1:=by kernel_rfl
theorem ok_strings_IndexByte:FnOk gl Tryz.prog 221 ct_strings_IndexByte:=
 fnOk (cx:=cx_strings_IndexByte) (pl:=pl_strings_IndexByte) (dp:=0) (ok0_of tabOk (by unfold ArrOk;kernel_rfl) mix ⟨ok_internal_stringslite_IndexByte,trivial⟩ trivial) Tryz.func221 (by kernel_rfl) (by kernel_rfl) (by kernel_rfl)
  (by rw[show loopsOf (bodyOf Tryz.f221)=[] from by kernel_rfl];exact trivial) (fun x=>ef_strings_IndexByte x.1 x.2.1)
noncomputable def pl_I_headText:Plan:=⟨[],[],0,0⟩
noncomputable def f_I_headText (t0:PV .str)(t1:PV .str):Option (PVs [.str]×PVs []):=bif decide ([64,64,32,45].length+t0.length≤1099511627776) then bif decide (([64,64,32,45]++t0).length+[32,43].length≤1099511627776) then bif decide ((([64,64,32,45]++t0)++[32,43]).length+t1.length≤1099511627776) then bif decide (((([64,64,32,45]++t0)++[32,43])++t1).length+[32,64,64,10].length≤1099511627776) then some (((((([64,64,32,45]++t0)++[32,43])++t1)++[32,64,64,10]),()),()) else none else none else none else none
noncomputable def ct_I_headText:Ct:=⟨[(.bor,.str),(.bor,.str)],[(.str,.b)],fun x=>f_I_headText x.1 x.2.1⟩
noncomputable def cx_I_headText:Cx:=⟨tab,arrs,[],[],gl,[]⟩
theorem ef_I_headText (t0:PV .str)(t1:PV .str):denF cx_I_headText 0 pl_I_headText Tryz.f190.ntmps (bodyOf Tryz.f190) Tryz.f190.results.toList [(.bor,.str),(.bor,.str)] [(.str,.b)] (t0,t1,())=f_I_headText t0 t1:=by kernel_rfl
theorem ok_I_headText:FnOk gl Tryz.prog 190 ct_I_headText:=
 fnOk (cx:=cx_I_headText) (pl:=pl_I_headText) (dp:=0) (ok0_of tabOk (by unfold ArrOk;kernel_rfl) mix trivial trivial) Tryz.func190 (by kernel_rfl) (by kernel_rfl) (by kernel_rfl)
  (by rw[show loopsOf (bodyOf Tryz.f190)=[] from by kernel_rfl];exact trivial) (fun x=>ef_I_headText x.1 x.2.1)
noncomputable def sh_I_rowsText_3:List Sh:=mkSh 21 [(3,.val .str .b),(6,.val S_impl_Row .b),(7,.val (.int .i64) .b),(8,.val (.int .i64) .b)]
noncomputable def o_I_rowsText_3:List Out:=[⟨.exit 0,⟨[],[3],[]⟩,mkSh 21 [(3,.val .str .b)]⟩]
noncomputable def b_I_rowsText_3 (t3:PV .str)(t6:PV S_impl_Row)(t7:PV (.int .i64))(t8:PV (.int .i64)):Option ((PV .str×PV S_impl_Row×PV (.int .i64)×PV (.int .i64)×Unit)⊕((PV .str×Unit))):=bif (decide (t8<t7)) then bif inB t8 t6.length then(f_I_Row_sign (t6.getD t8.toNat (dflt Y_impl_Row))).bind fun r3=>(f_I_shown r3.1.1 (((t6.getD t8.toNat (dflt Y_impl_Row)).2).1)).bind fun r4=>bif decide (t3.length+r4.1.1.length≤1099511627776) then some (.inl ((t3++r4.1.1),t6,t7,(IntKind.wrap .i64 (t8+1)),())) else none else none else some (.inr (t3,()))
noncomputable def w_I_rowsText_3:PV .str×PV S_impl_Row×PV (.int .i64)×PV (.int .i64)×Unit→Option ((PV .str×Unit)):=fix fun d=>b_I_rowsText_3 d.1 d.2.1 d.2.2.1 d.2.2.2.1
noncomputable def lp_I_rowsText_3:Lp:=⟨⟨[],[3,6,7,8],[]⟩,sh_I_rowsText_3,o_I_rowsText_3,fun d=>b_I_rowsText_3 d.1 d.2.1 d.2.2.1 d.2.2.2.1⟩
noncomputable def pl_I_rowsText:Plan:=⟨[],[(3,lp_I_rowsText_3)],0,0⟩
noncomputable def f_I_rowsText (t0:PV S_impl_Row):Option (PVs [.str]×PVs []):=(w_I_rowsText_3 ([],t0,(t0.length:Int),0,())).bind fun l6=>some ((l6.1,()),())
noncomputable def ct_I_rowsText:Ct:=⟨[(.bor,S_impl_Row)],[(.str,.b)],fun x=>f_I_rowsText x.1⟩
noncomputable def cx_I_rowsText:Cx:=⟨tab,arrs,[(181,ct_I_shown),(182,ct_I_Row_sign)],[],gl,[]⟩
theorem eb_I_rowsText_3 (t3:PV .str)(t6:PV S_impl_Row)(t7:PV (.int .i64))(t8:PV (.int .i64)):denK cx_I_rowsText (rcN cx_I_rowsText 0) pl_I_rowsText 0 ((loopsOf (bodyOf Tryz.f192)).getD 0 .skip) (fillS sh_I_rowsText_3 (t3,t6,t7,t8,())) (roundK 0 lp_I_rowsText_3)=b_I_rowsText_3 t3 t6 t7 t8:=by kernel_rfl
theorem ef_I_rowsText (t0:PV S_impl_Row):denF cx_I_rowsText 0 pl_I_rowsText Tryz.f192.ntmps (bodyOf Tryz.f192) Tryz.f192.results.toList [(.bor,S_impl_Row)] [(.str,.b)] (t0,())=f_I_rowsText t0:=by kernel_rfl
theorem ok_I_rowsText:FnOk gl Tryz.prog 192 ct_I_rowsText:=
 fnOk (cx:=cx_I_rowsText) (pl:=pl_I_rowsText) (dp:=0) (ok0_of tabOk (by unfold ArrOk;kernel_rfl) mix ⟨ok_I_shown,ok_I_Row_sign,trivial⟩ trivial) Tryz.func192 (by kernel_rfl) (by kernel_rfl) (by kernel_rfl)
  (by rw[show loopsOf (bodyOf Tryz.f192)=[((loopsOf (bodyOf Tryz.f192)).getD 0 .skip)] from by kernel_rfl];exact⟨(by rw[show lookup pl_I_rowsText.loops (firstId ((loopsOf (bodyOf Tryz.f192)).getD 0 .skip))=some lp_I_rowsText_3 from by kernel_rfl];exact fun d z h=>(eb_I_rowsText_3 d.1 d.2.1 d.2.2.1 d.2.2.2.1).trans h),trivial⟩) (fun x=>ef_I_rowsText x.1)
noncomputable def o_I_takeGroup_8:List Out:=[⟨.normal,⟨[],[0,2,8,11,13,14,15,69,76,77,103,104,105,106,142,143],[]⟩,mkSh 145 [(0,.val S_string .b),(2,.var Y_impl_Group (.pr .b (.pr .b (.pr (.row (.pr .b (.pr .b .b))) .b)))),(8,.val .str .b),(11,.val .str .b),(13,.var Y_impl_Group (.pr .b (.pr .b (.pr (.row (.pr .b (.pr .b .b))) .b)))),(14,.val (.int .i64) .b),(15,.val (.int .i64) .b),(69,.val .bool .b)]⟩]
noncomputable def o_I_takeGroup_11:List Out:=[⟨.exit 0,⟨[],[0,2,8,11,13,14,15,142,143],[]⟩,mkSh 145 [(0,.val S_string .b),(2,.var Y_impl_Group (.pr .b (.pr .b (.pr (.row (.pr .b (.pr .b .b))) .b)))),(8,.val .str .b),(11,.val .str .b),(13,.var Y_impl_Group (.pr .b (.pr .b (.pr (.row (.pr .b (.pr .b .b))) .b)))),(14,.val (.int .i64) .b),(15,.val (.int .i64) .b)]⟩,⟨.normal,⟨[],[0,2,8,11,13,14,15,103,104,105,106,142,143],[]⟩,mkSh 145 [(0,.val S_string .b),(2,.var Y_impl_Group (.pr .b (.pr .b (.pr (.row (.pr .b (.pr .b .b))) .b)))),(8,.val .str .b),(11,.val .str .b),(13,.var Y_impl_Group (.pr .b (.pr .b (.pr (.row (.pr .b (.pr .b .b))) .b)))),(14,.val (.int .i64) .b),(15,.val (.int .i64) .b)]⟩]
noncomputable def o_I_takeGroup_18:List Out:=[⟨.normal,⟨[],[0,2,8,11,13,14,15,18,76,77,107,142,143],[]⟩,mkSh 145 [(0,.val S_string .b),(2,.var Y_impl_Group (.pr .b (.pr .b (.pr (.row (.pr .b (.pr .b .b))) .b)))),(8,.val .str .b),(11,.val .str .b),(13,.var Y_impl_Group (.pr .b (.pr .b (.pr (.row (.pr .b (.pr .b .b))) .b)))),(14,.val (.int .i64) .b),(15,.val (.int .i64) .b),(18,.var Y_impl_Row .b),(107,.val .bool .b)]⟩]
noncomputable def o_I_takeGroup_19:List Out:=[⟨.normal,⟨[(18,.b)],[0,2,8,11,13,14,15,18,76,77,103,104,105,106,142,143],[]⟩,mkSh 145 [(0,.val S_string .b),(2,.var Y_impl_Group (.pr .b (.pr .b (.pr (.row (.pr .b (.pr .b .b))) .b)))),(8,.val .str .b),(11,.val .str .b),(13,.var Y_impl_Group (.pr .b (.pr .b (.pr (.row (.pr .b (.pr .b .b))) .b)))),(14,.val (.int .i64) .b),(15,.val (.int .i64) .b),(18,.var Y_impl_Row .b)]⟩]
noncomputable def o_I_takeGroup_21:List Out:=[⟨.normal,⟨[],[0,2,8,11,13,14,15,18,76,77,103,104,105,106,142,143],[]⟩,mkSh 145 [(0,.val S_string .b),(2,.var Y_impl_Group (.pr .b (.pr .b (.pr (.row (.pr .b (.pr .b .b))) .b)))),(8,.val .str .b),(11,.val .str .b),(13,.var Y_impl_Group (.pr .b (.pr .b (.pr (.row (.pr .b (.pr .b .b))) .b)))),(14,.val (.int .i64) .b),(15,.val (.int .i64) .b),(18,.var Y_impl_Row .b)]⟩]
noncomputable def o_I_takeGroup_23:List Out:=[⟨.normal,⟨[],[0,2,8,11,13,14,15,18,76,77,103,104,105,106,142,143],[]⟩,mkSh 145 [(0,.val S_string .b),(2,.var Y_impl_Group (.pr .b (.pr .b (.pr (.row (.pr .b (.pr .b .b))) .b)))),(8,.val .str .b),(11,.val .str .b),(13,.var Y_impl_Group (.pr .b (.pr .b (.pr (.row (.pr .b (.pr .b .b))) .b)))),(14,.val (.int .i64) .b),(15,.val (.int .i64) .b),(18,.var Y_impl_Row .b)]⟩]
noncomputable def sh_I_takeGroup_10:List Sh:=mkSh 145 [(0,.val S_string .b),(2,.var Y_impl_Group (.pr .b (.pr .b (.pr (.row (.pr .b (.pr .b .b))) .b)))),(8,.val .str .b),(11,.val .str .b),(13,.var Y_impl_Group (.pr .b (.pr .b (.pr (.row (.pr .b (.pr .b .b))) .b)))),(14,.val (.int .i64) .b),(15,.val (.int .i64) .b)]
noncomputable def o_I_takeGroup_10:List Out:=[⟨.exit 0,⟨[],[0,2,8,11,13,14,15,142,143],[]⟩,mkSh 145 [(0,.val S_string .b),(2,.var Y_impl_Group (.pr .b (.pr .b (.pr (.row (.pr .b (.pr .b .b))) .b)))),(8,.val .str .b),(11,.val .str .b),(13,.var Y_impl_Group (.pr .b (.pr .b (.pr (.row (.pr .b (.pr .b .b))) .b)))),(14,.val (.int .i64) .b),(15,.val (.int .i64) .b)]⟩,⟨.ret,⟨[],[2,3,4,5],[]⟩,mkSh 145 [(2,.var Y_impl_Group (.pr .b (.pr .b (.pr (.row (.pr .b (.pr .b .b))) .b)))),(3,.val .str .b),(4,.val S_string (.row .b)),(5,.val .bool .b)]⟩]
noncomputable def b_I_takeGroup_10 (t0:PV S_string)(t2:PV Y_impl_Group)(t8:PV .str)(t11:PV .str)(t13:PV Y_impl_Group)(t14:PV (.int .i64))(t15:PV (.int .i64)):Option ((PV S_string×PV Y_impl_Group×PV .str×PV .str×PV Y_impl_Group×PV (.int .i64)×PV (.int .i64)×Unit)⊕((PV S_string×PV Y_impl_Group×PV .str×PV .str×PV Y_impl_Group×PV (.int .i64)×PV (.int .i64)×Unit)⊕(PV Y_impl_Group×PV .str×PV S_string×PV .bool×Unit))):=
 ((
   bif (decide (t14>0)) then
    some (.inr (t0,t2,t8,t11,t13,t14,t15,()))
   else
    bif (decide (t15>0)) then
     some (.inr (t0,t2,t8,t11,t13,t14,t15,()))
    else
     some (.inl (t0,t2,t8,t11,t13,t14,t15,())):Option ((PV S_string×PV Y_impl_Group×PV .str×PV .str×PV Y_impl_Group×PV (.int .i64)×PV (.int .i64)×Unit)⊕(PV S_string×PV Y_impl_Group×PV .str×PV .str×PV Y_impl_Group×PV (.int .i64)×PV (.int .i64)×Unit)))).bind fun x28=>
   match x28 with
   | .inl j13=>
     some (.inr (.inl (j13.1,j13.2.1,j13.2.2.1,j13.2.2.2.1,j13.2.2.2.2.1,j13.2.2.2.2.2.1,j13.2.2.2.2.2.2.1,())))
   | .inr j14=>
     bif ((j14.1.length:Int)==0) then
      some (.inr (.inr ((0,(0,(([]:PV S_impl_Row),()))),[],[],false,())))
     else
      bif inB 0 j14.1.length then
       bif inB 0 (j14.1.getD ((0:Int).toNat) []).length then
        (f_strings_IndexByte [63,32,45,43] (((j14.1.getD ((0:Int).toNat) []).getD (0:Int).toNat 0).toNat:Int)).bind fun r16=>
          bif inB 0 j14.1.length then
           bif cutB 1 ((j14.1.getD ((0:Int).toNat) []).length:Int) (j14.1.getD ((0:Int).toNat) []).length then
            bif cutB 1 (j14.1.length:Int) j14.1.length then
             bif (decide (r16.1.1<1)) then
              some (.inr (.inr ((0,(0,(([]:PV S_impl_Row),()))),[],[],false,())))
             else
              ((
                ((
                  bif (decide (((cutL 1 (j14.1.length:Int) j14.1).length:Int)>0)) then
                   bif inB 0 (cutL 1 (j14.1.length:Int) j14.1).length then
                    some ((cutL 1 (j14.1.length:Int) j14.1),j14.2.1,j14.2.2.1,j14.2.2.2.1,j14.2.2.2.2.1,j14.2.2.2.2.2.1,j14.2.2.2.2.2.2.1,(r16.1.1,((cutL 1 ((j14.1.getD ((0:Int).toNat) []).length:Int) (j14.1.getD ((0:Int).toNat) [])),())),(((cutL 1 (j14.1.length:Int) j14.1).getD ((0:Int).toNat) [])==[92,32,110,111,110,101,10]),())
                   else
                    none
                  else
                   some ((cutL 1 (j14.1.length:Int) j14.1),j14.2.1,j14.2.2.1,j14.2.2.2.1,j14.2.2.2.2.1,j14.2.2.2.2.2.1,j14.2.2.2.2.2.2.1,(r16.1.1,((cutL 1 ((j14.1.getD ((0:Int).toNat) []).length:Int) (j14.1.getD ((0:Int).toNat) [])),())),false,()):Option ((PV S_string×PV Y_impl_Group×PV .str×PV .str×PV Y_impl_Group×PV (.int .i64)×PV (.int .i64)×PV Y_impl_Row×PV .bool×Unit)))).bind fun j17=>
                  bif j17.2.2.2.2.2.2.2.2.1 then
                   (f_I_plain j17.2.2.2.2.2.2.2.1.2.1).bind fun r18=>
                     bif cutB 1 (j17.1.length:Int) j17.1.length then
                      some ((cutL 1 (j17.1.length:Int) j17.1),j17.2.1,j17.2.2.1,j17.2.2.2.1,j17.2.2.2.2.1,j17.2.2.2.2.2.1,j17.2.2.2.2.2.2.1,(j17.2.2.2.2.2.2.2.1.1,(r18.1.1,j17.2.2.2.2.2.2.2.1.2.2)),())
                     else
                      none
                  else
                   some (j17.1,j17.2.1,j17.2.2.1,j17.2.2.2.1,j17.2.2.2.2.1,j17.2.2.2.2.2.1,j17.2.2.2.2.2.2.1,j17.2.2.2.2.2.2.2.1,()):Option ((PV S_string×PV Y_impl_Group×PV .str×PV .str×PV Y_impl_Group×PV (.int .i64)×PV (.int .i64)×PV Y_impl_Row×Unit)))).bind fun j19=>
                ((
                  bif (!(j19.2.2.2.2.2.2.2.1.1==3)) then
                   some (j19.1,j19.2.1,j19.2.2.1,j19.2.2.2.1,j19.2.2.2.2.1,(IntKind.wrap .i64 (j19.2.2.2.2.2.1 -1)),j19.2.2.2.2.2.2.1,j19.2.2.2.2.2.2.2.1,())
                  else
                   some (j19.1,j19.2.1,j19.2.2.1,j19.2.2.2.1,j19.2.2.2.2.1,j19.2.2.2.2.2.1,j19.2.2.2.2.2.2.1,j19.2.2.2.2.2.2.2.1,()):Option ((PV S_string×PV Y_impl_Group×PV .str×PV .str×PV Y_impl_Group×PV (.int .i64)×PV (.int .i64)×PV Y_impl_Row×Unit)))).bind fun j20=>
                  ((
                    bif (!(j20.2.2.2.2.2.2.2.1.1==2)) then
                     some (j20.1,j20.2.1,j20.2.2.1,j20.2.2.2.1,j20.2.2.2.2.1,j20.2.2.2.2.2.1,(IntKind.wrap .i64 (j20.2.2.2.2.2.2.1 -1)),j20.2.2.2.2.2.2.2.1,())
                    else
                     some (j20.1,j20.2.1,j20.2.2.1,j20.2.2.2.1,j20.2.2.2.2.1,j20.2.2.2.2.2.1,j20.2.2.2.2.2.2.1,j20.2.2.2.2.2.2.2.1,()):Option ((PV S_string×PV Y_impl_Group×PV .str×PV .str×PV Y_impl_Group×PV (.int .i64)×PV (.int .i64)×PV Y_impl_Row×Unit)))).bind fun j21=>
                    bif roomB (j21.2.2.2.2.1.2.2.1.length+[j21.2.2.2.2.2.2.2.1].length) then
                     some (.inl (j21.1,j21.2.1,j21.2.2.1,j21.2.2.2.1,(j21.2.2.2.2.1.1,(j21.2.2.2.2.1.2.1,((j21.2.2.2.2.1.2.2.1++[j21.2.2.2.2.2.2.2.1]),j21.2.2.2.2.1.2.2.2))),j21.2.2.2.2.2.1,j21.2.2.2.2.2.2.1,()))
                    else
                     none
            else
             none
           else
            none
          else
           none
       else
        none
      else
       none
noncomputable def w_I_takeGroup_10:PV S_string×PV Y_impl_Group×PV .str×PV .str×PV Y_impl_Group×PV (.int .i64)×PV (.int .i64)×Unit→Option ((PV S_string×PV Y_impl_Group×PV .str×PV .str×PV Y_impl_Group×PV (.int .i64)×PV (.int .i64)×Unit)⊕(PV Y_impl_Group×PV .str×PV S_string×PV .bool×Unit)):=fix fun d=>b_I_takeGroup_10 d.1 d.2.1 d.2.2.1 d.2.2.2.1 d.2.2.2.2.1 d.2.2.2.2.2.1 d.2.2.2.2.2.2.1
noncomputable def lp_I_takeGroup_10:Lp:=⟨⟨[],[0,2,8,11,13,14,15,76,77,103,104,105,106,142,143],[]⟩,sh_I_takeGroup_10,o_I_takeGroup_10,fun d=>b_I_takeGroup_10 d.1 d.2.1 d.2.2.1 d.2.2.2.1 d.2.2.2.2.1 d.2.2.2.2.2.1 d.2.2.2.2.2.2.1⟩
noncomputable def pl_I_takeGroup:Plan:=⟨[(8,o_I_takeGroup_8),(11,o_I_takeGroup_11),(18,o_I_takeGroup_18),(19,o_I_takeGroup_19),(21,o_I_takeGroup_21),(23,o_I_takeGroup_23)],[(10,lp_I_takeGroup_10)],0,0⟩
noncomputable def f_I_takeGroup (t0:PV S_string):Option (PVs [Y_impl_Group,.str,S_string,.bool]×PVs []):=
 bif inB 0 t0.length then
  (f_strings_CutPrefix (t0.getD ((0:Int).toNat) []) [64,64,32,45]).bind fun r2=>
    (f_strings_Cut r2.1.1 [32,43]).bind fun r4=>
      (f_strings_CutSuffix r4.1.2.1 [32,64,64,10]).bind fun r6=>
        (f_I_ReadCount r4.1.1).bind fun r8=>
          (f_I_ReadCount r6.1.1).bind fun r10=>
            ((
              bif (!r2.1.2.1) then
               some (t0,(0,(0,(([]:PV S_impl_Row),()))),r4.1.1,r6.1.1,(r8.1.1,(r10.1.1,(([]:PV S_impl_Row),()))),r8.1.2.1,r10.1.2.1,true,())
              else
               bif (!r4.1.2.2.1) then
                some (t0,(0,(0,(([]:PV S_impl_Row),()))),r4.1.1,r6.1.1,(r8.1.1,(r10.1.1,(([]:PV S_impl_Row),()))),r8.1.2.1,r10.1.2.1,true,())
               else
                bif (!r6.1.2.1) then
                 some (t0,(0,(0,(([]:PV S_impl_Row),()))),r4.1.1,r6.1.1,(r8.1.1,(r10.1.1,(([]:PV S_impl_Row),()))),r8.1.2.1,r10.1.2.1,true,())
                else
                 bif (!r8.1.2.2.1) then
                  some (t0,(0,(0,(([]:PV S_impl_Row),()))),r4.1.1,r6.1.1,(r8.1.1,(r10.1.1,(([]:PV S_impl_Row),()))),r8.1.2.1,r10.1.2.1,true,())
                 else
                  some (t0,(0,(0,(([]:PV S_impl_Row),()))),r4.1.1,r6.1.1,(r8.1.1,(r10.1.1,(([]:PV S_impl_Row),()))),r8.1.2.1,r10.1.2.1,(!r10.1.2.2.1),()):Option ((PV S_string×PV Y_impl_Group×PV .str×PV .str×PV Y_impl_Group×PV (.int .i64)×PV (.int .i64)×PV .bool×Unit)))).bind fun j12=>
              bif j12.2.2.2.2.2.2.2.1 then
               some (((0,(0,(([]:PV S_impl_Row),()))),[],[],false,()),())
              else
               bif cutB 1 (j12.1.length:Int) j12.1.length then
                (w_I_takeGroup_10 ((cutL 1 (j12.1.length:Int) j12.1),j12.2.1,j12.2.2.1,j12.2.2.2.1,j12.2.2.2.2.1,j12.2.2.2.2.2.1,j12.2.2.2.2.2.2.1,())).bind fun x29=>
                  match x29 with
                  | .inl l24=>
                    (f_I_headText l24.2.2.1 l24.2.2.2.1).bind fun r25=>
                      (f_I_rowsText l24.2.2.2.2.1.2.2.1).bind fun r26=>
                        bif decide (r25.1.1.length+r26.1.1.length≤1099511627776) then
                         bif (l24.2.2.2.2.2.1==0) then
                          some ((l24.2.2.2.2.1,(r25.1.1++r26.1.1),l24.1,(l24.2.2.2.2.2.2.1==0),()),())
                         else
                          some ((l24.2.2.2.2.1,(r25.1.1++r26.1.1),l24.1,false,()),())
                        else
                         none
                  | .inr l27=>
                    some ((l27.1,l27.2.1,l27.2.2.1,l27.2.2.2.1,()),())
               else
                none
 else
  none
noncomputable def ct_I_takeGroup:Ct:=⟨[(.bor,S_string)],[(Y_impl_Group,(.pr .b (.pr .b (.pr (.row (.pr .b (.pr .b .b))) .b)))),(.str,.b),(S_string,.b),(.bool,.b)],fun x=>f_I_takeGroup x.1⟩
noncomputable def cx_I_takeGroup:Cx:=⟨tab,arrs,[(141,ct_I_plain),(190,ct_I_headText),(192,ct_I_rowsText),(211,ct_strings_Cut),(218,ct_strings_CutPrefix),(219,ct_strings_CutSuffix),(220,ct_I_ReadCount),(221,ct_strings_IndexByte)],[],gl,[]⟩
theorem eb_I_takeGroup_10 (t0:PV S_string)(t2:PV Y_impl_Group)(t8:PV .str)(t11:PV .str)(t13:PV Y_impl_Group)(t14:PV (.int .i64))(t15:PV (.int .i64)):denK cx_I_takeGroup (rcN cx_I_takeGroup 0) pl_I_takeGroup 0 ((loopsOf (bodyOf Tryz.f149)).getD 0 .skip) (fillS sh_I_takeGroup_10 (t0,t2,t8,t11,t13,t14,t15,())) (roundK 0 lp_I_takeGroup_10)=b_I_takeGroup_10 t0 t2 t8 t11 t13 t14 t15:=by kernel_rfl
theorem ef_I_takeGroup (t0:PV S_string):denF cx_I_takeGroup 0 pl_I_takeGroup Tryz.f149.ntmps (bodyOf Tryz.f149) Tryz.f149.results.toList [(.bor,S_string)] [(Y_impl_Group,(.pr .b (.pr .b (.pr (.row (.pr .b (.pr .b .b))) .b)))),(.str,.b),(S_string,.b),(.bool,.b)] (t0,())=f_I_takeGroup t0:=by kernel_rfl
theorem ok_I_takeGroup:FnOk gl Tryz.prog 149 ct_I_takeGroup:=
 fnOk (cx:=cx_I_takeGroup) (pl:=pl_I_takeGroup) (dp:=0) (ok0_of tabOk (by unfold ArrOk;kernel_rfl) mix ⟨ok_I_plain,ok_I_headText,ok_I_rowsText,ok_strings_Cut,ok_strings_CutPrefix,ok_strings_CutSuffix,ok_I_ReadCount,ok_strings_IndexByte,trivial⟩ trivial) Tryz.func149 (by kernel_rfl) (by kernel_rfl) (by kernel_rfl)
  (by rw[show loopsOf (bodyOf Tryz.f149)=[((loopsOf (bodyOf Tryz.f149)).getD 0 .skip)] from by kernel_rfl];exact⟨(by rw[show lookup pl_I_takeGroup.loops (firstId ((loopsOf (bodyOf Tryz.f149)).getD 0 .skip))=some lp_I_takeGroup_10 from by kernel_rfl];exact fun d z h=>(eb_I_takeGroup_10 d.1 d.2.1 d.2.2.1 d.2.2.2.1 d.2.2.2.2.1 d.2.2.2.2.2.1 d.2.2.2.2.2.2.1).trans h),trivial⟩) (fun x=>ef_I_takeGroup x.1)
noncomputable def o_I_readUnified_5:List Out:=[⟨.normal,⟨[],[5,6,7,8,9,28],[]⟩,mkSh 39 [(5,.val S_impl_Group (.row (.pr .b (.pr .b (.pr (.row (.pr .b (.pr .b .b))) .b))))),(6,.val .str .b),(7,.var Y_impl_Group (.pr .b (.pr .b (.pr (.row (.pr .b (.pr .b .b))) .b)))),(8,.val .str .b),(9,.val S_string .b),(28,.val .bool .b)]⟩]
noncomputable def sh_I_readUnified_2:List Sh:=mkSh 39 [(0,.val S_string .b),(5,.val S_impl_Group (.row (.pr .b (.pr .b (.pr (.row (.pr .b (.pr .b .b))) .b))))),(6,.val .str .b)]
noncomputable def o_I_readUnified_2:List Out:=[⟨.exit 0,⟨[],[5,6],[]⟩,mkSh 39 [(5,.val S_impl_Group (.row (.pr .b (.pr .b (.pr (.row (.pr .b (.pr .b .b))) .b))))),(6,.val .str .b)]⟩,⟨.ret,⟨[],[2,3,4],[]⟩,mkSh 39 [(2,.val S_impl_Group (.row (.pr .b (.pr .b (.pr (.row (.pr .b (.pr .b .b))) .b))))),(3,.val .str .b),(4,.val .bool .b)]⟩]
noncomputable def b_I_readUnified_2 (t0:PV S_string)(t5:PV S_impl_Group)(t6:PV .str):Option ((PV S_string×PV S_impl_Group×PV .str×Unit)⊕((PV S_impl_Group×PV .str×Unit)⊕(PV S_impl_Group×PV .str×PV .bool×Unit))):=bif (decide ((t0.length:Int)>0)) then(f_I_takeGroup t0).bind fun r2=>((bif (!r2.1.2.2.2.1) then some (t5,t6,r2.1.1,r2.1.2.1,r2.1.2.2.1,true,()) else some (t5,t6,r2.1.1,r2.1.2.1,r2.1.2.2.1,((t5.length:Int)==20),()):Option ((PV S_impl_Group×PV .str×PV Y_impl_Group×PV .str×PV S_string×PV .bool×Unit)))).bind fun j4=>bif j4.2.2.2.2.2.1 then some (.inr (.inr ([],[],false,()))) else bif roomB (j4.1.length+[j4.2.2.1].length) then bif decide (j4.2.1.length+j4.2.2.2.1.length≤1099511627776) then some (.inl (j4.2.2.2.2.1,(j4.1++[j4.2.2.1]),(j4.2.1++j4.2.2.2.1),())) else none else none else some (.inr (.inl (t5,t6,())))
noncomputable def w_I_readUnified_2:PV S_string×PV S_impl_Group×PV .str×Unit→Option ((PV S_impl_Group×PV .str×Unit)⊕(PV S_impl_Group×PV .str×PV .bool×Unit)):=fix fun d=>b_I_readUnified_2 d.1 d.2.1 d.2.2.1
noncomputable def lp_I_readUnified_2:Lp:=⟨⟨[],[0,5,6,25,26,27],[]⟩,sh_I_readUnified_2,o_I_readUnified_2,fun d=>b_I_readUnified_2 d.1 d.2.1 d.2.2.1⟩
noncomputable def pl_I_readUnified:Plan:=⟨[(5,o_I_readUnified_5)],[(2,lp_I_readUnified_2)],0,0⟩
noncomputable def f_I_readUnified (t0:PV S_string):Option (PVs [S_impl_Group,.str,.bool]×PVs []):=
 (w_I_readUnified_2 (t0,([]:PV S_impl_Group),[],())).bind fun x9=>
   match x9 with
   | .inl l7=>
     some ((l7.1,l7.2.1,true,()),())
   | .inr l8=>
     some ((l8.1,l8.2.1,l8.2.2.1,()),())
noncomputable def ct_I_readUnified:Ct:=⟨[(.bor,S_string)],[(S_impl_Group,(.row (.pr .b (.pr .b (.pr (.row (.pr .b (.pr .b .b))) .b))))),(.str,.b),(.bool,.b)],fun x=>f_I_readUnified x.1⟩
noncomputable def cx_I_readUnified:Cx:=⟨tab,arrs,[(149,ct_I_takeGroup)],[],gl,[]⟩
theorem eb_I_readUnified_2 (t0:PV S_string)(t5:PV S_impl_Group)(t6:PV .str):denK cx_I_readUnified (rcN cx_I_readUnified 0) pl_I_readUnified 0 ((loopsOf (bodyOf Tryz.f85)).getD 0 .skip) (fillS sh_I_readUnified_2 (t0,t5,t6,())) (roundK 0 lp_I_readUnified_2)=b_I_readUnified_2 t0 t5 t6:=by kernel_rfl
theorem ef_I_readUnified (t0:PV S_string):denF cx_I_readUnified 0 pl_I_readUnified Tryz.f85.ntmps (bodyOf Tryz.f85) Tryz.f85.results.toList [(.bor,S_string)] [(S_impl_Group,(.row (.pr .b (.pr .b (.pr (.row (.pr .b (.pr .b .b))) .b))))),(.str,.b),(.bool,.b)] (t0,())=f_I_readUnified t0:=by kernel_rfl
theorem ok_I_readUnified:FnOk gl Tryz.prog 85 ct_I_readUnified:=
 fnOk (cx:=cx_I_readUnified) (pl:=pl_I_readUnified) (dp:=0) (ok0_of tabOk (by unfold ArrOk;kernel_rfl) mix ⟨ok_I_takeGroup,trivial⟩ trivial) Tryz.func85 (by kernel_rfl) (by kernel_rfl) (by kernel_rfl)
  (by rw[show loopsOf (bodyOf Tryz.f85)=[((loopsOf (bodyOf Tryz.f85)).getD 0 .skip)] from by kernel_rfl];exact⟨(by rw[show lookup pl_I_readUnified.loops (firstId ((loopsOf (bodyOf Tryz.f85)).getD 0 .skip))=some lp_I_readUnified_2 from by kernel_rfl];exact fun d z h=>(eb_I_readUnified_2 d.1 d.2.1 d.2.2.1).trans h),trivial⟩) (fun x=>ef_I_readUnified x.1)
noncomputable def o_I_ReadUnified_4:List Out:=[⟨.normal,⟨[],[5,27],[]⟩,mkSh 29 [(5,.val S_impl_Group (.row (.pr .b (.pr .b (.pr (.row (.pr .b (.pr .b .b))) .b))))),(27,.val .bool .b)]⟩]
noncomputable def o_I_ReadUnified_5:List Out:=[⟨.normal,⟨[],[],[]⟩,mkSh 29 []⟩,⟨.ret,⟨[],[2,3,4],[]⟩,mkSh 29 [(2,.val S_impl_Group (.row (.pr .b (.pr .b (.pr (.row (.pr .b (.pr .b .b))) .b))))),(3,.val (.int .i64) .b),(4,.val .bool .b)]⟩]
noncomputable def pl_I_ReadUnified:Plan:=⟨[(4,o_I_ReadUnified_4),(5,o_I_ReadUnified_5)],[],0,0⟩
noncomputable def f_I_ReadUnified (t0:PV .str):Option (PVs [S_impl_Group,(.int .i64),.bool]×PVs []):=
 ((
   bif (decide ((t0.length:Int)≤3000)) then
    (f_I_linesOf t0).bind fun r10=>
      (f_I_readUnified r10.1.1).bind fun r11=>
        ((
          bif r11.1.2.2.1 then
           bif (r11.1.2.1==t0) then
            (f_I_goodGroups r11.1.1).bind fun r12=>
              some (r11.1.1,r12.1.1,())
           else
            some (r11.1.1,false,())
          else
           some (r11.1.1,false,()):Option ((PV S_impl_Group×PV .bool×Unit)))).bind fun j13=>
          bif j13.2.1 then
           some (.inr (j13.1,0,true,()))
          else
           some (.inl ())
   else
    some (.inl ()):Option ((Unit)⊕(PV S_impl_Group×PV (.int .i64)×PV .bool×Unit)))).bind fun x16=>
   match x16 with
   | .inl j14=>
     some (([],1,false,()),())
   | .inr j15=>
     some ((j15.1,j15.2.1,j15.2.2.1,()),())
noncomputable def ct_I_ReadUnified:Ct:=⟨[(.bor,.str)],[(S_impl_Group,(.row (.pr .b (.pr .b (.pr (.row (.pr .b (.pr .b .b))) .b))))),((.int .i64),.b),(.bool,.b)],fun x=>f_I_ReadUnified x.1⟩
noncomputable def cx_I_ReadUnified:Cx:=⟨tab,arrs,[(75,ct_I_linesOf),(85,ct_I_readUnified),(86,ct_I_goodGroups)],[],gl,[]⟩
theorem ef_I_ReadUnified (t0:PV .str):denF cx_I_ReadUnified 0 pl_I_ReadUnified Tryz.f36.ntmps (bodyOf Tryz.f36) Tryz.f36.results.toList [(.bor,.str)] [(S_impl_Group,(.row (.pr .b (.pr .b (.pr (.row (.pr .b (.pr .b .b))) .b))))),((.int .i64),.b),(.bool,.b)] (t0,())=f_I_ReadUnified t0:=by kernel_rfl
theorem ok_I_ReadUnified:FnOk gl Tryz.prog 36 ct_I_ReadUnified:=
 fnOk (cx:=cx_I_ReadUnified) (pl:=pl_I_ReadUnified) (dp:=0) (ok0_of tabOk (by unfold ArrOk;kernel_rfl) mix ⟨ok_I_linesOf,ok_I_readUnified,ok_I_goodGroups,trivial⟩ trivial) Tryz.func36 (by kernel_rfl) (by kernel_rfl) (by kernel_rfl)
  (by rw[show loopsOf (bodyOf Tryz.f36)=[] from by kernel_rfl];exact trivial) (fun x=>ef_I_ReadUnified x.1)
noncomputable def sh_slices_Equal_Row_4:List Sh:=mkSh 26 [(0,.val S_impl_Row .b),(1,.val S_impl_Row .b),(12,.val (.int .i64) .b),(13,.val (.int .i64) .b)]
noncomputable def o_slices_Equal_Row_4:List Out:=[⟨.exit 0,⟨[],[],[]⟩,mkSh 26 []⟩,⟨.ret,⟨[],[4],[]⟩,mkSh 26 [(4,.val .bool .b)]⟩]
noncomputable def b_slices_Equal_Row_4 (t0:PV S_impl_Row)(t1:PV S_impl_Row)(t12:PV (.int .i64))(t13:PV (.int .i64)):Option ((PV S_impl_Row×PV S_impl_Row×PV (.int .i64)×PV (.int .i64)×Unit)⊕((Unit)⊕(PV .bool×Unit))):=bif (decide (t13<t12)) then bif inB t13 t0.length then bif inB t13 t1.length then bif (!((t0.getD t13.toNat (dflt Y_impl_Row)).1==(t1.getD t13.toNat (dflt Y_impl_Row)).1&&(t0.getD t13.toNat (dflt Y_impl_Row)).2.1==(t1.getD t13.toNat (dflt Y_impl_Row)).2.1)) then some (.inr (.inr (false,()))) else some (.inl (t0,t1,t12,(IntKind.wrap .i64 (t13+1)),())) else none else none else some (.inr (.inl ()))
noncomputable def w_slices_Equal_Row_4:PV S_impl_Row×PV S_impl_Row×PV (.int .i64)×PV (.int .i64)×Unit→Option ((Unit)⊕(PV .bool×Unit)):=fix fun d=>b_slices_Equal_Row_4 d.1 d.2.1 d.2.2.1 d.2.2.2.1
noncomputable def lp_slices_Equal_Row_4:Lp:=⟨⟨[],[0,1,12,13],[]⟩,sh_slices_Equal_Row_4,o_slices_Equal_Row_4,fun d=>b_slices_Equal_Row_4 d.1 d.2.1 d.2.2.1 d.2.2.2.1⟩
noncomputable def pl_slices_Equal_Row:Plan:=⟨[],[(4,lp_slices_Equal_Row_4)],0,0⟩
noncomputable def f_slices_Equal_Row (t0:PV S_impl_Row)(t1:PV S_impl_Row):Option (PVs [.bool]×PVs []):=
 bif (!((t0.length:Int)==(t1.length:Int))) then
  some ((false,()),())
 else
  (w_slices_Equal_Row_4 (t0,t1,(t0.length:Int),0,())).bind fun x5=>
    match x5 with
    | .inl l3=>
      some ((true,()),())
    | .inr l4=>
      some ((l4.1,()),())
noncomputable def ct_slices_Equal_Row:Ct:=⟨[(.bor,S_impl_Row),(.bor,S_impl_Row)],[(.bool,.b)],fun x=>f_slices_Equal_Row x.1 x.2.1⟩
noncomputable def cx_slices_Equal_Row:Cx:=⟨tab,arrs,[],[],gl,[]⟩
theorem eb_slices_Equal_Row_4 (t0:PV S_impl_Row)(t1:PV S_impl_Row)(t12:PV (.int .i64))(t13:PV (.int .i64)):denK cx_slices_Equal_Row (rcN cx_slices_Equal_Row 0) pl_slices_Equal_Row 0 ((loopsOf (bodyOf Tryz.f119)).getD 0 .skip) (fillS sh_slices_Equal_Row_4 (t0,t1,t12,t13,())) (roundK 0 lp_slices_Equal_Row_4)=b_slices_Equal_Row_4 t0 t1 t12 t13:=by kernel_rfl
theorem ef_slices_Equal_Row (t0:PV S_impl_Row)(t1:PV S_impl_Row):denF cx_slices_Equal_Row 0 pl_slices_Equal_Row Tryz.f119.ntmps (bodyOf Tryz.f119) Tryz.f119.results.toList [(.bor,S_impl_Row),(.bor,S_impl_Row)] [(.bool,.b)] (t0,t1,())=f_slices_Equal_Row t0 t1:=by kernel_rfl
theorem ok_slices_Equal_Row:FnOk gl Tryz.prog 119 ct_slices_Equal_Row:=
 fnOk (cx:=cx_slices_Equal_Row) (pl:=pl_slices_Equal_Row) (dp:=0) (ok0_of tabOk (by unfold ArrOk;kernel_rfl) mix trivial trivial) Tryz.func119 (by kernel_rfl) (by kernel_rfl) (by kernel_rfl)
  (by rw[show loopsOf (bodyOf Tryz.f119)=[((loopsOf (bodyOf Tryz.f119)).getD 0 .skip)] from by kernel_rfl];exact⟨(by rw[show lookup pl_slices_Equal_Row.loops (firstId ((loopsOf (bodyOf Tryz.f119)).getD 0 .skip))=some lp_slices_Equal_Row_4 from by kernel_rfl];exact fun d z h=>(eb_slices_Equal_Row_4 d.1 d.2.1 d.2.2.1 d.2.2.2.1).trans h),trivial⟩) (fun x=>ef_slices_Equal_Row x.1 x.2.1)
noncomputable def pl_I_sameGroups_1:Plan:=⟨[],[],0,0⟩
noncomputable def f_I_sameGroups_1 (t0:PV Y_impl_Group)(t1:PV Y_impl_Group):Option (PVs [.bool]×PVs []):=bif (t0.1==t1.1) then bif (t0.2.1==t1.2.1) then(f_slices_Equal_Row t0.2.2.1 t1.2.2.1).bind fun r1=>some ((r1.1.1,()),()) else some ((false,()),()) else some ((false,()),())
noncomputable def ct_I_sameGroups_1:Ct:=⟨[(.bor,Y_impl_Group),(.bor,Y_impl_Group)],[(.bool,.b)],fun x=>f_I_sameGroups_1 x.1 x.2.1⟩
noncomputable def cx_I_sameGroups_1:Cx:=⟨tab,arrs,[(119,ct_slices_Equal_Row)],[],gl,[]⟩
theorem ef_I_sameGroups_1 (t0:PV Y_impl_Group)(t1:PV Y_impl_Group):denF cx_I_sameGroups_1 0 pl_I_sameGroups_1 Tryz.f118.ntmps (bodyOf Tryz.f118) Tryz.f118.results.toList [(.bor,Y_impl_Group),(.bor,Y_impl_Group)] [(.bool,.b)] (t0,t1,())=f_I_sameGroups_1 t0 t1:=by kernel_rfl
theorem ok_I_sameGroups_1:FnOk gl Tryz.prog 118 ct_I_sameGroups_1:=
 fnOk (cx:=cx_I_sameGroups_1) (pl:=pl_I_sameGroups_1) (dp:=0) (ok0_of tabOk (by unfold ArrOk;kernel_rfl) mix ⟨ok_slices_Equal_Row,trivial⟩ trivial) Tryz.func118 (by kernel_rfl) (by kernel_rfl) (by kernel_rfl)
  (by rw[show loopsOf (bodyOf Tryz.f118)=[] from by kernel_rfl];exact trivial) (fun x=>ef_I_sameGroups_1 x.1 x.2.1)
noncomputable def sh_I_sameGroups_117_4:List Sh:=mkSh 40 [(0,.val S_impl_Group .b),(1,.val S_impl_Group .b),(4,.val .bool .b),(5,.val S_impl_Group .b),(6,.val S_impl_Group .b),(9,.val S_impl_Group .b),(10,.fn 118 []),(23,.val S_impl_Group .b),(24,.val (.int .i64) .b),(25,.val (.int .i64) .b)]
noncomputable def o_I_sameGroups_117_4:List Out:=[⟨.exit 0,⟨[],[],[]⟩,mkSh 40 [(0,.val S_impl_Group .b),(1,.val S_impl_Group .b),(4,.val .bool .b),(5,.val S_impl_Group .b),(6,.val S_impl_Group .b)]⟩,⟨.ret,⟨[],[6],[]⟩,mkSh 40 [(0,.val S_impl_Group .b),(1,.val S_impl_Group .b),(4,.val .bool .b),(5,.val S_impl_Group .b),(6,.val S_impl_Group .b),(14,.val .bool .b)]⟩]
noncomputable def b_I_sameGroups_117_4 (t0:PV S_impl_Group)(t1:PV S_impl_Group)(t4:PV .bool)(t5:PV S_impl_Group)(t6:PV S_impl_Group)(t9:PV S_impl_Group)(t23:PV S_impl_Group)(t24:PV (.int .i64))(t25:PV (.int .i64)):Option ((PV S_impl_Group×PV S_impl_Group×PV .bool×PV S_impl_Group×PV S_impl_Group×PV S_impl_Group×PV S_impl_Group×PV (.int .i64)×PV (.int .i64)×Unit)⊕((PV S_impl_Group×PV S_impl_Group×PV .bool×PV S_impl_Group×PV S_impl_Group×Unit)⊕(PV S_impl_Group×PV S_impl_Group×PV .bool×PV S_impl_Group×PV S_impl_Group×PV .bool×Unit))):=bif (decide (t25<t24)) then bif inB t25 t23.length then bif inB t25 t9.length then(f_I_sameGroups_1 (t23.getD t25.toNat (dflt Y_impl_Group)) (t9.getD t25.toNat (dflt Y_impl_Group))).bind fun r4=>bif (!r4.1.1) then some (.inr (.inr (t0,t1,t4,t5,t6,false,()))) else some (.inl (t0,t1,t4,t5,t6,t9,t23,t24,(IntKind.wrap .i64 (t25+1)),())) else none else none else some (.inr (.inl (t0,t1,t4,t5,t6,())))
noncomputable def w_I_sameGroups_117_4:PV S_impl_Group×PV S_impl_Group×PV .bool×PV S_impl_Group×PV S_impl_Group×PV S_impl_Group×PV S_impl_Group×PV (.int .i64)×PV (.int .i64)×Unit→Option ((PV S_impl_Group×PV S_impl_Group×PV .bool×PV S_impl_Group×PV S_impl_Group×Unit)⊕(PV S_impl_Group×PV S_impl_Group×PV .bool×PV S_impl_Group×PV S_impl_Group×PV .bool×Unit)):=fix fun d=>b_I_sameGroups_117_4 d.1 d.2.1 d.2.2.1 d.2.2.2.1 d.2.2.2.2.1 d.2.2.2.2.2.1 d.2.2.2.2.2.2.1 d.2.2.2.2.2.2.2.1 d.2.2.2.2.2.2.2.2.1
noncomputable def lp_I_sameGroups_117_4:Lp:=⟨⟨[],[1,2,15,16,17],[]⟩,sh_I_sameGroups_117_4,o_I_sameGroups_117_4,fun d=>b_I_sameGroups_117_4 d.1 d.2.1 d.2.2.1 d.2.2.2.1 d.2.2.2.2.1 d.2.2.2.2.2.1 d.2.2.2.2.2.2.1 d.2.2.2.2.2.2.2.1 d.2.2.2.2.2.2.2.2.1⟩
noncomputable def pl_I_sameGroups_117:Plan:=⟨[],[(4,lp_I_sameGroups_117_4)],0,8⟩
noncomputable def pl_I_sameGroups:Plan:=⟨[],[],1,0⟩
noncomputable def f_I_sameGroups (t0:PV S_impl_Group)(t1:PV S_impl_Group):Option (PVs [.bool]×PVs []):=
 bif (!((t0.length:Int)==(t1.length:Int))) then
  some ((false,()),())
 else
  (w_I_sameGroups_117_4 (t0,t1,false,t0,t1,t1,t0,(t0.length:Int),0,())).bind fun x9=>
    match x9 with
    | .inl l7=>
      some ((true,()),())
    | .inr l8=>
      some ((l8.2.2.2.2.2.1,()),())
noncomputable def ct_I_sameGroups:Ct:=⟨[(.bor,S_impl_Group),(.bor,S_impl_Group)],[(.bool,.b)],fun x=>f_I_sameGroups x.1 x.2.1⟩
noncomputable def cx_I_sameGroups:Cx:=⟨tab,arrs,[(118,ct_I_sameGroups_1)],[(117,Tryz.f117,pl_I_sameGroups_117)],gl,[]⟩
theorem eb_I_sameGroups_117_4 (t0:PV S_impl_Group)(t1:PV S_impl_Group)(t4:PV .bool)(t5:PV S_impl_Group)(t6:PV S_impl_Group)(t9:PV S_impl_Group)(t23:PV S_impl_Group)(t24:PV (.int .i64))(t25:PV (.int .i64)):denK cx_I_sameGroups (rcN cx_I_sameGroups 0) pl_I_sameGroups_117 8 ((loopsOf (bodyOf Tryz.f117)).getD 0 .skip) (fillS sh_I_sameGroups_117_4 (t0,t1,t4,t5,t6,t9,t23,t24,t25,())) (roundK 8 lp_I_sameGroups_117_4)=b_I_sameGroups_117_4 t0 t1 t4 t5 t6 t9 t23 t24 t25:=by kernel_rfl
theorem ef_I_sameGroups (t0:PV S_impl_Group)(t1:PV S_impl_Group):denF cx_I_sameGroups 1 pl_I_sameGroups Tryz.f58.ntmps (bodyOf Tryz.f58) Tryz.f58.results.toList [(.bor,S_impl_Group),(.bor,S_impl_Group)] [(.bool,.b)] (t0,t1,())=f_I_sameGroups t0 t1:=by kernel_rfl
theorem ok_I_sameGroups:FnOk gl Tryz.prog 58 ct_I_sameGroups:=
 fnOk (cx:=cx_I_sameGroups) (pl:=pl_I_sameGroups) (dp:=1) (ok0_of tabOk (by unfold ArrOk;kernel_rfl) mix ⟨ok_I_sameGroups_1,trivial⟩ ⟨⟨Tryz.func117,by kernel_rfl,(by rw[show loopsOf (bodyOf Tryz.f117)=[((loopsOf (bodyOf Tryz.f117)).getD 0 .skip)] from by kernel_rfl];exact⟨(by rw[show lookup pl_I_sameGroups_117.loops (firstId ((loopsOf (bodyOf Tryz.f117)).getD 0 .skip))=some lp_I_sameGroups_117_4 from by kernel_rfl];exact fun d z h=>(eb_I_sameGroups_117_4 d.1 d.2.1 d.2.2.1 d.2.2.2.1 d.2.2.2.2.1 d.2.2.2.2.2.1 d.2.2.2.2.2.2.1 d.2.2.2.2.2.2.2.1 d.2.2.2.2.2.2.2.2.1).trans h),trivial⟩)⟩,trivial⟩) Tryz.func58 (by kernel_rfl) (by kernel_rfl) (by kernel_rfl)
  (by rw[show loopsOf (bodyOf Tryz.f58)=[] from by kernel_rfl];exact trivial) (fun x=>ef_I_sameGroups x.1 x.2.1)
noncomputable def o_I_SameSides_4:List Out:=[⟨.normal,⟨[],[6,9,29],[]⟩,mkSh 33 [(6,.val S_impl_Group (.row (.pr .b (.pr .b (.pr (.row (.pr .b (.pr .b .b))) .b))))),(9,.val S_impl_Group (.row (.pr .b (.pr .b (.pr (.row (.pr .b (.pr .b .b))) .b))))),(29,.val .bool .b)]⟩]
noncomputable def pl_I_SameSides:Plan:=⟨[(4,o_I_SameSides_4)],[],0,0⟩
noncomputable def f_I_SameSides (t0:PV .str)(t1:PV .str):Option (PVs [.bool,.bool]×PVs []):=(f_I_ReadContext t0).bind fun r2=>(f_I_ReadUnified t1).bind fun r4=>((bif (!r2.1.2.2.1) then some (r2.1.1,r4.1.1,true,()) else some (r2.1.1,r4.1.1,(!r4.1.2.2.1),()):Option ((PV S_impl_Group×PV S_impl_Group×PV .bool×Unit)))).bind fun j6=>bif j6.2.2.1 then some ((false,false,()),()) else(f_I_sameGroups j6.1 j6.2.1).bind fun r7=>some ((r7.1.1,true,()),())
noncomputable def ct_I_SameSides:Ct:=⟨[(.bor,.str),(.bor,.str)],[(.bool,.b),(.bool,.b)],fun x=>f_I_SameSides x.1 x.2.1⟩
noncomputable def cx_I_SameSides:Cx:=⟨tab,arrs,[(36,ct_I_ReadUnified),(48,ct_I_ReadContext),(58,ct_I_sameGroups)],[],gl,[]⟩
theorem ef_I_SameSides (t0:PV .str)(t1:PV .str):denF cx_I_SameSides 0 pl_I_SameSides Tryz.f15.ntmps (bodyOf Tryz.f15) Tryz.f15.results.toList [(.bor,.str),(.bor,.str)] [(.bool,.b),(.bool,.b)] (t0,t1,())=f_I_SameSides t0 t1:=by kernel_rfl
theorem ok_I_SameSides:FnOk gl Tryz.prog 15 ct_I_SameSides:=
 fnOk (cx:=cx_I_SameSides) (pl:=pl_I_SameSides) (dp:=0) (ok0_of tabOk (by unfold ArrOk;kernel_rfl) mix ⟨ok_I_ReadUnified,ok_I_ReadContext,ok_I_sameGroups,trivial⟩ trivial) Tryz.func15 (by kernel_rfl) (by kernel_rfl) (by kernel_rfl)
  (by rw[show loopsOf (bodyOf Tryz.f15)=[] from by kernel_rfl];exact trivial) (fun x=>ef_I_SameSides x.1 x.2.1)
noncomputable def o_L_FnExactSameSides_8:List Out:=[⟨.normal,⟨[],[34],[]⟩,mkSh 35 [(34,.val .bool .b)]⟩]
noncomputable def pl_L_FnExactSameSides:Plan:=⟨[(8,o_L_FnExactSameSides_8)],[],0,0⟩
noncomputable def f_L_FnExactSameSides (t0:PV .str)(t1:PV .str):Option (PVs [.bool]×PVs []):=bif (decide ((t0.length:Int)>1048576)) then some ((true,()),()) else bif (decide ((t1.length:Int)>1048576)) then some ((true,()),()) else(f_S_SameSides t0 t1).bind fun r2=>(f_I_SameSides t0 t1).bind fun r4=>((bif (!(r4.1.1==r2.1.1)) then some (true,()) else some ((!(r4.1.2.1==r2.1.2.1)),()):Option ((PV .bool×Unit)))).bind fun j6=>bif j6.1 then some ((false,()),()) else some ((true,()),())
noncomputable def ct_L_FnExactSameSides:Ct:=⟨[(.bor,.str),(.bor,.str)],[(.bool,.b)],fun x=>f_L_FnExactSameSides x.1 x.2.1⟩
noncomputable def cx_L_FnExactSameSides:Cx:=⟨tab,arrs,[(15,ct_I_SameSides),(17,ct_S_SameSides)],[],gl,[]⟩
theorem ef_L_FnExactSameSides (t0:PV .str)(t1:PV .str):denF cx_L_FnExactSameSides 0 pl_L_FnExactSameSides Tryz.f7.ntmps (bodyOf Tryz.f7) Tryz.f7.results.toList [(.bor,.str),(.bor,.str)] [(.bool,.b)] (t0,t1,())=f_L_FnExactSameSides t0 t1:=by kernel_rfl
theorem ok_L_FnExactSameSides:FnOk gl Tryz.prog 7 ct_L_FnExactSameSides:=
 fnOk (cx:=cx_L_FnExactSameSides) (pl:=pl_L_FnExactSameSides) (dp:=0) (ok0_of tabOk (by unfold ArrOk;kernel_rfl) mix ⟨ok_I_SameSides,ok_S_SameSides,trivial⟩ trivial) Tryz.func7 (by kernel_rfl) (by kernel_rfl) (by kernel_rfl)
  (by rw[show loopsOf (bodyOf Tryz.f7)=[] from by kernel_rfl];exact trivial) (fun x=>ef_L_FnExactSameSides x.1 x.2.1)
end R
