/- The functions, part 2. -/
import Derived.Test.YtljgmcbpjakecaaGreatDoorPaIb1
open Go Go.Dn Go.Proofs
namespace R
set_option linter.unusedVariables false
set_option maxRecDepth 20000
open Go.Shelf
noncomputable def o_S_l1Cur_groups_17:List Out:=[⟨.normal,⟨[],[0,4,5],[]⟩,mkSh 102 [(0,.var Y_spec_l1Cur .b),(1,.addr ⟨0,[],0,0⟩),(5,.val S_string .b),(6,.val S_impl_Group (.row (.pr .b (.pr .b (.pr (.row (.pr .b (.pr .b .b))) .b)))))]⟩]
noncomputable def o_S_l1Cur_groups_19:List Out:=[⟨.normal,⟨[],[4,5],[]⟩,mkSh 102 [(0,.var Y_spec_l1Cur .b),(5,.val S_string .b),(6,.val S_impl_Group (.row (.pr .b (.pr .b (.pr (.row (.pr .b (.pr .b .b))) .b)))))]⟩]
noncomputable def pl_S_l1Cur_groups:Plan:=⟨[(17,o_S_l1Cur_groups_17),(19,o_S_l1Cur_groups_19)],[],0,1⟩
noncomputable def f_S_l1Cur_groups (t0:PV Y_spec_l1Cur):Option (PVs [S_string,S_impl_Group]×PVs [Y_spec_l1Cur]):=(f_S_l1Cur_text t0).bind fun r2=>(f_S_l1Cur_hunks r2.2.1 r2.1.1).bind fun r6=>(f_S_l1Cur_among r6.2.1 [0,1,2,3]).bind fun r7=>(f_S_GroupsOf r2.1.1 r6.1.1 r7.1.1).bind fun r8=>((bif (decide ((r8.1.1.length:Int)>0)) then(f_S_l1Cur_pick r7.2.1 (r8.1.1.length:Int)).bind fun r18=>bif inB r18.1.1 r8.1.1.length then(f_S_l1Cur_pick r18.2.1 (((((r8.1.1.getD r18.1.1.toNat (dflt Y_impl_Group)).2).2).1).length:Int)).bind fun r20=>(f_S_l1Cur_pick r20.2.1 15).bind fun r22=>bif (r22.1.1==0) then bif inB r18.1.1 r8.1.1.length then bif inB r18.1.1 r8.1.1.length then some (r22.2.1,r2.1.1,(r8.1.1.set r18.1.1.toNat ((IntKind.wrap .i64 (((r8.1.1.getD r18.1.1.toNat (dflt Y_impl_Group)).1)+1)),(r8.1.1.getD r18.1.1.toNat (dflt Y_impl_Group)).2)),()) else none else none else bif (r22.1.1==1) then bif inB r18.1.1 r8.1.1.length then bif inB r18.1.1 r8.1.1.length then some (r22.2.1,r2.1.1,(r8.1.1.set r18.1.1.toNat ((r8.1.1.getD r18.1.1.toNat (dflt Y_impl_Group)).1,((IntKind.wrap .i64 ((((r8.1.1.getD r18.1.1.toNat (dflt Y_impl_Group)).2).1)+1)),((r8.1.1.getD r18.1.1.toNat (dflt Y_impl_Group)).2).2))),()) else none else none else bif (r22.1.1==2) then bif inB r18.1.1 r8.1.1.length then(f_S_l1Cur_pick r22.2.1 5).bind fun r23=>bif inB r20.1.1 ((((r8.1.1.getD r18.1.1.toNat (dflt Y_impl_Group)).2).2).1).length then some (r23.2.1,r2.1.1,(r8.1.1.set r18.1.1.toNat ((r8.1.1.getD r18.1.1.toNat (dflt Y_impl_Group)).1,(((r8.1.1.getD r18.1.1.toNat (dflt Y_impl_Group)).2).1,((((((r8.1.1.getD r18.1.1.toNat (dflt Y_impl_Group)).2).2).1).set r20.1.1.toNat (r23.1.1,(((((r8.1.1.getD r18.1.1.toNat (dflt Y_impl_Group)).2).2).1).getD r20.1.1.toNat (dflt Y_impl_Row)).2)),(((r8.1.1.getD r18.1.1.toNat (dflt Y_impl_Group)).2).2).2)))),()) else none else none else bif (r22.1.1==3) then bif inB r18.1.1 r8.1.1.length then(f_S_l1Cur_of r22.2.1 [[],[122,10],[122]]).bind fun r24=>bif inB r20.1.1 ((((r8.1.1.getD r18.1.1.toNat (dflt Y_impl_Group)).2).2).1).length then some (r24.2.1,r2.1.1,(r8.1.1.set r18.1.1.toNat ((r8.1.1.getD r18.1.1.toNat (dflt Y_impl_Group)).1,(((r8.1.1.getD r18.1.1.toNat (dflt Y_impl_Group)).2).1,((((((r8.1.1.getD r18.1.1.toNat (dflt Y_impl_Group)).2).2).1).set r20.1.1.toNat ((((((r8.1.1.getD r18.1.1.toNat (dflt Y_impl_Group)).2).2).1).getD r20.1.1.toNat (dflt Y_impl_Row)).1,(r24.1.1,((((((r8.1.1.getD r18.1.1.toNat (dflt Y_impl_Group)).2).2).1).getD r20.1.1.toNat (dflt Y_impl_Row)).2).2))),(((r8.1.1.getD r18.1.1.toNat (dflt Y_impl_Group)).2).2).2)))),()) else none else none else bif (r22.1.1==4) then bif inB r18.1.1 r8.1.1.length then bif inB r18.1.1 r8.1.1.length then some (r22.2.1,r2.1.1,(r8.1.1.set r18.1.1.toNat ((IntKind.wrap .i64 (((r8.1.1.getD r18.1.1.toNat (dflt Y_impl_Group)).1)+30)),(r8.1.1.getD r18.1.1.toNat (dflt Y_impl_Group)).2)),()) else none else none else some (r22.2.1,r2.1.1,r8.1.1,()) else none else some (r7.2.1,r2.1.1,r8.1.1,()):Option ((PV Y_spec_l1Cur×PV S_string×PV S_impl_Group×Unit)))).bind fun j25=>(((f_S_l1Cur_one j25.1 4).bind fun r30=>bif r30.1.1 then(f_S_l1Cur_other r30.2.1 j25.2.1).bind fun r31=>some (r31.2.1,r31.1.1,j25.2.2.1,()) else some (r30.2.1,j25.2.1,j25.2.2.1,()):Option ((PV Y_spec_l1Cur×PV S_string×PV S_impl_Group×Unit)))).bind fun j32=>some ((j32.2.1,j32.2.2.1,()),(j32.1,()))
noncomputable def ct_S_l1Cur_groups:Ct:=⟨[(.ptr,Y_spec_l1Cur)],[(S_string,.b),(S_impl_Group,(.row (.pr .b (.pr .b (.pr (.row (.pr .b (.pr .b .b))) .b)))))],fun x=>f_S_l1Cur_groups x.1⟩
noncomputable def cx_S_l1Cur_groups:Cx:=⟨tab,arrs,[(56,ct_S_GroupsOf),(59,ct_S_l1Cur_text),(60,ct_S_l1Cur_hunks),(61,ct_S_l1Cur_pick),(78,ct_S_l1Cur_of),(105,ct_S_l1Cur_one),(147,ct_S_l1Cur_other),(174,ct_S_l1Cur_among)],[],gl,[]⟩
theorem ef_S_l1Cur_groups (t0:PV Y_spec_l1Cur):denF cx_S_l1Cur_groups 0 pl_S_l1Cur_groups Tryz.f102.ntmps (bodyOf Tryz.f102) Tryz.f102.results.toList [(.ptr,Y_spec_l1Cur)] [(S_string,.b),(S_impl_Group,(.row (.pr .b (.pr .b (.pr (.row (.pr .b (.pr .b .b))) .b)))))] (t0,())=f_S_l1Cur_groups t0:=by kernel_rfl
theorem ok_S_l1Cur_groups:FnOk gl Tryz.prog 102 ct_S_l1Cur_groups:=
 fnOk (cx:=cx_S_l1Cur_groups) (pl:=pl_S_l1Cur_groups) (dp:=0) (ok0_of tabOk (by unfold ArrOk;kernel_rfl) mix ⟨ok_S_GroupsOf,ok_S_l1Cur_text,ok_S_l1Cur_hunks,ok_S_l1Cur_pick,ok_S_l1Cur_of,ok_S_l1Cur_one,ok_S_l1Cur_other,ok_S_l1Cur_among,trivial⟩ trivial) Tryz.func102 (by kernel_rfl) (by kernel_rfl) (by kernel_rfl)
  (by rw[show loopsOf (bodyOf Tryz.f102)=[] from by kernel_rfl];exact trivial) (fun x=>ef_S_l1Cur_groups x.1)
noncomputable def pl_S_DrawGoodGroups:Plan:=⟨[],[],0,0⟩
noncomputable def f_S_DrawGoodGroups (t0:PV S_uint8):Option (PVs [S_impl_Group]×PVs []):=(f_S_l1Cur_groups (t0,(0,(0,())))).bind fun r2=>some ((r2.1.2.1,()),())
noncomputable def ct_S_DrawGoodGroups:Ct:=⟨[(.bor,S_uint8)],[(S_impl_Group,(.row (.pr .b (.pr .b (.pr (.row (.pr .b (.pr .b .b))) .b)))))],fun x=>f_S_DrawGoodGroups x.1⟩
noncomputable def cx_S_DrawGoodGroups:Cx:=⟨tab,arrs,[(102,ct_S_l1Cur_groups)],[],gl,[]⟩
theorem ef_S_DrawGoodGroups (t0:PV S_uint8):denF cx_S_DrawGoodGroups 0 pl_S_DrawGoodGroups Tryz.f98.ntmps (bodyOf Tryz.f98) Tryz.f98.results.toList [(.bor,S_uint8)] [(S_impl_Group,(.row (.pr .b (.pr .b (.pr (.row (.pr .b (.pr .b .b))) .b)))))] (t0,())=f_S_DrawGoodGroups t0:=by kernel_rfl
theorem ok_S_DrawGoodGroups:FnOk gl Tryz.prog 98 ct_S_DrawGoodGroups:=
 fnOk (cx:=cx_S_DrawGoodGroups) (pl:=pl_S_DrawGoodGroups) (dp:=0) (ok0_of tabOk (by unfold ArrOk;kernel_rfl) mix ⟨ok_S_l1Cur_groups,trivial⟩ trivial) Tryz.func98 (by kernel_rfl) (by kernel_rfl) (by kernel_rfl)
  (by rw[show loopsOf (bodyOf Tryz.f98)=[] from by kernel_rfl];exact trivial) (fun x=>ef_S_DrawGoodGroups x.1)
noncomputable def pl_S_DrawSidesText:Plan:=⟨[],[],0,0⟩
noncomputable def f_S_DrawSidesText (t0:PV S_uint8):Option (PVs [S_impl_Group]×PVs []):=(f_S_DrawGoodGroups t0).bind fun r1=>some ((r1.1.1,()),())
noncomputable def ct_S_DrawSidesText:Ct:=⟨[(.bor,S_uint8)],[(S_impl_Group,(.row (.pr .b (.pr .b (.pr (.row (.pr .b (.pr .b .b))) .b)))))],fun x=>f_S_DrawSidesText x.1⟩
noncomputable def cx_S_DrawSidesText:Cx:=⟨tab,arrs,[(98,ct_S_DrawGoodGroups)],[],gl,[]⟩
theorem ef_S_DrawSidesText (t0:PV S_uint8):denF cx_S_DrawSidesText 0 pl_S_DrawSidesText Tryz.f45.ntmps (bodyOf Tryz.f45) Tryz.f45.results.toList [(.bor,S_uint8)] [(S_impl_Group,(.row (.pr .b (.pr .b (.pr (.row (.pr .b (.pr .b .b))) .b)))))] (t0,())=f_S_DrawSidesText t0:=by kernel_rfl
theorem ok_S_DrawSidesText:FnOk gl Tryz.prog 45 ct_S_DrawSidesText:=
 fnOk (cx:=cx_S_DrawSidesText) (pl:=pl_S_DrawSidesText) (dp:=0) (ok0_of tabOk (by unfold ArrOk;kernel_rfl) mix ⟨ok_S_DrawGoodGroups,trivial⟩ trivial) Tryz.func45 (by kernel_rfl) (by kernel_rfl) (by kernel_rfl)
  (by rw[show loopsOf (bodyOf Tryz.f45)=[] from by kernel_rfl];exact trivial) (fun x=>ef_S_DrawSidesText x.1)
noncomputable def pl_I_in:Plan:=⟨[],[],0,0⟩
noncomputable def f_I_in (t0:PV (.int .i64))(t1:PV (.int .i64))(t2:PV (.int .i64)):Option (PVs [.bool]×PVs []):=bif (decide (t0≥t1)) then some (((decide (t0≤t2)),()),()) else some ((false,()),())
noncomputable def ct_I_in:Ct:=⟨[(.bor,(.int .i64)),(.bor,(.int .i64)),(.bor,(.int .i64))],[(.bool,.b)],fun x=>f_I_in x.1 x.2.1 x.2.2.1⟩
noncomputable def cx_I_in:Cx:=⟨tab,arrs,[],[],gl,[]⟩
theorem ef_I_in (t0:PV (.int .i64))(t1:PV (.int .i64))(t2:PV (.int .i64)):denF cx_I_in 0 pl_I_in Tryz.f131.ntmps (bodyOf Tryz.f131) Tryz.f131.results.toList [(.bor,(.int .i64)),(.bor,(.int .i64)),(.bor,(.int .i64))] [(.bool,.b)] (t0,t1,t2,())=f_I_in t0 t1 t2:=by kernel_rfl
theorem ok_I_in:FnOk gl Tryz.prog 131 ct_I_in:=
 fnOk (cx:=cx_I_in) (pl:=pl_I_in) (dp:=0) (ok0_of tabOk (by unfold ArrOk;kernel_rfl) mix trivial trivial) Tryz.func131 (by kernel_rfl) (by kernel_rfl) (by kernel_rfl)
  (by rw[show loopsOf (bodyOf Tryz.f131)=[] from by kernel_rfl];exact trivial) (fun x=>ef_I_in x.1 x.2.1 x.2.2.1)
noncomputable def pl_I_isLine:Plan:=⟨[],[],0,0⟩
noncomputable def f_I_isLine (t0:PV .str):Option (PVs [.bool]×PVs []):=(f_I_in (t0.length:Int) 1 30).bind fun r1=>bif r1.1.1 then bif cutB 0 (IntKind.wrap .i64 ((t0.length:Int) -1)) t0.length then(f_strings_Contains (cutL 0 (IntKind.wrap .i64 ((t0.length:Int) -1)) t0) [10]).bind fun r2=>some (((!r2.1.1),()),()) else none else some ((false,()),())
noncomputable def ct_I_isLine:Ct:=⟨[(.bor,.str)],[(.bool,.b)],fun x=>f_I_isLine x.1⟩
noncomputable def cx_I_isLine:Cx:=⟨tab,arrs,[(131,ct_I_in),(233,ct_strings_Contains)],[],gl,[]⟩
theorem ef_I_isLine (t0:PV .str):denF cx_I_isLine 0 pl_I_isLine Tryz.f179.ntmps (bodyOf Tryz.f179) Tryz.f179.results.toList [(.bor,.str)] [(.bool,.b)] (t0,())=f_I_isLine t0:=by kernel_rfl
theorem ok_I_isLine:FnOk gl Tryz.prog 179 ct_I_isLine:=
 fnOk (cx:=cx_I_isLine) (pl:=pl_I_isLine) (dp:=0) (ok0_of tabOk (by unfold ArrOk;kernel_rfl) mix ⟨ok_I_in,ok_strings_Contains,trivial⟩ trivial) Tryz.func179 (by kernel_rfl) (by kernel_rfl) (by kernel_rfl)
  (by rw[show loopsOf (bodyOf Tryz.f179)=[] from by kernel_rfl];exact trivial) (fun x=>ef_I_isLine x.1)
noncomputable def o_I_sideOf_7:List Out:=[⟨.normal,⟨[],[1,5,9,10,11],[]⟩,mkSh 26 [(1,.val (.int .i64) .b),(5,.val S_string (.row .b)),(9,.val S_impl_Row .b),(10,.val (.int .i64) .b),(11,.val (.int .i64) .b)]⟩]
noncomputable def sh_I_sideOf_3:List Sh:=mkSh 26 [(1,.val (.int .i64) .b),(5,.val S_string (.row .b)),(9,.val S_impl_Row .b),(10,.val (.int .i64) .b),(11,.val (.int .i64) .b)]
noncomputable def o_I_sideOf_3:List Out:=[⟨.exit 0,⟨[],[5],[]⟩,mkSh 26 [(5,.val S_string (.row .b))]⟩]
noncomputable def b_I_sideOf_3 (t1:PV (.int .i64))(t5:PV S_string)(t9:PV S_impl_Row)(t10:PV (.int .i64))(t11:PV (.int .i64)):Option ((PV (.int .i64)×PV S_string×PV S_impl_Row×PV (.int .i64)×PV (.int .i64)×Unit)⊕((PV S_string×Unit))):=bif (decide (t11<t10)) then((bif inB t11 t9.length then bif (!(((t9.getD t11.toNat (dflt Y_impl_Row)).1)==t1)) then bif roomB (t5.length+[((t9.getD t11.toNat (dflt Y_impl_Row)).2).1].length) then some (t1,(t5++[((t9.getD t11.toNat (dflt Y_impl_Row)).2).1]),t9,t10,t11,()) else none else some (t1,t5,t9,t10,t11,()) else none:Option ((PV (.int .i64)×PV S_string×PV S_impl_Row×PV (.int .i64)×PV (.int .i64)×Unit)))).bind fun j1=>some (.inl (j1.1,j1.2.1,j1.2.2.1,j1.2.2.2.1,(IntKind.wrap .i64 (j1.2.2.2.2.1+1)),())) else some (.inr (t5,()))
noncomputable def w_I_sideOf_3:PV (.int .i64)×PV S_string×PV S_impl_Row×PV (.int .i64)×PV (.int .i64)×Unit→Option ((PV S_string×Unit)):=fix fun d=>b_I_sideOf_3 d.1 d.2.1 d.2.2.1 d.2.2.2.1 d.2.2.2.2.1
noncomputable def lp_I_sideOf_3:Lp:=⟨⟨[],[1,5,9,10,11],[]⟩,sh_I_sideOf_3,o_I_sideOf_3,fun d=>b_I_sideOf_3 d.1 d.2.1 d.2.2.1 d.2.2.2.1 d.2.2.2.2.1⟩
noncomputable def pl_I_sideOf:Plan:=⟨[(7,o_I_sideOf_7)],[(3,lp_I_sideOf_3)],0,0⟩
noncomputable def f_I_sideOf (t0:PV S_impl_Row)(t1:PV (.int .i64)):Option (PVs [S_string]×PVs []):=(w_I_sideOf_3 (t1,([]:PV S_string),t0,(t0.length:Int),0,())).bind fun l3=>some ((l3.1,()),())
noncomputable def ct_I_sideOf:Ct:=⟨[(.bor,S_impl_Row),(.bor,(.int .i64))],[(S_string,(.row .b))],fun x=>f_I_sideOf x.1 x.2.1⟩
noncomputable def cx_I_sideOf:Cx:=⟨tab,arrs,[],[],gl,[]⟩
theorem eb_I_sideOf_3 (t1:PV (.int .i64))(t5:PV S_string)(t9:PV S_impl_Row)(t10:PV (.int .i64))(t11:PV (.int .i64)):denK cx_I_sideOf (rcN cx_I_sideOf 0) pl_I_sideOf 0 ((loopsOf (bodyOf Tryz.f222)).getD 0 .skip) (fillS sh_I_sideOf_3 (t1,t5,t9,t10,t11,())) (roundK 0 lp_I_sideOf_3)=b_I_sideOf_3 t1 t5 t9 t10 t11:=by kernel_rfl
theorem ef_I_sideOf (t0:PV S_impl_Row)(t1:PV (.int .i64)):denF cx_I_sideOf 0 pl_I_sideOf Tryz.f222.ntmps (bodyOf Tryz.f222) Tryz.f222.results.toList [(.bor,S_impl_Row),(.bor,(.int .i64))] [(S_string,(.row .b))] (t0,t1,())=f_I_sideOf t0 t1:=by kernel_rfl
theorem ok_I_sideOf:FnOk gl Tryz.prog 222 ct_I_sideOf:=
 fnOk (cx:=cx_I_sideOf) (pl:=pl_I_sideOf) (dp:=0) (ok0_of tabOk (by unfold ArrOk;kernel_rfl) mix trivial trivial) Tryz.func222 (by kernel_rfl) (by kernel_rfl) (by kernel_rfl)
  (by rw[show loopsOf (bodyOf Tryz.f222)=[((loopsOf (bodyOf Tryz.f222)).getD 0 .skip)] from by kernel_rfl];exact⟨(by rw[show lookup pl_I_sideOf.loops (firstId ((loopsOf (bodyOf Tryz.f222)).getD 0 .skip))=some lp_I_sideOf_3 from by kernel_rfl];exact fun d z h=>(eb_I_sideOf_3 d.1 d.2.1 d.2.2.1 d.2.2.2.1 d.2.2.2.2.1).trans h),trivial⟩) (fun x=>ef_I_sideOf x.1 x.2.1)
noncomputable def pl_I_Group_old:Plan:=⟨[],[],0,0⟩
noncomputable def f_I_Group_old (t0:PV Y_impl_Group):Option (PVs [S_string]×PVs []):=(f_I_sideOf t0.2.2.1 3).bind fun r1=>some ((r1.1.1,()),())
noncomputable def ct_I_Group_old:Ct:=⟨[(.bor,Y_impl_Group)],[(S_string,(.row .b))],fun x=>f_I_Group_old x.1⟩
noncomputable def cx_I_Group_old:Cx:=⟨tab,arrs,[(222,ct_I_sideOf)],[],gl,[]⟩
theorem ef_I_Group_old (t0:PV Y_impl_Group):denF cx_I_Group_old 0 pl_I_Group_old Tryz.f150.ntmps (bodyOf Tryz.f150) Tryz.f150.results.toList [(.bor,Y_impl_Group)] [(S_string,(.row .b))] (t0,())=f_I_Group_old t0:=by kernel_rfl
theorem ok_I_Group_old:FnOk gl Tryz.prog 150 ct_I_Group_old:=
 fnOk (cx:=cx_I_Group_old) (pl:=pl_I_Group_old) (dp:=0) (ok0_of tabOk (by unfold ArrOk;kernel_rfl) mix ⟨ok_I_sideOf,trivial⟩ trivial) Tryz.func150 (by kernel_rfl) (by kernel_rfl) (by kernel_rfl)
  (by rw[show loopsOf (bodyOf Tryz.f150)=[] from by kernel_rfl];exact trivial) (fun x=>ef_I_Group_old x.1)
noncomputable def pl_I_Group_fresh:Plan:=⟨[],[],0,0⟩
noncomputable def f_I_Group_fresh (t0:PV Y_impl_Group):Option (PVs [S_string]×PVs []):=(f_I_sideOf t0.2.2.1 2).bind fun r1=>some ((r1.1.1,()),())
noncomputable def ct_I_Group_fresh:Ct:=⟨[(.bor,Y_impl_Group)],[(S_string,(.row .b))],fun x=>f_I_Group_fresh x.1⟩
noncomputable def cx_I_Group_fresh:Cx:=⟨tab,arrs,[(222,ct_I_sideOf)],[],gl,[]⟩
theorem ef_I_Group_fresh (t0:PV Y_impl_Group):denF cx_I_Group_fresh 0 pl_I_Group_fresh Tryz.f151.ntmps (bodyOf Tryz.f151) Tryz.f151.results.toList [(.bor,Y_impl_Group)] [(S_string,(.row .b))] (t0,())=f_I_Group_fresh t0:=by kernel_rfl
theorem ok_I_Group_fresh:FnOk gl Tryz.prog 151 ct_I_Group_fresh:=
 fnOk (cx:=cx_I_Group_fresh) (pl:=pl_I_Group_fresh) (dp:=0) (ok0_of tabOk (by unfold ArrOk;kernel_rfl) mix ⟨ok_I_sideOf,trivial⟩ trivial) Tryz.func151 (by kernel_rfl) (by kernel_rfl) (by kernel_rfl)
  (by rw[show loopsOf (bodyOf Tryz.f151)=[] from by kernel_rfl];exact trivial) (fun x=>ef_I_Group_fresh x.1)
noncomputable def pl_I_areLines_1:Plan:=⟨[],[],0,0⟩
noncomputable def f_I_areLines_1 (t0:PV .str):Option (PVs [.bool]×PVs []):=(f_I_isLine t0).bind fun r1=>some (((!r1.1.1),()),())
noncomputable def ct_I_areLines_1:Ct:=⟨[(.bor,.str)],[(.bool,.b)],fun x=>f_I_areLines_1 x.1⟩
noncomputable def cx_I_areLines_1:Cx:=⟨tab,arrs,[(179,ct_I_isLine)],[],gl,[]⟩
theorem ef_I_areLines_1 (t0:PV .str):denF cx_I_areLines_1 0 pl_I_areLines_1 Tryz.f225.ntmps (bodyOf Tryz.f225) Tryz.f225.results.toList [(.bor,.str)] [(.bool,.b)] (t0,())=f_I_areLines_1 t0:=by kernel_rfl
theorem ok_I_areLines_1:FnOk gl Tryz.prog 225 ct_I_areLines_1:=
 fnOk (cx:=cx_I_areLines_1) (pl:=pl_I_areLines_1) (dp:=0) (ok0_of tabOk (by unfold ArrOk;kernel_rfl) mix ⟨ok_I_isLine,trivial⟩ trivial) Tryz.func225 (by kernel_rfl) (by kernel_rfl) (by kernel_rfl)
  (by rw[show loopsOf (bodyOf Tryz.f225)=[] from by kernel_rfl];exact trivial) (fun x=>ef_I_areLines_1 x.1)
noncomputable def pl_I_areLines_224:Plan:=⟨[],[],1,11⟩
noncomputable def sh_I_areLines_264_2:List Sh:=mkSh 39 [(0,.val S_string .b),(2,.val .bool .b),(3,.val S_string .b),(4,.val (.int .i64) .b),(5,.val .bool .b),(6,.val .bool .b),(7,.val S_string .b),(11,.val S_string .b),(12,.fn 225 []),(15,.val .bool .b),(16,.val S_string .b),(17,.fn 225 []),(20,.val S_string .b),(21,.fn 225 []),(27,.val (.int .i64) .b),(28,.val (.int .i64) .b)]
noncomputable def o_I_areLines_264_2:List Out:=[⟨.exit 0,⟨[],[],[]⟩,mkSh 39 [(0,.val S_string .b),(2,.val .bool .b),(3,.val S_string .b),(4,.val (.int .i64) .b),(5,.val .bool .b),(6,.val .bool .b),(7,.val S_string .b),(11,.val S_string .b),(12,.fn 225 []),(15,.val .bool .b),(16,.val S_string .b),(17,.fn 225 [])]⟩,⟨.ret,⟨[],[4],[]⟩,mkSh 39 [(0,.val S_string .b),(2,.val .bool .b),(3,.val S_string .b),(4,.val (.int .i64) .b),(5,.val .bool .b),(6,.val .bool .b),(7,.val S_string .b),(11,.val S_string .b),(12,.fn 225 []),(15,.val .bool .b),(16,.val S_string .b),(17,.fn 225 []),(24,.val (.int .i64) .b)]⟩]
noncomputable def b_I_areLines_264_2 (t0:PV S_string)(t2:PV .bool)(t3:PV S_string)(t4:PV (.int .i64))(t5:PV .bool)(t6:PV .bool)(t7:PV S_string)(t11:PV S_string)(t15:PV .bool)(t16:PV S_string)(t20:PV S_string)(t27:PV (.int .i64))(t28:PV (.int .i64)):Option ((PV S_string×PV .bool×PV S_string×PV (.int .i64)×PV .bool×PV .bool×PV S_string×PV S_string×PV .bool×PV S_string×PV S_string×PV (.int .i64)×PV (.int .i64)×Unit)⊕((PV S_string×PV .bool×PV S_string×PV (.int .i64)×PV .bool×PV .bool×PV S_string×PV S_string×PV .bool×PV S_string×Unit)⊕(PV S_string×PV .bool×PV S_string×PV (.int .i64)×PV .bool×PV .bool×PV S_string×PV S_string×PV .bool×PV S_string×PV (.int .i64)×Unit))):=bif (decide (t28<t27)) then bif inB t28 t20.length then(f_I_areLines_1 (t20.getD t28.toNat [])).bind fun r4=>bif r4.1.1 then some (.inr (.inr (t0,t2,t3,t4,t5,t6,t7,t11,t15,t16,t28,()))) else some (.inl (t0,t2,t3,t4,t5,t6,t7,t11,t15,t16,t20,t27,(IntKind.wrap .i64 (t28+1)),())) else none else some (.inr (.inl (t0,t2,t3,t4,t5,t6,t7,t11,t15,t16,())))
noncomputable def w_I_areLines_264_2:PV S_string×PV .bool×PV S_string×PV (.int .i64)×PV .bool×PV .bool×PV S_string×PV S_string×PV .bool×PV S_string×PV S_string×PV (.int .i64)×PV (.int .i64)×Unit→Option ((PV S_string×PV .bool×PV S_string×PV (.int .i64)×PV .bool×PV .bool×PV S_string×PV S_string×PV .bool×PV S_string×Unit)⊕(PV S_string×PV .bool×PV S_string×PV (.int .i64)×PV .bool×PV .bool×PV S_string×PV S_string×PV .bool×PV S_string×PV (.int .i64)×Unit)):=fix fun d=>b_I_areLines_264_2 d.1 d.2.1 d.2.2.1 d.2.2.2.1 d.2.2.2.2.1 d.2.2.2.2.2.1 d.2.2.2.2.2.2.1 d.2.2.2.2.2.2.2.1 d.2.2.2.2.2.2.2.2.1 d.2.2.2.2.2.2.2.2.2.1 d.2.2.2.2.2.2.2.2.2.2.1 d.2.2.2.2.2.2.2.2.2.2.2.1 d.2.2.2.2.2.2.2.2.2.2.2.2.1
noncomputable def lp_I_areLines_264_2:Lp:=⟨⟨[],[0,1,7,8],[]⟩,sh_I_areLines_264_2,o_I_areLines_264_2,fun d=>b_I_areLines_264_2 d.1 d.2.1 d.2.2.1 d.2.2.2.1 d.2.2.2.2.1 d.2.2.2.2.2.1 d.2.2.2.2.2.2.1 d.2.2.2.2.2.2.2.1 d.2.2.2.2.2.2.2.2.1 d.2.2.2.2.2.2.2.2.2.1 d.2.2.2.2.2.2.2.2.2.2.1 d.2.2.2.2.2.2.2.2.2.2.2.1 d.2.2.2.2.2.2.2.2.2.2.2.2.1⟩
noncomputable def pl_I_areLines_264:Plan:=⟨[],[(2,lp_I_areLines_264_2)],0,20⟩
noncomputable def pl_I_areLines:Plan:=⟨[],[],2,0⟩
noncomputable def f_I_areLines (t0:PV S_string):Option (PVs [.bool]×PVs []):=
 bif (decide ((t0.length:Int)≤40)) then
  (w_I_areLines_264_2 (t0,false,t0,(t0.length:Int),(decide ((t0.length:Int)≤40)),true,t0,t0,false,t0,t0,(t0.length:Int),0,())).bind fun x9=>
    match x9 with
    | .inl l7=>
      bif l7.2.2.2.2.2.1 then
       some (((!(decide ((-1)≥0))),()),())
      else
       some ((false,()),())
    | .inr l8=>
      bif l8.2.2.2.2.2.1 then
       some (((!(decide (l8.2.2.2.2.2.2.2.2.2.2.1≥0))),()),())
      else
       some ((false,()),())
 else
  some ((false,()),())
noncomputable def ct_I_areLines:Ct:=⟨[(.bor,S_string)],[(.bool,.b)],fun x=>f_I_areLines x.1⟩
noncomputable def cx_I_areLines:Cx:=⟨tab,arrs,[(225,ct_I_areLines_1)],[(224,Tryz.f224,pl_I_areLines_224),(264,Tryz.f264,pl_I_areLines_264)],gl,[]⟩
theorem eb_I_areLines_264_2 (t0:PV S_string)(t2:PV .bool)(t3:PV S_string)(t4:PV (.int .i64))(t5:PV .bool)(t6:PV .bool)(t7:PV S_string)(t11:PV S_string)(t15:PV .bool)(t16:PV S_string)(t20:PV S_string)(t27:PV (.int .i64))(t28:PV (.int .i64)):denK cx_I_areLines (rcN cx_I_areLines 0) pl_I_areLines_264 20 ((loopsOf (bodyOf Tryz.f264)).getD 0 .skip) (fillS sh_I_areLines_264_2 (t0,t2,t3,t4,t5,t6,t7,t11,t15,t16,t20,t27,t28,())) (roundK 20 lp_I_areLines_264_2)=b_I_areLines_264_2 t0 t2 t3 t4 t5 t6 t7 t11 t15 t16 t20 t27 t28:=by kernel_rfl
theorem ef_I_areLines (t0:PV S_string):denF cx_I_areLines 2 pl_I_areLines Tryz.f156.ntmps (bodyOf Tryz.f156) Tryz.f156.results.toList [(.bor,S_string)] [(.bool,.b)] (t0,())=f_I_areLines t0:=by kernel_rfl
theorem ok_I_areLines:FnOk gl Tryz.prog 156 ct_I_areLines:=
 fnOk (cx:=cx_I_areLines) (pl:=pl_I_areLines) (dp:=2) (ok0_of tabOk (by unfold ArrOk;kernel_rfl) mix ⟨ok_I_areLines_1,trivial⟩ ⟨⟨Tryz.func224,by kernel_rfl,(by rw[show loopsOf (bodyOf Tryz.f224)=[] from by kernel_rfl];exact trivial)⟩,⟨Tryz.func264,by kernel_rfl,(by rw[show loopsOf (bodyOf Tryz.f264)=[((loopsOf (bodyOf Tryz.f264)).getD 0 .skip)] from by kernel_rfl];exact⟨(by rw[show lookup pl_I_areLines_264.loops (firstId ((loopsOf (bodyOf Tryz.f264)).getD 0 .skip))=some lp_I_areLines_264_2 from by kernel_rfl];exact fun d z h=>(eb_I_areLines_264_2 d.1 d.2.1 d.2.2.1 d.2.2.2.1 d.2.2.2.2.1 d.2.2.2.2.2.1 d.2.2.2.2.2.2.1 d.2.2.2.2.2.2.2.1 d.2.2.2.2.2.2.2.2.1 d.2.2.2.2.2.2.2.2.2.1 d.2.2.2.2.2.2.2.2.2.2.1 d.2.2.2.2.2.2.2.2.2.2.2.1 d.2.2.2.2.2.2.2.2.2.2.2.2.1).trans h),trivial⟩)⟩,trivial⟩) Tryz.func156 (by kernel_rfl) (by kernel_rfl) (by kernel_rfl)
  (by rw[show loopsOf (bodyOf Tryz.f156)=[] from by kernel_rfl];exact trivial) (fun x=>ef_I_areLines x.1)
noncomputable def pl_internal_stringslite_HasSuffix:Plan:=⟨[],[],0,0⟩
noncomputable def f_internal_stringslite_HasSuffix (t0:PV .str)(t1:PV .str):Option (PVs [.bool]×PVs []):=bif (decide ((t0.length:Int)≥(t1.length:Int))) then bif cutB (IntKind.wrap .i64 ((t0.length:Int) -(t1.length:Int))) (t0.length:Int) t0.length then some ((((cutL (IntKind.wrap .i64 ((t0.length:Int) -(t1.length:Int))) (t0.length:Int) t0)==t1),()),()) else none else some ((false,()),())
noncomputable def ct_internal_stringslite_HasSuffix:Ct:=⟨[(.bor,.str),(.bor,.str)],[(.bool,.b)],fun x=>f_internal_stringslite_HasSuffix x.1 x.2.1⟩
noncomputable def cx_internal_stringslite_HasSuffix:Cx:=⟨tab,arrs,[],[],gl,[]⟩
theorem ef_internal_stringslite_HasSuffix (t0:PV .str)(t1:PV .str):denF cx_internal_stringslite_HasSuffix 0 pl_internal_stringslite_HasSuffix Tryz.f265.ntmps (bodyOf Tryz.f265) Tryz.f265.results.toList [(.bor,.str),(.bor,.str)] [(.bool,.b)] (t0,t1,())=f_internal_stringslite_HasSuffix t0 t1:=by kernel_rfl
theorem ok_internal_stringslite_HasSuffix:FnOk gl Tryz.prog 265 ct_internal_stringslite_HasSuffix:=
 fnOk (cx:=cx_internal_stringslite_HasSuffix) (pl:=pl_internal_stringslite_HasSuffix) (dp:=0) (ok0_of tabOk (by unfold ArrOk;kernel_rfl) mix trivial trivial) Tryz.func265 (by kernel_rfl) (by kernel_rfl) (by kernel_rfl)
  (by rw[show loopsOf (bodyOf Tryz.f265)=[] from by kernel_rfl];exact trivial) (fun x=>ef_internal_stringslite_HasSuffix x.1 x.2.1)
noncomputable def pl_strings_HasSuffix:Plan:=⟨[],[],0,0⟩
noncomputable def f_strings_HasSuffix (t0:PV .str)(t1:PV .str):Option (PVs [.bool]×PVs []):=(f_internal_stringslite_HasSuffix t0 t1).bind fun r1=>some ((r1.1.1,()),())
noncomputable def ct_strings_HasSuffix:Ct:=⟨[(.bor,.str),(.bor,.str)],[(.bool,.b)],fun x=>f_strings_HasSuffix x.1 x.2.1⟩
noncomputable def cx_strings_HasSuffix:Cx:=⟨tab,arrs,[(265,ct_internal_stringslite_HasSuffix)],[],gl,[]⟩
theorem ef_strings_HasSuffix (t0:PV .str)(t1:PV .str):denF cx_strings_HasSuffix 0 pl_strings_HasSuffix Tryz.f226.ntmps (bodyOf Tryz.f226) Tryz.f226.results.toList [(.bor,.str),(.bor,.str)] [(.bool,.b)] (t0,t1,())=f_strings_HasSuffix t0 t1:=by kernel_rfl
theorem ok_strings_HasSuffix:FnOk gl Tryz.prog 226 ct_strings_HasSuffix:=
 fnOk (cx:=cx_strings_HasSuffix) (pl:=pl_strings_HasSuffix) (dp:=0) (ok0_of tabOk (by unfold ArrOk;kernel_rfl) mix ⟨ok_internal_stringslite_HasSuffix,trivial⟩ trivial) Tryz.func226 (by kernel_rfl) (by kernel_rfl) (by kernel_rfl)
  (by rw[show loopsOf (bodyOf Tryz.f226)=[] from by kernel_rfl];exact trivial) (fun x=>ef_strings_HasSuffix x.1 x.2.1)
noncomputable def pl_I_isEnded:Plan:=⟨[],[],0,0⟩
noncomputable def f_I_isEnded (t0:PV .str):Option (PVs [.bool]×PVs []):=(f_strings_HasSuffix t0 [10]).bind fun r1=>some ((r1.1.1,()),())
noncomputable def ct_I_isEnded:Ct:=⟨[(.bor,.str)],[(.bool,.b)],fun x=>f_I_isEnded x.1⟩
noncomputable def cx_I_isEnded:Cx:=⟨tab,arrs,[(226,ct_strings_HasSuffix)],[],gl,[]⟩
theorem ef_I_isEnded (t0:PV .str):denF cx_I_isEnded 0 pl_I_isEnded Tryz.f157.ntmps (bodyOf Tryz.f157) Tryz.f157.results.toList [(.bor,.str)] [(.bool,.b)] (t0,())=f_I_isEnded t0:=by kernel_rfl
theorem ok_I_isEnded:FnOk gl Tryz.prog 157 ct_I_isEnded:=
 fnOk (cx:=cx_I_isEnded) (pl:=pl_I_isEnded) (dp:=0) (ok0_of tabOk (by unfold ArrOk;kernel_rfl) mix ⟨ok_strings_HasSuffix,trivial⟩ trivial) Tryz.func157 (by kernel_rfl) (by kernel_rfl) (by kernel_rfl)
  (by rw[show loopsOf (bodyOf Tryz.f157)=[] from by kernel_rfl];exact trivial) (fun x=>ef_I_isEnded x.1)
noncomputable def o_I_goodLines_7:List Out:=[⟨.normal,⟨[],[0,8,9,10,24],[]⟩,mkSh 26 [(0,.val S_string .b),(8,.val S_string .b),(9,.val (.int .i64) .b),(10,.val (.int .i64) .b),(24,.val .bool .b)]⟩]
noncomputable def sh_I_goodLines_4:List Sh:=mkSh 26 [(0,.val S_string .b),(8,.val S_string .b),(9,.val (.int .i64) .b),(10,.val (.int .i64) .b)]
noncomputable def o_I_goodLines_4:List Out:=[⟨.exit 0,⟨[],[],[]⟩,mkSh 26 []⟩,⟨.ret,⟨[],[2],[]⟩,mkSh 26 [(2,.val .bool .b)]⟩]
noncomputable def b_I_goodLines_4 (t0:PV S_string)(t8:PV S_string)(t9:PV (.int .i64))(t10:PV (.int .i64)):Option ((PV S_string×PV S_string×PV (.int .i64)×PV (.int .i64)×Unit)⊕((Unit)⊕(PV .bool×Unit))):=bif (decide (t10<t9)) then bif inB t10 t8.length then((bif (decide (t10<(IntKind.wrap .i64 ((t0.length:Int) -1)))) then(f_I_isEnded (t8.getD t10.toNat [])).bind fun r7=>some (t0,t8,t9,t10,(!r7.1.1),()) else some (t0,t8,t9,t10,false,()):Option ((PV S_string×PV S_string×PV (.int .i64)×PV (.int .i64)×PV .bool×Unit)))).bind fun j8=>bif j8.2.2.2.2.1 then some (.inr (.inr (false,()))) else some (.inl (j8.1,j8.2.1,j8.2.2.1,(IntKind.wrap .i64 (j8.2.2.2.1+1)),())) else none else some (.inr (.inl ()))
noncomputable def w_I_goodLines_4:PV S_string×PV S_string×PV (.int .i64)×PV (.int .i64)×Unit→Option ((Unit)⊕(PV .bool×Unit)):=fix fun d=>b_I_goodLines_4 d.1 d.2.1 d.2.2.1 d.2.2.2.1
noncomputable def lp_I_goodLines_4:Lp:=⟨⟨[],[0,8,9,10,21,22,23],[]⟩,sh_I_goodLines_4,o_I_goodLines_4,fun d=>b_I_goodLines_4 d.1 d.2.1 d.2.2.1 d.2.2.2.1⟩
noncomputable def pl_I_goodLines:Plan:=⟨[(7,o_I_goodLines_7)],[(4,lp_I_goodLines_4)],0,0⟩
noncomputable def f_I_goodLines (t0:PV S_string):Option (PVs [.bool]×PVs []):=
 (f_I_areLines t0).bind fun r4=>
   bif (!r4.1.1) then
    some ((false,()),())
   else
    (w_I_goodLines_4 (t0,t0,(t0.length:Int),0,())).bind fun x13=>
      match x13 with
      | .inl l11=>
        some ((true,()),())
      | .inr l12=>
        some ((l12.1,()),())
noncomputable def ct_I_goodLines:Ct:=⟨[(.bor,S_string)],[(.bool,.b)],fun x=>f_I_goodLines x.1⟩
noncomputable def cx_I_goodLines:Cx:=⟨tab,arrs,[(156,ct_I_areLines),(157,ct_I_isEnded)],[],gl,[]⟩
theorem eb_I_goodLines_4 (t0:PV S_string)(t8:PV S_string)(t9:PV (.int .i64))(t10:PV (.int .i64)):denK cx_I_goodLines (rcN cx_I_goodLines 0) pl_I_goodLines 0 ((loopsOf (bodyOf Tryz.f88)).getD 0 .skip) (fillS sh_I_goodLines_4 (t0,t8,t9,t10,())) (roundK 0 lp_I_goodLines_4)=b_I_goodLines_4 t0 t8 t9 t10:=by kernel_rfl
theorem ef_I_goodLines (t0:PV S_string):denF cx_I_goodLines 0 pl_I_goodLines Tryz.f88.ntmps (bodyOf Tryz.f88) Tryz.f88.results.toList [(.bor,S_string)] [(.bool,.b)] (t0,())=f_I_goodLines t0:=by kernel_rfl
theorem ok_I_goodLines:FnOk gl Tryz.prog 88 ct_I_goodLines:=
 fnOk (cx:=cx_I_goodLines) (pl:=pl_I_goodLines) (dp:=0) (ok0_of tabOk (by unfold ArrOk;kernel_rfl) mix ⟨ok_I_areLines,ok_I_isEnded,trivial⟩ trivial) Tryz.func88 (by kernel_rfl) (by kernel_rfl) (by kernel_rfl)
  (by rw[show loopsOf (bodyOf Tryz.f88)=[((loopsOf (bodyOf Tryz.f88)).getD 0 .skip)] from by kernel_rfl];exact⟨(by rw[show lookup pl_I_goodLines.loops (firstId ((loopsOf (bodyOf Tryz.f88)).getD 0 .skip))=some lp_I_goodLines_4 from by kernel_rfl];exact fun d z h=>(eb_I_goodLines_4 d.1 d.2.1 d.2.2.1 d.2.2.2.1).trans h),trivial⟩) (fun x=>ef_I_goodLines x.1)
noncomputable def o_I_goodGroup_2:List Out:=[⟨.normal,⟨[],[1,24,38,39,40,41,44,45,46,47,48,49,50,51,52,53,54,55,56,57,58,59,60,64,65,66,75,76,79,80,83,84,85,86,87,88,91,92,93,94,95,96],[]⟩,mkSh 98 [(1,.var Y_impl_Group .b),(24,.val .bool .b)]⟩]
noncomputable def o_I_goodGroup_8:List Out:=[⟨.normal,⟨[],[1,3,5,26,27,28,61,64,65,66,75,76,79,80,83,84,85,86,87,88,91,92,93,94,95,96],[]⟩,mkSh 98 [(1,.var Y_impl_Group .b),(3,.val .bool .b),(5,.var Y_impl_Row .b),(26,.val S_impl_Row .b),(27,.val (.int .i64) .b),(28,.val (.int .i64) .b),(61,.val .bool .b)]⟩]
noncomputable def o_I_goodGroup_10:List Out:=[⟨.normal,⟨[],[1,3,5,26,27,28,38,39,40,41,44,45,46,47,48,49,50,51,52,53,54,55,56,57,58,59,60,75,76,79,80,83,84,85,86,87,88,91,92,93,94,95,96],[]⟩,mkSh 98 [(1,.var Y_impl_Group .b),(3,.val .bool .b),(5,.var Y_impl_Row .b),(26,.val S_impl_Row .b),(27,.val (.int .i64) .b),(28,.val (.int .i64) .b)]⟩,⟨.ret,⟨[],[2],[]⟩,mkSh 98 [(2,.val .bool .b)]⟩]
noncomputable def sh_I_goodGroup_5:List Sh:=mkSh 98 [(1,.var Y_impl_Group .b),(3,.val .bool .b),(26,.val S_impl_Row .b),(27,.val (.int .i64) .b),(28,.val (.int .i64) .b)]
noncomputable def o_I_goodGroup_5:List Out:=[⟨.exit 0,⟨[],[1,3,75,76,79,80,83,84,85,86,87,88,91,92,93,94,95,96],[]⟩,mkSh 98 [(1,.var Y_impl_Group .b),(3,.val .bool .b)]⟩,⟨.ret,⟨[],[2],[]⟩,mkSh 98 [(2,.val .bool .b)]⟩]
noncomputable def b_I_goodGroup_5 (t1:PV Y_impl_Group)(t3:PV .bool)(t26:PV S_impl_Row)(t27:PV (.int .i64))(t28:PV (.int .i64)):Option ((PV Y_impl_Group×PV .bool×PV S_impl_Row×PV (.int .i64)×PV (.int .i64)×Unit)⊕((PV Y_impl_Group×PV .bool×Unit)⊕(PV .bool×Unit))):=
 bif (decide (t28<t27)) then
  ((
    bif inB t28 t26.length then
     ((
       (f_I_in ((t26.getD t28.toNat (dflt Y_impl_Row)).1) 1 3).bind fun r15=>
         bif (!r15.1.1) then
          some (t1,t3,(t26.getD t28.toNat (dflt Y_impl_Row)),t26,t27,t28,true,())
         else
          (f_I_isLine (((t26.getD t28.toNat (dflt Y_impl_Row)).2).1)).bind fun r16=>
            bif (!r16.1.1) then
             some (t1,t3,(t26.getD t28.toNat (dflt Y_impl_Row)),t26,t27,t28,true,())
            else
             bif (decide (t28>0)) then
              bif (((t26.getD t28.toNat (dflt Y_impl_Row)).1)==2) then
               bif inB (IntKind.wrap .i64 (t28 -1)) t1.2.2.1.length then
                some (t1,t3,(t26.getD t28.toNat (dflt Y_impl_Row)),t26,t27,t28,(((t1.2.2.1.getD ((IntKind.wrap .i64 (t28 -1)).toNat) (dflt Y_impl_Row)).1)==3),())
               else
                none
              else
               some (t1,t3,(t26.getD t28.toNat (dflt Y_impl_Row)),t26,t27,t28,false,())
             else
              some (t1,t3,(t26.getD t28.toNat (dflt Y_impl_Row)),t26,t27,t28,false,()):Option ((PV Y_impl_Group×PV .bool×PV Y_impl_Row×PV S_impl_Row×PV (.int .i64)×PV (.int .i64)×PV .bool×Unit)))).bind fun j17=>
       bif j17.2.2.2.2.2.2.1 then
        some (.inr (false,()))
       else
        bif j17.2.1 then
         some (.inl (j17.1,true,j17.2.2.1,j17.2.2.2.1,j17.2.2.2.2.1,j17.2.2.2.2.2.1,()))
        else
         some (.inl (j17.1,(!(j17.2.2.1.1==1)),j17.2.2.1,j17.2.2.2.1,j17.2.2.2.2.1,j17.2.2.2.2.2.1,()))
    else
     none:Option ((PV Y_impl_Group×PV .bool×PV Y_impl_Row×PV S_impl_Row×PV (.int .i64)×PV (.int .i64)×Unit)⊕(PV .bool×Unit)))).bind fun x30=>
    match x30 with
    | .inl j18=>
      some (.inl (j18.1,j18.2.1,j18.2.2.2.1,j18.2.2.2.2.1,(IntKind.wrap .i64 (j18.2.2.2.2.2.1+1)),()))
    | .inr j19=>
      some (.inr (.inr (j19.1,())))
 else
  some (.inr (.inl (t1,t3,())))
noncomputable def w_I_goodGroup_5:PV Y_impl_Group×PV .bool×PV S_impl_Row×PV (.int .i64)×PV (.int .i64)×Unit→Option ((PV Y_impl_Group×PV .bool×Unit)⊕(PV .bool×Unit)):=fix fun d=>b_I_goodGroup_5 d.1 d.2.1 d.2.2.1 d.2.2.2.1 d.2.2.2.2.1
noncomputable def lp_I_goodGroup_5:Lp:=⟨⟨[],[1,3,26,27,28,38,39,40,41,44,45,46,47,48,49,50,51,52,53,54,55,56,57,58,59,60,64,65,66,75,76,79,80,83,84,85,86,87,88,91,92,93,94,95,96],[]⟩,sh_I_goodGroup_5,o_I_goodGroup_5,fun d=>b_I_goodGroup_5 d.1 d.2.1 d.2.2.1 d.2.2.2.1 d.2.2.2.2.1⟩
noncomputable def pl_I_goodGroup:Plan:=⟨[(2,o_I_goodGroup_2),(8,o_I_goodGroup_8),(10,o_I_goodGroup_10)],[(5,lp_I_goodGroup_5)],0,0⟩
noncomputable def f_I_goodGroup (t0:PV Y_impl_Group):Option (PVs [.bool]×PVs []):=
 ((
   (f_I_in t0.1 0 999).bind fun r8=>
     bif (!r8.1.1) then
      some (t0,true,())
     else
      (f_I_in t0.2.1 0 999).bind fun r9=>
        bif (!r9.1.1) then
         some (t0,true,())
        else
         (f_I_in (t0.2.2.1.length:Int) 1 80).bind fun r10=>
           some (t0,(!r10.1.1),()):Option ((PV Y_impl_Group×PV .bool×Unit)))).bind fun j11=>
   bif j11.2.1 then
    some ((false,()),())
   else
    (w_I_goodGroup_5 (j11.1,false,j11.1.2.2.1,(j11.1.2.2.1.length:Int),0,())).bind fun x31=>
      match x31 with
      | .inl l22=>
        (f_I_Group_old l22.1).bind fun r25=>
          (f_I_Group_fresh l22.1).bind fun r26=>
            bif l22.2.1 then
             (f_I_goodLines r25.1.1).bind fun r27=>
               bif r27.1.1 then
                (f_I_goodLines r26.1.1).bind fun r28=>
                  bif r28.1.1 then
                   bif (decide ((IntKind.wrap .i64 (l22.1.1+(r25.1.1.length:Int)))≤1000)) then
                    some (((decide ((IntKind.wrap .i64 (l22.1.2.1+(r26.1.1.length:Int)))≤1000)),()),())
                   else
                    some ((false,()),())
                  else
                   some ((false,()),())
               else
                some ((false,()),())
            else
             some ((false,()),())
      | .inr l29=>
        some ((l29.1,()),())
noncomputable def ct_I_goodGroup:Ct:=⟨[(.bor,Y_impl_Group)],[(.bool,.b)],fun x=>f_I_goodGroup x.1⟩
noncomputable def cx_I_goodGroup:Cx:=⟨tab,arrs,[(88,ct_I_goodLines),(131,ct_I_in),(150,ct_I_Group_old),(151,ct_I_Group_fresh),(179,ct_I_isLine)],[],gl,[]⟩
theorem eb_I_goodGroup_5 (t1:PV Y_impl_Group)(t3:PV .bool)(t26:PV S_impl_Row)(t27:PV (.int .i64))(t28:PV (.int .i64)):denK cx_I_goodGroup (rcN cx_I_goodGroup 0) pl_I_goodGroup 0 ((loopsOf (bodyOf Tryz.f106)).getD 0 .skip) (fillS sh_I_goodGroup_5 (t1,t3,t26,t27,t28,())) (roundK 0 lp_I_goodGroup_5)=b_I_goodGroup_5 t1 t3 t26 t27 t28:=by kernel_rfl
theorem ef_I_goodGroup (t0:PV Y_impl_Group):denF cx_I_goodGroup 0 pl_I_goodGroup Tryz.f106.ntmps (bodyOf Tryz.f106) Tryz.f106.results.toList [(.bor,Y_impl_Group)] [(.bool,.b)] (t0,())=f_I_goodGroup t0:=by kernel_rfl
theorem ok_I_goodGroup:FnOk gl Tryz.prog 106 ct_I_goodGroup:=
 fnOk (cx:=cx_I_goodGroup) (pl:=pl_I_goodGroup) (dp:=0) (ok0_of tabOk (by unfold ArrOk;kernel_rfl) mix ⟨ok_I_goodLines,ok_I_in,ok_I_Group_old,ok_I_Group_fresh,ok_I_isLine,trivial⟩ trivial) Tryz.func106 (by kernel_rfl) (by kernel_rfl) (by kernel_rfl)
  (by rw[show loopsOf (bodyOf Tryz.f106)=[((loopsOf (bodyOf Tryz.f106)).getD 0 .skip)] from by kernel_rfl];exact⟨(by rw[show lookup pl_I_goodGroup.loops (firstId ((loopsOf (bodyOf Tryz.f106)).getD 0 .skip))=some lp_I_goodGroup_5 from by kernel_rfl];exact fun d z h=>(eb_I_goodGroup_5 d.1 d.2.1 d.2.2.1 d.2.2.2.1 d.2.2.2.2.1).trans h),trivial⟩) (fun x=>ef_I_goodGroup x.1)
noncomputable def o_I_goodGroups_9:List Out:=[⟨.normal,⟨[],[0,4,8,9,10,57],[]⟩,mkSh 59 [(0,.val S_impl_Group .b),(4,.var Y_impl_Group .b),(8,.val S_impl_Group .b),(9,.val (.int .i64) .b),(10,.val (.int .i64) .b),(57,.val .bool .b)]⟩]
noncomputable def sh_I_goodGroups_4:List Sh:=mkSh 59 [(0,.val S_impl_Group .b),(8,.val S_impl_Group .b),(9,.val (.int .i64) .b),(10,.val (.int .i64) .b)]
noncomputable def o_I_goodGroups_4:List Out:=[⟨.exit 0,⟨[],[],[]⟩,mkSh 59 []⟩,⟨.ret,⟨[],[2],[]⟩,mkSh 59 [(2,.val .bool .b)]⟩]
noncomputable def b_I_goodGroups_4 (t0:PV S_impl_Group)(t8:PV S_impl_Group)(t9:PV (.int .i64))(t10:PV (.int .i64)):Option ((PV S_impl_Group×PV S_impl_Group×PV (.int .i64)×PV (.int .i64)×Unit)⊕((Unit)⊕(PV .bool×Unit))):=bif (decide (t10<t9)) then bif inB t10 t8.length then(f_I_goodGroup (t8.getD t10.toNat (dflt Y_impl_Group))).bind fun r11=>bif (!r11.1.1) then some (.inr (.inr (false,()))) else((bif (decide (t10>0)) then bif inB (IntKind.wrap .i64 (t10 -1)) t0.length then bif inB (IntKind.wrap .i64 (t10 -1)) t0.length then(f_I_Group_old (t0.getD ((IntKind.wrap .i64 (t10 -1)).toNat) (dflt Y_impl_Group))).bind fun r12=>bif (decide (((t8.getD t10.toNat (dflt Y_impl_Group)).1)<(IntKind.wrap .i64 (((t0.getD ((IntKind.wrap .i64 (t10 -1)).toNat) (dflt Y_impl_Group)).1)+(r12.1.1.length:Int))))) then some (t0,(t8.getD t10.toNat (dflt Y_impl_Group)),t8,t9,t10,true,()) else bif inB (IntKind.wrap .i64 (t10 -1)) t0.length then bif inB (IntKind.wrap .i64 (t10 -1)) t0.length then(f_I_Group_fresh (t0.getD ((IntKind.wrap .i64 (t10 -1)).toNat) (dflt Y_impl_Group))).bind fun r13=>some (t0,(t8.getD t10.toNat (dflt Y_impl_Group)),t8,t9,t10,(decide ((((t8.getD t10.toNat (dflt Y_impl_Group)).2).1)<(IntKind.wrap .i64 ((((t0.getD ((IntKind.wrap .i64 (t10 -1)).toNat) (dflt Y_impl_Group)).2).1)+(r13.1.1.length:Int))))),()) else none else none else none else none else some (t0,(t8.getD t10.toNat (dflt Y_impl_Group)),t8,t9,t10,false,()):Option ((PV S_impl_Group×PV Y_impl_Group×PV S_impl_Group×PV (.int .i64)×PV (.int .i64)×PV .bool×Unit)))).bind fun j14=>bif j14.2.2.2.2.2.1 then some (.inr (.inr (false,()))) else some (.inl (j14.1,j14.2.2.1,j14.2.2.2.1,(IntKind.wrap .i64 (j14.2.2.2.2.1+1)),())) else none else some (.inr (.inl ()))
noncomputable def w_I_goodGroups_4:PV S_impl_Group×PV S_impl_Group×PV (.int .i64)×PV (.int .i64)×Unit→Option ((Unit)⊕(PV .bool×Unit)):=fix fun d=>b_I_goodGroups_4 d.1 d.2.1 d.2.2.1 d.2.2.2.1
noncomputable def lp_I_goodGroups_4:Lp:=⟨⟨[],[0,8,9,10,21,22,23,24,25,26,27,28,29,30,31,32,33,34,35,36,37,38,39,40,41,42,43,44,45,46,47,48,49,50,51,52,53,54,55,56],[]⟩,sh_I_goodGroups_4,o_I_goodGroups_4,fun d=>b_I_goodGroups_4 d.1 d.2.1 d.2.2.1 d.2.2.2.1⟩
noncomputable def pl_I_goodGroups:Plan:=⟨[(9,o_I_goodGroups_9)],[(4,lp_I_goodGroups_4)],0,0⟩
noncomputable def f_I_goodGroups (t0:PV S_impl_Group):Option (PVs [.bool]×PVs []):=
 bif (decide ((t0.length:Int)>20)) then
  some ((false,()),())
 else
  (w_I_goodGroups_4 (t0,t0,(t0.length:Int),0,())).bind fun x19=>
    match x19 with
    | .inl l17=>
      some ((true,()),())
    | .inr l18=>
      some ((l18.1,()),())
noncomputable def ct_I_goodGroups:Ct:=⟨[(.bor,S_impl_Group)],[(.bool,.b)],fun x=>f_I_goodGroups x.1⟩
noncomputable def cx_I_goodGroups:Cx:=⟨tab,arrs,[(106,ct_I_goodGroup),(150,ct_I_Group_old),(151,ct_I_Group_fresh)],[],gl,[]⟩
theorem eb_I_goodGroups_4 (t0:PV S_impl_Group)(t8:PV S_impl_Group)(t9:PV (.int .i64))(t10:PV (.int .i64)):denK cx_I_goodGroups (rcN cx_I_goodGroups 0) pl_I_goodGroups 0 ((loopsOf (bodyOf Tryz.f86)).getD 0 .skip) (fillS sh_I_goodGroups_4 (t0,t8,t9,t10,())) (roundK 0 lp_I_goodGroups_4)=b_I_goodGroups_4 t0 t8 t9 t10:=by kernel_rfl
theorem ef_I_goodGroups (t0:PV S_impl_Group):denF cx_I_goodGroups 0 pl_I_goodGroups Tryz.f86.ntmps (bodyOf Tryz.f86) Tryz.f86.results.toList [(.bor,S_impl_Group)] [(.bool,.b)] (t0,())=f_I_goodGroups t0:=by kernel_rfl
theorem ok_I_goodGroups:FnOk gl Tryz.prog 86 ct_I_goodGroups:=
 fnOk (cx:=cx_I_goodGroups) (pl:=pl_I_goodGroups) (dp:=0) (ok0_of tabOk (by unfold ArrOk;kernel_rfl) mix ⟨ok_I_goodGroup,ok_I_Group_old,ok_I_Group_fresh,trivial⟩ trivial) Tryz.func86 (by kernel_rfl) (by kernel_rfl) (by kernel_rfl)
  (by rw[show loopsOf (bodyOf Tryz.f86)=[((loopsOf (bodyOf Tryz.f86)).getD 0 .skip)] from by kernel_rfl];exact⟨(by rw[show lookup pl_I_goodGroups.loops (firstId ((loopsOf (bodyOf Tryz.f86)).getD 0 .skip))=some lp_I_goodGroups_4 from by kernel_rfl];exact fun d z h=>(eb_I_goodGroups_4 d.1 d.2.1 d.2.2.1 d.2.2.2.1).trans h),trivial⟩) (fun x=>ef_I_goodGroups x.1)
noncomputable def pl_I_numberOf:Plan:=⟨[],[],0,0⟩
noncomputable def f_I_numberOf (t0:PV (.int .i64))(t1:PV (.int .i64)):Option (PVs [(.int .i64)]×PVs []):=bif (decide (t1>0)) then some (((IntKind.wrap .i64 (t0+1)),()),()) else some ((t0,()),())
noncomputable def ct_I_numberOf:Ct:=⟨[(.bor,(.int .i64)),(.bor,(.int .i64))],[((.int .i64),.b)],fun x=>f_I_numberOf x.1 x.2.1⟩
noncomputable def cx_I_numberOf:Cx:=⟨tab,arrs,[],[],gl,[]⟩
theorem ef_I_numberOf (t0:PV (.int .i64))(t1:PV (.int .i64)):denF cx_I_numberOf 0 pl_I_numberOf Tryz.f165.ntmps (bodyOf Tryz.f165) Tryz.f165.results.toList [(.bor,(.int .i64)),(.bor,(.int .i64))] [((.int .i64),.b)] (t0,t1,())=f_I_numberOf t0 t1:=by kernel_rfl
theorem ok_I_numberOf:FnOk gl Tryz.prog 165 ct_I_numberOf:=
 fnOk (cx:=cx_I_numberOf) (pl:=pl_I_numberOf) (dp:=0) (ok0_of tabOk (by unfold ArrOk;kernel_rfl) mix trivial trivial) Tryz.func165 (by kernel_rfl) (by kernel_rfl) (by kernel_rfl)
  (by rw[show loopsOf (bodyOf Tryz.f165)=[] from by kernel_rfl];exact trivial) (fun x=>ef_I_numberOf x.1 x.2.1)
noncomputable def pl_I_endOf:Plan:=⟨[],[],0,0⟩
noncomputable def f_I_endOf (t0:PV (.int .i64))(t1:PV (.int .i64)):Option (PVs [(.int .i64)]×PVs []):=some (((IntKind.wrap .i64 (t0+t1)),()),())
noncomputable def ct_I_endOf:Ct:=⟨[(.bor,(.int .i64)),(.bor,(.int .i64))],[((.int .i64),.b)],fun x=>f_I_endOf x.1 x.2.1⟩
noncomputable def cx_I_endOf:Cx:=⟨tab,arrs,[],[],gl,[]⟩
theorem ef_I_endOf (t0:PV (.int .i64))(t1:PV (.int .i64)):denF cx_I_endOf 0 pl_I_endOf Tryz.f166.ntmps (bodyOf Tryz.f166) Tryz.f166.results.toList [(.bor,(.int .i64)),(.bor,(.int .i64))] [((.int .i64),.b)] (t0,t1,())=f_I_endOf t0 t1:=by kernel_rfl
theorem ok_I_endOf:FnOk gl Tryz.prog 166 ct_I_endOf:=
 fnOk (cx:=cx_I_endOf) (pl:=pl_I_endOf) (dp:=0) (ok0_of tabOk (by unfold ArrOk;kernel_rfl) mix trivial trivial) Tryz.func166 (by kernel_rfl) (by kernel_rfl) (by kernel_rfl)
  (by rw[show loopsOf (bodyOf Tryz.f166)=[] from by kernel_rfl];exact trivial) (fun x=>ef_I_endOf x.1 x.2.1)
noncomputable def pl_I_pairOf:Plan:=⟨[],[],0,0⟩
noncomputable def f_I_pairOf (t0:PV (.int .i64))(t1:PV (.int .i64)):Option (PVs [.str]×PVs []):=bif (t0==t1) then(f_strconv_Itoa t0).bind fun r2=>some ((r2.1.1,()),()) else(f_strconv_Itoa t0).bind fun r3=>bif decide (r3.1.1.length+[44].length≤1099511627776) then(f_strconv_Itoa t1).bind fun r4=>bif decide ((r3.1.1++[44]).length+r4.1.1.length≤1099511627776) then some ((((r3.1.1++[44])++r4.1.1),()),()) else none else none
noncomputable def ct_I_pairOf:Ct:=⟨[(.bor,(.int .i64)),(.bor,(.int .i64))],[(.str,.b)],fun x=>f_I_pairOf x.1 x.2.1⟩
noncomputable def cx_I_pairOf:Cx:=⟨tab,arrs,[(205,ct_strconv_Itoa)],[],gl,[]⟩
theorem ef_I_pairOf (t0:PV (.int .i64))(t1:PV (.int .i64)):denF cx_I_pairOf 0 pl_I_pairOf Tryz.f136.ntmps (bodyOf Tryz.f136) Tryz.f136.results.toList [(.bor,(.int .i64)),(.bor,(.int .i64))] [(.str,.b)] (t0,t1,())=f_I_pairOf t0 t1:=by kernel_rfl
theorem ok_I_pairOf:FnOk gl Tryz.prog 136 ct_I_pairOf:=
 fnOk (cx:=cx_I_pairOf) (pl:=pl_I_pairOf) (dp:=0) (ok0_of tabOk (by unfold ArrOk;kernel_rfl) mix ⟨ok_strconv_Itoa,trivial⟩ trivial) Tryz.func136 (by kernel_rfl) (by kernel_rfl) (by kernel_rfl)
  (by rw[show loopsOf (bodyOf Tryz.f136)=[] from by kernel_rfl];exact trivial) (fun x=>ef_I_pairOf x.1 x.2.1)
noncomputable def pl_I_Group_has_230:Plan:=⟨[],[],2,9⟩
noncomputable def sh_I_Group_has_266_2:List Sh:=mkSh 37 [(0,.val Y_impl_Group .b),(1,.val (.int .i64) .b),(2,.var Y_impl_Group .b),(3,.var (.int .i64) .b),(4,.val .bool .b),(5,.addr ⟨2,[.r,.r,.l],0,0⟩),(6,.val S_impl_Row .b),(7,.fn 231 [⟨3,[],0,0⟩]),(9,.val S_impl_Row .b),(10,.fn 231 [⟨3,[],0,0⟩]),(13,.val .bool .b),(14,.val S_impl_Row .b),(15,.fn 231 [⟨3,[],0,0⟩]),(18,.val S_impl_Row .b),(19,.fn 231 [⟨3,[],0,0⟩]),(25,.val (.int .i64) .b),(26,.val (.int .i64) .b)]
noncomputable def o_I_Group_has_266_2:List Out:=[⟨.exit 0,⟨[],[],[]⟩,mkSh 37 [(0,.val Y_impl_Group .b),(1,.val (.int .i64) .b),(2,.var Y_impl_Group .b),(3,.var (.int .i64) .b),(4,.val .bool .b),(5,.addr ⟨2,[.r,.r,.l],0,0⟩),(6,.val S_impl_Row .b),(7,.fn 231 [⟨3,[],0,0⟩]),(9,.val S_impl_Row .b),(10,.fn 231 [⟨3,[],0,0⟩]),(13,.val .bool .b),(14,.val S_impl_Row .b),(15,.fn 231 [⟨3,[],0,0⟩])]⟩,⟨.ret,⟨[],[4],[]⟩,mkSh 37 [(0,.val Y_impl_Group .b),(1,.val (.int .i64) .b),(2,.var Y_impl_Group .b),(3,.var (.int .i64) .b),(4,.val .bool .b),(5,.addr ⟨2,[.r,.r,.l],0,0⟩),(6,.val S_impl_Row .b),(7,.fn 231 [⟨3,[],0,0⟩]),(9,.val S_impl_Row .b),(10,.fn 231 [⟨3,[],0,0⟩]),(13,.val .bool .b),(14,.val S_impl_Row .b),(15,.fn 231 [⟨3,[],0,0⟩]),(22,.val (.int .i64) .b)]⟩]
noncomputable def b_I_Group_has_266_2 (t0:PV Y_impl_Group)(t1:PV (.int .i64))(t2:PV Y_impl_Group)(t3:PV (.int .i64))(t4:PV .bool)(t6:PV S_impl_Row)(t9:PV S_impl_Row)(t13:PV .bool)(t14:PV S_impl_Row)(t18:PV S_impl_Row)(t25:PV (.int .i64))(t26:PV (.int .i64)):Option ((PV Y_impl_Group×PV (.int .i64)×PV Y_impl_Group×PV (.int .i64)×PV .bool×PV S_impl_Row×PV S_impl_Row×PV .bool×PV S_impl_Row×PV S_impl_Row×PV (.int .i64)×PV (.int .i64)×Unit)⊕((PV Y_impl_Group×PV (.int .i64)×PV Y_impl_Group×PV (.int .i64)×PV .bool×PV S_impl_Row×PV S_impl_Row×PV .bool×PV S_impl_Row×Unit)⊕(PV Y_impl_Group×PV (.int .i64)×PV Y_impl_Group×PV (.int .i64)×PV .bool×PV S_impl_Row×PV S_impl_Row×PV .bool×PV S_impl_Row×PV (.int .i64)×Unit))):=bif (decide (t26<t25)) then bif inB t26 t18.length then bif (((t18.getD t26.toNat (dflt Y_impl_Row)).1)==t3) then some (.inr (.inr (t0,t1,t2,t3,t4,t6,t9,t13,t14,t26,()))) else some (.inl (t0,t1,t2,t3,t4,t6,t9,t13,t14,t18,t25,(IntKind.wrap .i64 (t26+1)),())) else none else some (.inr (.inl (t0,t1,t2,t3,t4,t6,t9,t13,t14,())))
noncomputable def w_I_Group_has_266_2:PV Y_impl_Group×PV (.int .i64)×PV Y_impl_Group×PV (.int .i64)×PV .bool×PV S_impl_Row×PV S_impl_Row×PV .bool×PV S_impl_Row×PV S_impl_Row×PV (.int .i64)×PV (.int .i64)×Unit→Option ((PV Y_impl_Group×PV (.int .i64)×PV Y_impl_Group×PV (.int .i64)×PV .bool×PV S_impl_Row×PV S_impl_Row×PV .bool×PV S_impl_Row×Unit)⊕(PV Y_impl_Group×PV (.int .i64)×PV Y_impl_Group×PV (.int .i64)×PV .bool×PV S_impl_Row×PV S_impl_Row×PV .bool×PV S_impl_Row×PV (.int .i64)×Unit)):=fix fun d=>b_I_Group_has_266_2 d.1 d.2.1 d.2.2.1 d.2.2.2.1 d.2.2.2.2.1 d.2.2.2.2.2.1 d.2.2.2.2.2.2.1 d.2.2.2.2.2.2.2.1 d.2.2.2.2.2.2.2.2.1 d.2.2.2.2.2.2.2.2.2.1 d.2.2.2.2.2.2.2.2.2.2.1 d.2.2.2.2.2.2.2.2.2.2.2.1
noncomputable def lp_I_Group_has_266_2:Lp:=⟨⟨[],[0,1,7,8],[]⟩,sh_I_Group_has_266_2,o_I_Group_has_266_2,fun d=>b_I_Group_has_266_2 d.1 d.2.1 d.2.2.1 d.2.2.2.1 d.2.2.2.2.1 d.2.2.2.2.2.1 d.2.2.2.2.2.2.1 d.2.2.2.2.2.2.2.1 d.2.2.2.2.2.2.2.2.1 d.2.2.2.2.2.2.2.2.2.1 d.2.2.2.2.2.2.2.2.2.2.1 d.2.2.2.2.2.2.2.2.2.2.2.1⟩
noncomputable def pl_I_Group_has_266:Plan:=⟨[],[(2,lp_I_Group_has_266_2)],1,18⟩
noncomputable def pl_I_Group_has_231:Plan:=⟨[],[],0,37⟩
noncomputable def pl_I_Group_has:Plan:=⟨[],[],3,0⟩
noncomputable def f_I_Group_has (t0:PV Y_impl_Group)(t1:PV (.int .i64)):Option (PVs [.bool]×PVs []):=
 (w_I_Group_has_266_2 (t0,t1,t0,t1,false,t0.2.2.1,t0.2.2.1,false,t0.2.2.1,t0.2.2.1,(t0.2.2.1.length:Int),0,())).bind fun x5=>
   match x5 with
   | .inl l3=>
     some (((decide ((-1)≥0)),()),())
   | .inr l4=>
     some (((decide (l4.2.2.2.2.2.2.2.2.2.1≥0)),()),())
noncomputable def ct_I_Group_has:Ct:=⟨[(.bor,Y_impl_Group),(.bor,(.int .i64))],[(.bool,.b)],fun x=>f_I_Group_has x.1 x.2.1⟩
noncomputable def cx_I_Group_has:Cx:=⟨tab,arrs,[],[(230,Tryz.f230,pl_I_Group_has_230),(266,Tryz.f266,pl_I_Group_has_266),(231,Tryz.f231,pl_I_Group_has_231)],gl,[]⟩
theorem eb_I_Group_has_266_2 (t0:PV Y_impl_Group)(t1:PV (.int .i64))(t2:PV Y_impl_Group)(t3:PV (.int .i64))(t4:PV .bool)(t6:PV S_impl_Row)(t9:PV S_impl_Row)(t13:PV .bool)(t14:PV S_impl_Row)(t18:PV S_impl_Row)(t25:PV (.int .i64))(t26:PV (.int .i64)):denK cx_I_Group_has (rcN cx_I_Group_has 1) pl_I_Group_has_266 18 ((loopsOf (bodyOf Tryz.f266)).getD 0 .skip) (fillS sh_I_Group_has_266_2 (t0,t1,t2,t3,t4,t6,t9,t13,t14,t18,t25,t26,())) (roundK 18 lp_I_Group_has_266_2)=b_I_Group_has_266_2 t0 t1 t2 t3 t4 t6 t9 t13 t14 t18 t25 t26:=by kernel_rfl
theorem ef_I_Group_has (t0:PV Y_impl_Group)(t1:PV (.int .i64)):denF cx_I_Group_has 3 pl_I_Group_has Tryz.f167.ntmps (bodyOf Tryz.f167) Tryz.f167.results.toList [(.bor,Y_impl_Group),(.bor,(.int .i64))] [(.bool,.b)] (t0,t1,())=f_I_Group_has t0 t1:=by kernel_rfl
theorem ok_I_Group_has:FnOk gl Tryz.prog 167 ct_I_Group_has:=
 fnOk (cx:=cx_I_Group_has) (pl:=pl_I_Group_has) (dp:=3) (ok0_of tabOk (by unfold ArrOk;kernel_rfl) mix trivial ⟨⟨Tryz.func230,by kernel_rfl,(by rw[show loopsOf (bodyOf Tryz.f230)=[] from by kernel_rfl];exact trivial)⟩,⟨Tryz.func266,by kernel_rfl,(by rw[show loopsOf (bodyOf Tryz.f266)=[((loopsOf (bodyOf Tryz.f266)).getD 0 .skip)] from by kernel_rfl];exact⟨(by rw[show lookup pl_I_Group_has_266.loops (firstId ((loopsOf (bodyOf Tryz.f266)).getD 0 .skip))=some lp_I_Group_has_266_2 from by kernel_rfl];exact fun d z h=>(eb_I_Group_has_266_2 d.1 d.2.1 d.2.2.1 d.2.2.2.1 d.2.2.2.2.1 d.2.2.2.2.2.1 d.2.2.2.2.2.2.1 d.2.2.2.2.2.2.2.1 d.2.2.2.2.2.2.2.2.1 d.2.2.2.2.2.2.2.2.2.1 d.2.2.2.2.2.2.2.2.2.2.1 d.2.2.2.2.2.2.2.2.2.2.2.1).trans h),trivial⟩)⟩,⟨Tryz.func231,by kernel_rfl,(by rw[show loopsOf (bodyOf Tryz.f231)=[] from by kernel_rfl];exact trivial)⟩,trivial⟩) Tryz.func167 (by kernel_rfl) (by kernel_rfl) (by kernel_rfl)
  (by rw[show loopsOf (bodyOf Tryz.f167)=[] from by kernel_rfl];exact trivial) (fun x=>ef_I_Group_has x.1 x.2.1)
noncomputable def pl_I_Group_runHas_230:Plan:=⟨[],[],2,48⟩
noncomputable def sh_I_Group_runHas_266_2:List Sh:=mkSh 76 [(3,.var Y_impl_Group .b),(5,.var (.int .i64) .b),(7,.val (.int .i64) .b),(8,.val (.int .i64) .b),(41,.addr ⟨3,[.r,.r,.l],0,0⟩),(42,.val S_impl_Row .b),(43,.val (.int .i64) .b),(44,.val (.int .i64) .b),(45,.val S_impl_Row .b),(46,.fn 237 [⟨5,[],0,0⟩]),(48,.val S_impl_Row .b),(49,.fn 237 [⟨5,[],0,0⟩]),(52,.val .bool .b),(53,.val S_impl_Row .b),(54,.fn 237 [⟨5,[],0,0⟩]),(57,.val S_impl_Row .b),(58,.fn 237 [⟨5,[],0,0⟩]),(64,.val (.int .i64) .b),(65,.val (.int .i64) .b)]
noncomputable def o_I_Group_runHas_266_2:List Out:=[⟨.exit 0,⟨[],[],[]⟩,mkSh 76 [(3,.var Y_impl_Group .b),(5,.var (.int .i64) .b),(7,.val (.int .i64) .b),(8,.val (.int .i64) .b),(41,.addr ⟨3,[.r,.r,.l],0,0⟩),(42,.val S_impl_Row .b),(43,.val (.int .i64) .b),(44,.val (.int .i64) .b),(45,.val S_impl_Row .b),(46,.fn 237 [⟨5,[],0,0⟩]),(48,.val S_impl_Row .b),(49,.fn 237 [⟨5,[],0,0⟩]),(52,.val .bool .b),(53,.val S_impl_Row .b),(54,.fn 237 [⟨5,[],0,0⟩])]⟩,⟨.ret,⟨[],[4],[]⟩,mkSh 76 [(3,.var Y_impl_Group .b),(5,.var (.int .i64) .b),(7,.val (.int .i64) .b),(8,.val (.int .i64) .b),(41,.addr ⟨3,[.r,.r,.l],0,0⟩),(42,.val S_impl_Row .b),(43,.val (.int .i64) .b),(44,.val (.int .i64) .b),(45,.val S_impl_Row .b),(46,.fn 237 [⟨5,[],0,0⟩]),(48,.val S_impl_Row .b),(49,.fn 237 [⟨5,[],0,0⟩]),(52,.val .bool .b),(53,.val S_impl_Row .b),(54,.fn 237 [⟨5,[],0,0⟩]),(61,.val (.int .i64) .b)]⟩]
noncomputable def b_I_Group_runHas_266_2 (t3:PV Y_impl_Group)(t5:PV (.int .i64))(t7:PV (.int .i64))(t8:PV (.int .i64))(t42:PV S_impl_Row)(t43:PV (.int .i64))(t44:PV (.int .i64))(t45:PV S_impl_Row)(t48:PV S_impl_Row)(t52:PV .bool)(t53:PV S_impl_Row)(t57:PV S_impl_Row)(t64:PV (.int .i64))(t65:PV (.int .i64)):Option ((PV Y_impl_Group×PV (.int .i64)×PV (.int .i64)×PV (.int .i64)×PV S_impl_Row×PV (.int .i64)×PV (.int .i64)×PV S_impl_Row×PV S_impl_Row×PV .bool×PV S_impl_Row×PV S_impl_Row×PV (.int .i64)×PV (.int .i64)×Unit)⊕((PV Y_impl_Group×PV (.int .i64)×PV (.int .i64)×PV (.int .i64)×PV S_impl_Row×PV (.int .i64)×PV (.int .i64)×PV S_impl_Row×PV S_impl_Row×PV .bool×PV S_impl_Row×Unit)⊕(PV Y_impl_Group×PV (.int .i64)×PV (.int .i64)×PV (.int .i64)×PV S_impl_Row×PV (.int .i64)×PV (.int .i64)×PV S_impl_Row×PV S_impl_Row×PV .bool×PV S_impl_Row×PV (.int .i64)×Unit))):=bif (decide (t65<t64)) then bif inB t65 t57.length then bif (((t57.getD t65.toNat (dflt Y_impl_Row)).1)==t5) then some (.inr (.inr (t3,t5,t7,t8,t42,t43,t44,t45,t48,t52,t53,t65,()))) else some (.inl (t3,t5,t7,t8,t42,t43,t44,t45,t48,t52,t53,t57,t64,(IntKind.wrap .i64 (t65+1)),())) else none else some (.inr (.inl (t3,t5,t7,t8,t42,t43,t44,t45,t48,t52,t53,())))
noncomputable def w_I_Group_runHas_266_2:PV Y_impl_Group×PV (.int .i64)×PV (.int .i64)×PV (.int .i64)×PV S_impl_Row×PV (.int .i64)×PV (.int .i64)×PV S_impl_Row×PV S_impl_Row×PV .bool×PV S_impl_Row×PV S_impl_Row×PV (.int .i64)×PV (.int .i64)×Unit→Option ((PV Y_impl_Group×PV (.int .i64)×PV (.int .i64)×PV (.int .i64)×PV S_impl_Row×PV (.int .i64)×PV (.int .i64)×PV S_impl_Row×PV S_impl_Row×PV .bool×PV S_impl_Row×Unit)⊕(PV Y_impl_Group×PV (.int .i64)×PV (.int .i64)×PV (.int .i64)×PV S_impl_Row×PV (.int .i64)×PV (.int .i64)×PV S_impl_Row×PV S_impl_Row×PV .bool×PV S_impl_Row×PV (.int .i64)×Unit)):=fix fun d=>b_I_Group_runHas_266_2 d.1 d.2.1 d.2.2.1 d.2.2.2.1 d.2.2.2.2.1 d.2.2.2.2.2.1 d.2.2.2.2.2.2.1 d.2.2.2.2.2.2.2.1 d.2.2.2.2.2.2.2.2.1 d.2.2.2.2.2.2.2.2.2.1 d.2.2.2.2.2.2.2.2.2.2.1 d.2.2.2.2.2.2.2.2.2.2.2.1 d.2.2.2.2.2.2.2.2.2.2.2.2.1 d.2.2.2.2.2.2.2.2.2.2.2.2.2.1
noncomputable def lp_I_Group_runHas_266_2:Lp:=⟨⟨[],[0,1,7,8],[]⟩,sh_I_Group_runHas_266_2,o_I_Group_runHas_266_2,fun d=>b_I_Group_runHas_266_2 d.1 d.2.1 d.2.2.1 d.2.2.2.1 d.2.2.2.2.1 d.2.2.2.2.2.1 d.2.2.2.2.2.2.1 d.2.2.2.2.2.2.2.1 d.2.2.2.2.2.2.2.2.1 d.2.2.2.2.2.2.2.2.2.1 d.2.2.2.2.2.2.2.2.2.2.1 d.2.2.2.2.2.2.2.2.2.2.2.1 d.2.2.2.2.2.2.2.2.2.2.2.2.1 d.2.2.2.2.2.2.2.2.2.2.2.2.2.1⟩
noncomputable def pl_I_Group_runHas_266:Plan:=⟨[],[(2,lp_I_Group_runHas_266_2)],1,57⟩
noncomputable def pl_I_Group_runHas_237:Plan:=⟨[],[],0,76⟩
noncomputable def sh_I_Group_runHas_2:List Sh:=mkSh 48 [(3,.var Y_impl_Group .b),(5,.var (.int .i64) .b),(7,.val (.int .i64) .b),(8,.val (.int .i64) .b)]
noncomputable def o_I_Group_runHas_2:List Out:=[⟨.exit 0,⟨[],[3,5,7,8,31,32,33,34,35,36,37],[]⟩,mkSh 48 [(3,.var Y_impl_Group .b),(5,.var (.int .i64) .b),(7,.val (.int .i64) .b),(8,.val (.int .i64) .b)]⟩]
noncomputable def b_I_Group_runHas_2 (t3:PV Y_impl_Group)(t5:PV (.int .i64))(t7:PV (.int .i64))(t8:PV (.int .i64)):Option ((PV Y_impl_Group×PV (.int .i64)×PV (.int .i64)×PV (.int .i64)×Unit)⊕((PV Y_impl_Group×PV (.int .i64)×PV (.int .i64)×PV (.int .i64)×Unit))):=bif (decide (t7>0)) then bif inB (IntKind.wrap .i64 (t7 -1)) t3.2.2.1.length then bif (!(((t3.2.2.1.getD ((IntKind.wrap .i64 (t7 -1)).toNat) (dflt Y_impl_Row)).1)==1)) then some (.inl (t3,t5,(IntKind.wrap .i64 (t7 -1)),t8,())) else some (.inr (t3,t5,t7,t8,())) else none else some (.inr (t3,t5,t7,t8,()))
noncomputable def w_I_Group_runHas_2:PV Y_impl_Group×PV (.int .i64)×PV (.int .i64)×PV (.int .i64)×Unit→Option ((PV Y_impl_Group×PV (.int .i64)×PV (.int .i64)×PV (.int .i64)×Unit)):=fix fun d=>b_I_Group_runHas_2 d.1 d.2.1 d.2.2.1 d.2.2.2.1
noncomputable def lp_I_Group_runHas_2:Lp:=⟨⟨[],[3,5,7,8,31,32,33,34,35,36,37],[]⟩,sh_I_Group_runHas_2,o_I_Group_runHas_2,fun d=>b_I_Group_runHas_2 d.1 d.2.1 d.2.2.1 d.2.2.2.1⟩
noncomputable def sh_I_Group_runHas_4:List Sh:=mkSh 48 [(3,.var Y_impl_Group .b),(5,.var (.int .i64) .b),(7,.val (.int .i64) .b),(8,.val (.int .i64) .b)]
noncomputable def o_I_Group_runHas_4:List Out:=[⟨.exit 2,⟨[],[3,5,7,8],[]⟩,mkSh 48 [(3,.var Y_impl_Group .b),(5,.var (.int .i64) .b),(7,.val (.int .i64) .b),(8,.val (.int .i64) .b)]⟩]
noncomputable def b_I_Group_runHas_4 (t3:PV Y_impl_Group)(t5:PV (.int .i64))(t7:PV (.int .i64))(t8:PV (.int .i64)):Option ((PV Y_impl_Group×PV (.int .i64)×PV (.int .i64)×PV (.int .i64)×Unit)⊕((PV Y_impl_Group×PV (.int .i64)×PV (.int .i64)×PV (.int .i64)×Unit))):=bif (decide (t8<(t3.2.2.1.length:Int))) then bif inB t8 t3.2.2.1.length then bif (!(((t3.2.2.1.getD t8.toNat (dflt Y_impl_Row)).1)==1)) then some (.inl (t3,t5,t7,(IntKind.wrap .i64 (t8+1)),())) else some (.inr (t3,t5,t7,t8,())) else none else some (.inr (t3,t5,t7,t8,()))
noncomputable def w_I_Group_runHas_4:PV Y_impl_Group×PV (.int .i64)×PV (.int .i64)×PV (.int .i64)×Unit→Option ((PV Y_impl_Group×PV (.int .i64)×PV (.int .i64)×PV (.int .i64)×Unit)):=fix fun d=>b_I_Group_runHas_4 d.1 d.2.1 d.2.2.1 d.2.2.2.1
noncomputable def lp_I_Group_runHas_4:Lp:=⟨⟨[],[3,5,7,8],[]⟩,sh_I_Group_runHas_4,o_I_Group_runHas_4,fun d=>b_I_Group_runHas_4 d.1 d.2.1 d.2.2.1 d.2.2.2.1⟩
noncomputable def pl_I_Group_runHas:Plan:=⟨[],[(2,lp_I_Group_runHas_2),(4,lp_I_Group_runHas_4)],3,0⟩
noncomputable def f_I_Group_runHas (t0:PV Y_impl_Group)(t1:PV (.int .i64))(t2:PV (.int .i64)):Option (PVs [.bool]×PVs []):=
 (w_I_Group_runHas_2 (t0,t2,t1,t1,())).bind fun l2=>
   (w_I_Group_runHas_4 (l2.1,l2.2.1,l2.2.2.1,l2.2.2.2.1,())).bind fun l4=>
     bif cutB l4.2.2.1 l4.2.2.2.1 l4.1.2.2.1.length then
      (w_I_Group_runHas_266_2 (l4.1,l4.2.1,l4.2.2.1,l4.2.2.2.1,l4.1.2.2.1,l4.2.2.1,l4.2.2.2.1,(cutL l4.2.2.1 l4.2.2.2.1 l4.1.2.2.1),(cutL l4.2.2.1 l4.2.2.2.1 l4.1.2.2.1),false,(cutL l4.2.2.1 l4.2.2.2.1 l4.1.2.2.1),(cutL l4.2.2.1 l4.2.2.2.1 l4.1.2.2.1),((cutL l4.2.2.1 l4.2.2.2.1 l4.1.2.2.1).length:Int),0,())).bind fun x9=>
        match x9 with
        | .inl l7=>
          some (((decide ((-1)≥0)),()),())
        | .inr l8=>
          some (((decide (l8.2.2.2.2.2.2.2.2.2.2.2.1≥0)),()),())
     else
      none
noncomputable def ct_I_Group_runHas:Ct:=⟨[(.bor,Y_impl_Group),(.bor,(.int .i64)),(.bor,(.int .i64))],[(.bool,.b)],fun x=>f_I_Group_runHas x.1 x.2.1 x.2.2.1⟩
noncomputable def cx_I_Group_runHas:Cx:=⟨tab,arrs,[],[(230,Tryz.f230,pl_I_Group_runHas_230),(266,Tryz.f266,pl_I_Group_runHas_266),(237,Tryz.f237,pl_I_Group_runHas_237)],gl,[]⟩
theorem eb_I_Group_runHas_266_2 (t3:PV Y_impl_Group)(t5:PV (.int .i64))(t7:PV (.int .i64))(t8:PV (.int .i64))(t42:PV S_impl_Row)(t43:PV (.int .i64))(t44:PV (.int .i64))(t45:PV S_impl_Row)(t48:PV S_impl_Row)(t52:PV .bool)(t53:PV S_impl_Row)(t57:PV S_impl_Row)(t64:PV (.int .i64))(t65:PV (.int .i64)):denK cx_I_Group_runHas (rcN cx_I_Group_runHas 1) pl_I_Group_runHas_266 57 ((loopsOf (bodyOf Tryz.f266)).getD 0 .skip) (fillS sh_I_Group_runHas_266_2 (t3,t5,t7,t8,t42,t43,t44,t45,t48,t52,t53,t57,t64,t65,())) (roundK 57 lp_I_Group_runHas_266_2)=b_I_Group_runHas_266_2 t3 t5 t7 t8 t42 t43 t44 t45 t48 t52 t53 t57 t64 t65:=by kernel_rfl
theorem eb_I_Group_runHas_2 (t3:PV Y_impl_Group)(t5:PV (.int .i64))(t7:PV (.int .i64))(t8:PV (.int .i64)):denK cx_I_Group_runHas (rcN cx_I_Group_runHas 3) pl_I_Group_runHas 0 ((loopsOf (bodyOf Tryz.f180)).getD 0 .skip) (fillS sh_I_Group_runHas_2 (t3,t5,t7,t8,())) (roundK 0 lp_I_Group_runHas_2)=b_I_Group_runHas_2 t3 t5 t7 t8:=by kernel_rfl
theorem eb_I_Group_runHas_4 (t3:PV Y_impl_Group)(t5:PV (.int .i64))(t7:PV (.int .i64))(t8:PV (.int .i64)):denK cx_I_Group_runHas (rcN cx_I_Group_runHas 3) pl_I_Group_runHas 0 ((loopsOf (bodyOf Tryz.f180)).getD 1 .skip) (fillS sh_I_Group_runHas_4 (t3,t5,t7,t8,())) (roundK 0 lp_I_Group_runHas_4)=b_I_Group_runHas_4 t3 t5 t7 t8:=by kernel_rfl
theorem ef_I_Group_runHas (t0:PV Y_impl_Group)(t1:PV (.int .i64))(t2:PV (.int .i64)):denF cx_I_Group_runHas 3 pl_I_Group_runHas Tryz.f180.ntmps (bodyOf Tryz.f180) Tryz.f180.results.toList [(.bor,Y_impl_Group),(.bor,(.int .i64)),(.bor,(.int .i64))] [(.bool,.b)] (t0,t1,t2,())=f_I_Group_runHas t0 t1 t2:=by kernel_rfl
theorem ok_I_Group_runHas:FnOk gl Tryz.prog 180 ct_I_Group_runHas:=
 fnOk (cx:=cx_I_Group_runHas) (pl:=pl_I_Group_runHas) (dp:=3) (ok0_of tabOk (by unfold ArrOk;kernel_rfl) mix trivial ⟨⟨Tryz.func230,by kernel_rfl,(by rw[show loopsOf (bodyOf Tryz.f230)=[] from by kernel_rfl];exact trivial)⟩,⟨Tryz.func266,by kernel_rfl,(by rw[show loopsOf (bodyOf Tryz.f266)=[((loopsOf (bodyOf Tryz.f266)).getD 0 .skip)] from by kernel_rfl];exact⟨(by rw[show lookup pl_I_Group_runHas_266.loops (firstId ((loopsOf (bodyOf Tryz.f266)).getD 0 .skip))=some lp_I_Group_runHas_266_2 from by kernel_rfl];exact fun d z h=>(eb_I_Group_runHas_266_2 d.1 d.2.1 d.2.2.1 d.2.2.2.1 d.2.2.2.2.1 d.2.2.2.2.2.1 d.2.2.2.2.2.2.1 d.2.2.2.2.2.2.2.1 d.2.2.2.2.2.2.2.2.1 d.2.2.2.2.2.2.2.2.2.1 d.2.2.2.2.2.2.2.2.2.2.1 d.2.2.2.2.2.2.2.2.2.2.2.1 d.2.2.2.2.2.2.2.2.2.2.2.2.1 d.2.2.2.2.2.2.2.2.2.2.2.2.2.1).trans h),trivial⟩)⟩,⟨Tryz.func237,by kernel_rfl,(by rw[show loopsOf (bodyOf Tryz.f237)=[] from by kernel_rfl];exact trivial)⟩,trivial⟩) Tryz.func180 (by kernel_rfl) (by kernel_rfl) (by kernel_rfl)
  (by rw[show loopsOf (bodyOf Tryz.f180)=[((loopsOf (bodyOf Tryz.f180)).getD 0 .skip),((loopsOf (bodyOf Tryz.f180)).getD 1 .skip)] from by kernel_rfl];exact⟨(by rw[show lookup pl_I_Group_runHas.loops (firstId ((loopsOf (bodyOf Tryz.f180)).getD 0 .skip))=some lp_I_Group_runHas_2 from by kernel_rfl];exact fun d z h=>(eb_I_Group_runHas_2 d.1 d.2.1 d.2.2.1 d.2.2.2.1).trans h),(by rw[show lookup pl_I_Group_runHas.loops (firstId ((loopsOf (bodyOf Tryz.f180)).getD 1 .skip))=some lp_I_Group_runHas_4 from by kernel_rfl];exact fun d z h=>(eb_I_Group_runHas_4 d.1 d.2.1 d.2.2.1 d.2.2.2.1).trans h),trivial⟩) (fun x=>ef_I_Group_runHas x.1 x.2.1 x.2.2.1)
noncomputable def pl_I_shown:Plan:=⟨[],[],0,0⟩
noncomputable def f_I_shown (t0:PV .str)(t1:PV .str):Option (PVs [.str]×PVs []):=(f_I_isEnded t1).bind fun r4=>bif r4.1.1 then bif decide (t0.length+t1.length≤1099511627776) then some (((t0++t1),()),()) else none else bif decide (t0.length+t1.length≤1099511627776) then bif decide ((t0++t1).length+[10].length≤1099511627776) then bif decide (((t0++t1)++[10]).length+[92,32,110,111,110,101,10].length≤1099511627776) then some (((((t0++t1)++[10])++[92,32,110,111,110,101,10]),()),()) else none else none else none
noncomputable def ct_I_shown:Ct:=⟨[(.bor,.str),(.bor,.str)],[(.str,.b)],fun x=>f_I_shown x.1 x.2.1⟩
noncomputable def cx_I_shown:Cx:=⟨tab,arrs,[(157,ct_I_isEnded)],[],gl,[]⟩
theorem ef_I_shown (t0:PV .str)(t1:PV .str):denF cx_I_shown 0 pl_I_shown Tryz.f181.ntmps (bodyOf Tryz.f181) Tryz.f181.results.toList [(.bor,.str),(.bor,.str)] [(.str,.b)] (t0,t1,())=f_I_shown t0 t1:=by kernel_rfl
theorem ok_I_shown:FnOk gl Tryz.prog 181 ct_I_shown:=
 fnOk (cx:=cx_I_shown) (pl:=pl_I_shown) (dp:=0) (ok0_of tabOk (by unfold ArrOk;kernel_rfl) mix ⟨ok_I_isEnded,trivial⟩ trivial) Tryz.func181 (by kernel_rfl) (by kernel_rfl) (by kernel_rfl)
  (by rw[show loopsOf (bodyOf Tryz.f181)=[] from by kernel_rfl];exact trivial) (fun x=>ef_I_shown x.1 x.2.1)
noncomputable def pl_I_Row_sign:Plan:=⟨[],[],0,0⟩
noncomputable def f_I_Row_sign (t0:PV Y_impl_Row):Option (PVs [.str]×PVs []):=bif cutB t0.1 (IntKind.wrap .i64 (t0.1+1)) [63,32,45,43].length then some (((cutL t0.1 (IntKind.wrap .i64 (t0.1+1)) [63,32,45,43]),()),()) else none
noncomputable def ct_I_Row_sign:Ct:=⟨[(.bor,Y_impl_Row)],[(.str,.b)],fun x=>f_I_Row_sign x.1⟩
noncomputable def cx_I_Row_sign:Cx:=⟨tab,arrs,[],[],gl,[]⟩
theorem ef_I_Row_sign (t0:PV Y_impl_Row):denF cx_I_Row_sign 0 pl_I_Row_sign Tryz.f182.ntmps (bodyOf Tryz.f182) Tryz.f182.results.toList [(.bor,Y_impl_Row)] [(.str,.b)] (t0,())=f_I_Row_sign t0:=by kernel_rfl
theorem ok_I_Row_sign:FnOk gl Tryz.prog 182 ct_I_Row_sign:=
 fnOk (cx:=cx_I_Row_sign) (pl:=pl_I_Row_sign) (dp:=0) (ok0_of tabOk (by unfold ArrOk;kernel_rfl) mix trivial trivial) Tryz.func182 (by kernel_rfl) (by kernel_rfl) (by kernel_rfl)
  (by rw[show loopsOf (bodyOf Tryz.f182)=[] from by kernel_rfl];exact trivial) (fun x=>ef_I_Row_sign x.1)
noncomputable def o_I_Group_half_8:List Out:=[⟨.normal,⟨[],[1,2,5,7,9,10,11,29],[]⟩,mkSh 46 [(1,.val (.int .i64) .b),(2,.var Y_impl_Group .b),(5,.val .str .b),(7,.var Y_impl_Row .b),(9,.val S_impl_Row .b),(10,.val (.int .i64) .b),(11,.val (.int .i64) .b),(29,.val .bool .b)]⟩]
noncomputable def o_I_Group_half_9:List Out:=[⟨.normal,⟨[],[1,2,5,9,10,11,34,35,36,37],[]⟩,mkSh 46 [(1,.val (.int .i64) .b),(2,.var Y_impl_Group .b),(5,.val .str .b),(9,.val S_impl_Row .b),(10,.val (.int .i64) .b),(11,.val (.int .i64) .b)]⟩]
noncomputable def sh_I_Group_half_3:List Sh:=mkSh 46 [(1,.val (.int .i64) .b),(2,.var Y_impl_Group .b),(5,.val .str .b),(9,.val S_impl_Row .b),(10,.val (.int .i64) .b),(11,.val (.int .i64) .b)]
noncomputable def o_I_Group_half_3:List Out:=[⟨.exit 0,⟨[],[5],[]⟩,mkSh 46 [(5,.val .str .b)]⟩]
noncomputable def b_I_Group_half_3 (t1:PV (.int .i64))(t2:PV Y_impl_Group)(t5:PV .str)(t9:PV S_impl_Row)(t10:PV (.int .i64))(t11:PV (.int .i64)):Option ((PV (.int .i64)×PV Y_impl_Group×PV .str×PV S_impl_Row×PV (.int .i64)×PV (.int .i64)×Unit)⊕((PV .str×Unit))):=bif (decide (t11<t10)) then((bif inB t11 t9.length then bif (((t9.getD t11.toNat (dflt Y_impl_Row)).1)==t1) then some (t1,t2,t5,t9,t10,t11,()) else((bif (!(((t9.getD t11.toNat (dflt Y_impl_Row)).1)==1)) then(f_I_Group_runHas t2 t11 t1).bind fun r1=>some (t1,t2,t5,(t9.getD t11.toNat (dflt Y_impl_Row)),t9,t10,t11,r1.1.1,()) else some (t1,t2,t5,(t9.getD t11.toNat (dflt Y_impl_Row)),t9,t10,t11,false,()):Option ((PV (.int .i64)×PV Y_impl_Group×PV .str×PV Y_impl_Row×PV S_impl_Row×PV (.int .i64)×PV (.int .i64)×PV .bool×Unit)))).bind fun j2=>bif j2.2.2.2.2.2.2.2.1 then(f_I_shown [33,32] j2.2.2.2.1.2.1).bind fun r3=>bif decide (j2.2.2.1.length+r3.1.1.length≤1099511627776) then some (j2.1,j2.2.1,(j2.2.2.1++r3.1.1),j2.2.2.2.2.1,j2.2.2.2.2.2.1,j2.2.2.2.2.2.2.1,()) else none else(f_I_Row_sign j2.2.2.2.1).bind fun r4=>bif decide (r4.1.1.length+[32].length≤1099511627776) then(f_I_shown (r4.1.1++[32]) j2.2.2.2.1.2.1).bind fun r5=>bif decide (j2.2.2.1.length+r5.1.1.length≤1099511627776) then some (j2.1,j2.2.1,(j2.2.2.1++r5.1.1),j2.2.2.2.2.1,j2.2.2.2.2.2.1,j2.2.2.2.2.2.2.1,()) else none else none else none:Option ((PV (.int .i64)×PV Y_impl_Group×PV .str×PV S_impl_Row×PV (.int .i64)×PV (.int .i64)×Unit)))).bind fun j6=>some (.inl (j6.1,j6.2.1,j6.2.2.1,j6.2.2.2.1,j6.2.2.2.2.1,(IntKind.wrap .i64 (j6.2.2.2.2.2.1+1)),())) else some (.inr (t5,()))
noncomputable def w_I_Group_half_3:PV (.int .i64)×PV Y_impl_Group×PV .str×PV S_impl_Row×PV (.int .i64)×PV (.int .i64)×Unit→Option ((PV .str×Unit)):=fix fun d=>b_I_Group_half_3 d.1 d.2.1 d.2.2.1 d.2.2.2.1 d.2.2.2.2.1 d.2.2.2.2.2.1
noncomputable def lp_I_Group_half_3:Lp:=⟨⟨[],[1,2,5,9,10,11,34,35,36,37],[]⟩,sh_I_Group_half_3,o_I_Group_half_3,fun d=>b_I_Group_half_3 d.1 d.2.1 d.2.2.1 d.2.2.2.1 d.2.2.2.2.1 d.2.2.2.2.2.1⟩
noncomputable def pl_I_Group_half:Plan:=⟨[(8,o_I_Group_half_8),(9,o_I_Group_half_9)],[(3,lp_I_Group_half_3)],0,0⟩
noncomputable def f_I_Group_half (t0:PV Y_impl_Group)(t1:PV (.int .i64)):Option (PVs [.str]×PVs []):=(w_I_Group_half_3 (t1,t0,[],t0.2.2.1,(t0.2.2.1.length:Int),0,())).bind fun l8=>some ((l8.1,()),())
noncomputable def ct_I_Group_half:Ct:=⟨[(.bor,Y_impl_Group),(.bor,(.int .i64))],[(.str,.b)],fun x=>f_I_Group_half x.1 x.2.1⟩
noncomputable def cx_I_Group_half:Cx:=⟨tab,arrs,[(180,ct_I_Group_runHas),(181,ct_I_shown),(182,ct_I_Row_sign)],[],gl,[]⟩
theorem eb_I_Group_half_3 (t1:PV (.int .i64))(t2:PV Y_impl_Group)(t5:PV .str)(t9:PV S_impl_Row)(t10:PV (.int .i64))(t11:PV (.int .i64)):denK cx_I_Group_half (rcN cx_I_Group_half 0) pl_I_Group_half 0 ((loopsOf (bodyOf Tryz.f107)).getD 0 .skip) (fillS sh_I_Group_half_3 (t1,t2,t5,t9,t10,t11,())) (roundK 0 lp_I_Group_half_3)=b_I_Group_half_3 t1 t2 t5 t9 t10 t11:=by kernel_rfl
theorem ef_I_Group_half (t0:PV Y_impl_Group)(t1:PV (.int .i64)):denF cx_I_Group_half 0 pl_I_Group_half Tryz.f107.ntmps (bodyOf Tryz.f107) Tryz.f107.results.toList [(.bor,Y_impl_Group),(.bor,(.int .i64))] [(.str,.b)] (t0,t1,())=f_I_Group_half t0 t1:=by kernel_rfl
theorem ok_I_Group_half:FnOk gl Tryz.prog 107 ct_I_Group_half:=
 fnOk (cx:=cx_I_Group_half) (pl:=pl_I_Group_half) (dp:=0) (ok0_of tabOk (by unfold ArrOk;kernel_rfl) mix ⟨ok_I_Group_runHas,ok_I_shown,ok_I_Row_sign,trivial⟩ trivial) Tryz.func107 (by kernel_rfl) (by kernel_rfl) (by kernel_rfl)
  (by rw[show loopsOf (bodyOf Tryz.f107)=[((loopsOf (bodyOf Tryz.f107)).getD 0 .skip)] from by kernel_rfl];exact⟨(by rw[show lookup pl_I_Group_half.loops (firstId ((loopsOf (bodyOf Tryz.f107)).getD 0 .skip))=some lp_I_Group_half_3 from by kernel_rfl];exact fun d z h=>(eb_I_Group_half_3 d.1 d.2.1 d.2.2.1 d.2.2.2.1 d.2.2.2.2.1 d.2.2.2.2.2.1).trans h),trivial⟩) (fun x=>ef_I_Group_half x.1 x.2.1)
noncomputable def o_I_sidesText_9:List Out:=[⟨.normal,⟨[],[3,5,7,8,9,10],[]⟩,mkSh 60 [(3,.val .str .b),(5,.var Y_impl_Group .b),(7,.val (.int .i64) .b),(8,.val S_impl_Group .b),(9,.val (.int .i64) .b),(10,.val (.int .i64) .b)]⟩]
noncomputable def o_I_sidesText_12:List Out:=[⟨.normal,⟨[],[3,8,9,10],[]⟩,mkSh 60 [(3,.val .str .b),(8,.val S_impl_Group .b),(9,.val (.int .i64) .b),(10,.val (.int .i64) .b)]⟩]
noncomputable def sh_I_sidesText_3:List Sh:=mkSh 60 [(3,.val .str .b),(8,.val S_impl_Group .b),(9,.val (.int .i64) .b),(10,.val (.int .i64) .b)]
noncomputable def o_I_sidesText_3:List Out:=[⟨.exit 0,⟨[],[3],[]⟩,mkSh 60 [(3,.val .str .b)]⟩]
noncomputable def b_I_sidesText_3 (t3:PV .str)(t8:PV S_impl_Group)(t9:PV (.int .i64))(t10:PV (.int .i64)):Option ((PV .str×PV S_impl_Group×PV (.int .i64)×PV (.int .i64)×Unit)⊕((PV .str×Unit))):=bif (decide (t10<t9)) then((bif inB t10 t8.length then(f_I_Group_old (t8.getD t10.toNat (dflt Y_impl_Group))).bind fun r3=>(f_I_Group_fresh (t8.getD t10.toNat (dflt Y_impl_Group))).bind fun r4=>(f_I_numberOf ((t8.getD t10.toNat (dflt Y_impl_Group)).1) (r3.1.1.length:Int)).bind fun r8=>(f_I_endOf ((t8.getD t10.toNat (dflt Y_impl_Group)).1) (r3.1.1.length:Int)).bind fun r9=>(f_I_pairOf r8.1.1 r9.1.1).bind fun r10=>bif decide ([42,42,42,42,42,42,42,42,42,42,42,42,42,42,42,10,42,42,42,32].length+r10.1.1.length≤1099511627776) then bif decide (([42,42,42,42,42,42,42,42,42,42,42,42,42,42,42,10,42,42,42,32]++r10.1.1).length+[32,42,42,42,42,10].length≤1099511627776) then bif decide (t3.length+(([42,42,42,42,42,42,42,42,42,42,42,42,42,42,42,10,42,42,42,32]++r10.1.1)++[32,42,42,42,42,10]).length≤1099511627776) then(((f_I_Group_has (t8.getD t10.toNat (dflt Y_impl_Group)) 2).bind fun r12=>bif r12.1.1 then(f_I_Group_half (t8.getD t10.toNat (dflt Y_impl_Group)) 3).bind fun r13=>bif decide ((t3++(([42,42,42,42,42,42,42,42,42,42,42,42,42,42,42,10,42,42,42,32]++r10.1.1)++[32,42,42,42,42,10])).length+r13.1.1.length≤1099511627776) then some (((t3++(([42,42,42,42,42,42,42,42,42,42,42,42,42,42,42,10,42,42,42,32]++r10.1.1)++[32,42,42,42,42,10]))++r13.1.1),(t8.getD t10.toNat (dflt Y_impl_Group)),(r4.1.1.length:Int),t8,t9,t10,()) else none else some ((t3++(([42,42,42,42,42,42,42,42,42,42,42,42,42,42,42,10,42,42,42,32]++r10.1.1)++[32,42,42,42,42,10])),(t8.getD t10.toNat (dflt Y_impl_Group)),(r4.1.1.length:Int),t8,t9,t10,()):Option ((PV .str×PV Y_impl_Group×PV (.int .i64)×PV S_impl_Group×PV (.int .i64)×PV (.int .i64)×Unit)))).bind fun j14=>(f_I_numberOf j14.2.1.2.1 j14.2.2.1).bind fun r18=>(f_I_endOf j14.2.1.2.1 j14.2.2.1).bind fun r19=>(f_I_pairOf r18.1.1 r19.1.1).bind fun r20=>bif decide ([45,45,45,32].length+r20.1.1.length≤1099511627776) then bif decide (([45,45,45,32]++r20.1.1).length+[32,45,45,45,45,10].length≤1099511627776) then bif decide (j14.1.length+(([45,45,45,32]++r20.1.1)++[32,45,45,45,45,10]).length≤1099511627776) then(f_I_Group_has j14.2.1 3).bind fun r22=>bif r22.1.1 then(f_I_Group_half j14.2.1 2).bind fun r23=>bif decide ((j14.1++(([45,45,45,32]++r20.1.1)++[32,45,45,45,45,10])).length+r23.1.1.length≤1099511627776) then some (((j14.1++(([45,45,45,32]++r20.1.1)++[32,45,45,45,45,10]))++r23.1.1),j14.2.2.2.1,j14.2.2.2.2.1,j14.2.2.2.2.2.1,()) else none else some ((j14.1++(([45,45,45,32]++r20.1.1)++[32,45,45,45,45,10])),j14.2.2.2.1,j14.2.2.2.2.1,j14.2.2.2.2.2.1,()) else none else none else none else none else none else none else none:Option ((PV .str×PV S_impl_Group×PV (.int .i64)×PV (.int .i64)×Unit)))).bind fun j24=>some (.inl (j24.1,j24.2.1,j24.2.2.1,(IntKind.wrap .i64 (j24.2.2.2.1+1)),())) else some (.inr (t3,()))
noncomputable def w_I_sidesText_3:PV .str×PV S_impl_Group×PV (.int .i64)×PV (.int .i64)×Unit→Option ((PV .str×Unit)):=fix fun d=>b_I_sidesText_3 d.1 d.2.1 d.2.2.1 d.2.2.2.1
noncomputable def lp_I_sidesText_3:Lp:=⟨⟨[],[3,8,9,10],[]⟩,sh_I_sidesText_3,o_I_sidesText_3,fun d=>b_I_sidesText_3 d.1 d.2.1 d.2.2.1 d.2.2.2.1⟩
noncomputable def pl_I_sidesText:Plan:=⟨[(9,o_I_sidesText_9),(12,o_I_sidesText_12)],[(3,lp_I_sidesText_3)],0,0⟩
noncomputable def f_I_sidesText (t0:PV S_impl_Group):Option (PVs [.str]×PVs []):=(w_I_sidesText_3 ([],t0,(t0.length:Int),0,())).bind fun l26=>some ((l26.1,()),())
noncomputable def ct_I_sidesText:Ct:=⟨[(.bor,S_impl_Group)],[(.str,.b)],fun x=>f_I_sidesText x.1⟩
noncomputable def cx_I_sidesText:Cx:=⟨tab,arrs,[(107,ct_I_Group_half),(136,ct_I_pairOf),(150,ct_I_Group_old),(151,ct_I_Group_fresh),(165,ct_I_numberOf),(166,ct_I_endOf),(167,ct_I_Group_has)],[],gl,[]⟩
theorem eb_I_sidesText_3 (t3:PV .str)(t8:PV S_impl_Group)(t9:PV (.int .i64))(t10:PV (.int .i64)):denK cx_I_sidesText (rcN cx_I_sidesText 0) pl_I_sidesText 0 ((loopsOf (bodyOf Tryz.f99)).getD 0 .skip) (fillS sh_I_sidesText_3 (t3,t8,t9,t10,())) (roundK 0 lp_I_sidesText_3)=b_I_sidesText_3 t3 t8 t9 t10:=by kernel_rfl
theorem ef_I_sidesText (t0:PV S_impl_Group):denF cx_I_sidesText 0 pl_I_sidesText Tryz.f99.ntmps (bodyOf Tryz.f99) Tryz.f99.results.toList [(.bor,S_impl_Group)] [(.str,.b)] (t0,())=f_I_sidesText t0:=by kernel_rfl
theorem ok_I_sidesText:FnOk gl Tryz.prog 99 ct_I_sidesText:=
 fnOk (cx:=cx_I_sidesText) (pl:=pl_I_sidesText) (dp:=0) (ok0_of tabOk (by unfold ArrOk;kernel_rfl) mix ⟨ok_I_Group_half,ok_I_pairOf,ok_I_Group_old,ok_I_Group_fresh,ok_I_numberOf,ok_I_endOf,ok_I_Group_has,trivial⟩ trivial) Tryz.func99 (by kernel_rfl) (by kernel_rfl) (by kernel_rfl)
  (by rw[show loopsOf (bodyOf Tryz.f99)=[((loopsOf (bodyOf Tryz.f99)).getD 0 .skip)] from by kernel_rfl];exact⟨(by rw[show lookup pl_I_sidesText.loops (firstId ((loopsOf (bodyOf Tryz.f99)).getD 0 .skip))=some lp_I_sidesText_3 from by kernel_rfl];exact fun d z h=>(eb_I_sidesText_3 d.1 d.2.1 d.2.2.1 d.2.2.2.1).trans h),trivial⟩) (fun x=>ef_I_sidesText x.1)
noncomputable def pl_I_short:Plan:=⟨[],[],0,0⟩
noncomputable def f_I_short (t0:PV .str):Option (PVs [.str,.bool]×PVs []):=bif (decide ((t0.length:Int)>3000)) then some (([],false,()),()) else some ((t0,true,()),())
noncomputable def ct_I_short:Ct:=⟨[(.bor,.str)],[(.str,.b),(.bool,.b)],fun x=>f_I_short x.1⟩
noncomputable def cx_I_short:Cx:=⟨tab,arrs,[],[],gl,[]⟩
theorem ef_I_short (t0:PV .str):denF cx_I_short 0 pl_I_short Tryz.f71.ntmps (bodyOf Tryz.f71) Tryz.f71.results.toList [(.bor,.str)] [(.str,.b),(.bool,.b)] (t0,())=f_I_short t0:=by kernel_rfl
theorem ok_I_short:FnOk gl Tryz.prog 71 ct_I_short:=
 fnOk (cx:=cx_I_short) (pl:=pl_I_short) (dp:=0) (ok0_of tabOk (by unfold ArrOk;kernel_rfl) mix trivial trivial) Tryz.func71 (by kernel_rfl) (by kernel_rfl) (by kernel_rfl)
  (by rw[show loopsOf (bodyOf Tryz.f71)=[] from by kernel_rfl];exact trivial) (fun x=>ef_I_short x.1)
noncomputable def pl_I_SidesText:Plan:=⟨[],[],0,0⟩
noncomputable def f_I_SidesText (t0:PV S_impl_Group):Option (PVs [.str,.bool]×PVs []):=(f_I_goodGroups t0).bind fun r4=>bif (!r4.1.1) then some (([],false,()),()) else(f_I_sidesText t0).bind fun r5=>(f_I_short r5.1.1).bind fun r6=>some ((r6.1.1,r6.1.2.1,()),())
noncomputable def ct_I_SidesText:Ct:=⟨[(.bor,S_impl_Group)],[(.str,.b),(.bool,.b)],fun x=>f_I_SidesText x.1⟩
noncomputable def cx_I_SidesText:Cx:=⟨tab,arrs,[(71,ct_I_short),(86,ct_I_goodGroups),(99,ct_I_sidesText)],[],gl,[]⟩
theorem ef_I_SidesText (t0:PV S_impl_Group):denF cx_I_SidesText 0 pl_I_SidesText Tryz.f46.ntmps (bodyOf Tryz.f46) Tryz.f46.results.toList [(.bor,S_impl_Group)] [(.str,.b),(.bool,.b)] (t0,())=f_I_SidesText t0:=by kernel_rfl
theorem ok_I_SidesText:FnOk gl Tryz.prog 46 ct_I_SidesText:=
 fnOk (cx:=cx_I_SidesText) (pl:=pl_I_SidesText) (dp:=0) (ok0_of tabOk (by unfold ArrOk;kernel_rfl) mix ⟨ok_I_short,ok_I_goodGroups,ok_I_sidesText,trivial⟩ trivial) Tryz.func46 (by kernel_rfl) (by kernel_rfl) (by kernel_rfl)
  (by rw[show loopsOf (bodyOf Tryz.f46)=[] from by kernel_rfl];exact trivial) (fun x=>ef_I_SidesText x.1)
noncomputable def o_S_l6Old_7:List Out:=[⟨.normal,⟨[],[3,7,8,9],[]⟩,mkSh 23 [(3,.val S_string (.row .b)),(7,.val S_impl_Row .b),(8,.val (.int .i64) .b),(9,.val (.int .i64) .b)]⟩]
noncomputable def sh_S_l6Old_3:List Sh:=mkSh 23 [(3,.val S_string (.row .b)),(7,.val S_impl_Row .b),(8,.val (.int .i64) .b),(9,.val (.int .i64) .b)]
noncomputable def o_S_l6Old_3:List Out:=[⟨.exit 0,⟨[],[3],[]⟩,mkSh 23 [(3,.val S_string (.row .b))]⟩]
noncomputable def b_S_l6Old_3 (t3:PV S_string)(t7:PV S_impl_Row)(t8:PV (.int .i64))(t9:PV (.int .i64)):Option ((PV S_string×PV S_impl_Row×PV (.int .i64)×PV (.int .i64)×Unit)⊕((PV S_string×Unit))):=bif (decide (t9<t8)) then((bif inB t9 t7.length then bif (!(((t7.getD t9.toNat (dflt Y_impl_Row)).1)==3)) then bif roomB (t3.length+[((t7.getD t9.toNat (dflt Y_impl_Row)).2).1].length) then some ((t3++[((t7.getD t9.toNat (dflt Y_impl_Row)).2).1]),t7,t8,t9,()) else none else some (t3,t7,t8,t9,()) else none:Option ((PV S_string×PV S_impl_Row×PV (.int .i64)×PV (.int .i64)×Unit)))).bind fun j1=>some (.inl (j1.1,j1.2.1,j1.2.2.1,(IntKind.wrap .i64 (j1.2.2.2.1+1)),())) else some (.inr (t3,()))
noncomputable def w_S_l6Old_3:PV S_string×PV S_impl_Row×PV (.int .i64)×PV (.int .i64)×Unit→Option ((PV S_string×Unit)):=fix fun d=>b_S_l6Old_3 d.1 d.2.1 d.2.2.1 d.2.2.2.1
noncomputable def lp_S_l6Old_3:Lp:=⟨⟨[],[3,7,8,9],[]⟩,sh_S_l6Old_3,o_S_l6Old_3,fun d=>b_S_l6Old_3 d.1 d.2.1 d.2.2.1 d.2.2.2.1⟩
noncomputable def pl_S_l6Old:Plan:=⟨[(7,o_S_l6Old_7)],[(3,lp_S_l6Old_3)],0,0⟩
noncomputable def f_S_l6Old (t0:PV Y_impl_Group):Option (PVs [S_string]×PVs []):=(w_S_l6Old_3 ([],t0.2.2.1,(t0.2.2.1.length:Int),0,())).bind fun l3=>some ((l3.1,()),())
noncomputable def ct_S_l6Old:Ct:=⟨[(.bor,Y_impl_Group)],[(S_string,(.row .b))],fun x=>f_S_l6Old x.1⟩
noncomputable def cx_S_l6Old:Cx:=⟨tab,arrs,[],[],gl,[]⟩
theorem eb_S_l6Old_3 (t3:PV S_string)(t7:PV S_impl_Row)(t8:PV (.int .i64))(t9:PV (.int .i64)):denK cx_S_l6Old (rcN cx_S_l6Old 0) pl_S_l6Old 0 ((loopsOf (bodyOf Tryz.f163)).getD 0 .skip) (fillS sh_S_l6Old_3 (t3,t7,t8,t9,())) (roundK 0 lp_S_l6Old_3)=b_S_l6Old_3 t3 t7 t8 t9:=by kernel_rfl
theorem ef_S_l6Old (t0:PV Y_impl_Group):denF cx_S_l6Old 0 pl_S_l6Old Tryz.f163.ntmps (bodyOf Tryz.f163) Tryz.f163.results.toList [(.bor,Y_impl_Group)] [(S_string,(.row .b))] (t0,())=f_S_l6Old t0:=by kernel_rfl
theorem ok_S_l6Old:FnOk gl Tryz.prog 163 ct_S_l6Old:=
 fnOk (cx:=cx_S_l6Old) (pl:=pl_S_l6Old) (dp:=0) (ok0_of tabOk (by unfold ArrOk;kernel_rfl) mix trivial trivial) Tryz.func163 (by kernel_rfl) (by kernel_rfl) (by kernel_rfl)
  (by rw[show loopsOf (bodyOf Tryz.f163)=[((loopsOf (bodyOf Tryz.f163)).getD 0 .skip)] from by kernel_rfl];exact⟨(by rw[show lookup pl_S_l6Old.loops (firstId ((loopsOf (bodyOf Tryz.f163)).getD 0 .skip))=some lp_S_l6Old_3 from by kernel_rfl];exact fun d z h=>(eb_S_l6Old_3 d.1 d.2.1 d.2.2.1 d.2.2.2.1).trans h),trivial⟩) (fun x=>ef_S_l6Old x.1)
noncomputable def o_S_l6New_7:List Out:=[⟨.normal,⟨[],[3,7,8,9],[]⟩,mkSh 23 [(3,.val S_string (.row .b)),(7,.val S_impl_Row .b),(8,.val (.int .i64) .b),(9,.val (.int .i64) .b)]⟩]
noncomputable def sh_S_l6New_3:List Sh:=mkSh 23 [(3,.val S_string (.row .b)),(7,.val S_impl_Row .b),(8,.val (.int .i64) .b),(9,.val (.int .i64) .b)]
noncomputable def o_S_l6New_3:List Out:=[⟨.exit 0,⟨[],[3],[]⟩,mkSh 23 [(3,.val S_string (.row .b))]⟩]
noncomputable def b_S_l6New_3 (t3:PV S_string)(t7:PV S_impl_Row)(t8:PV (.int .i64))(t9:PV (.int .i64)):Option ((PV S_string×PV S_impl_Row×PV (.int .i64)×PV (.int .i64)×Unit)⊕((PV S_string×Unit))):=bif (decide (t9<t8)) then((bif inB t9 t7.length then bif (!(((t7.getD t9.toNat (dflt Y_impl_Row)).1)==2)) then bif roomB (t3.length+[((t7.getD t9.toNat (dflt Y_impl_Row)).2).1].length) then some ((t3++[((t7.getD t9.toNat (dflt Y_impl_Row)).2).1]),t7,t8,t9,()) else none else some (t3,t7,t8,t9,()) else none:Option ((PV S_string×PV S_impl_Row×PV (.int .i64)×PV (.int .i64)×Unit)))).bind fun j1=>some (.inl (j1.1,j1.2.1,j1.2.2.1,(IntKind.wrap .i64 (j1.2.2.2.1+1)),())) else some (.inr (t3,()))
noncomputable def w_S_l6New_3:PV S_string×PV S_impl_Row×PV (.int .i64)×PV (.int .i64)×Unit→Option ((PV S_string×Unit)):=fix fun d=>b_S_l6New_3 d.1 d.2.1 d.2.2.1 d.2.2.2.1
noncomputable def lp_S_l6New_3:Lp:=⟨⟨[],[3,7,8,9],[]⟩,sh_S_l6New_3,o_S_l6New_3,fun d=>b_S_l6New_3 d.1 d.2.1 d.2.2.1 d.2.2.2.1⟩
noncomputable def pl_S_l6New:Plan:=⟨[(7,o_S_l6New_7)],[(3,lp_S_l6New_3)],0,0⟩
noncomputable def f_S_l6New (t0:PV Y_impl_Group):Option (PVs [S_string]×PVs []):=(w_S_l6New_3 ([],t0.2.2.1,(t0.2.2.1.length:Int),0,())).bind fun l3=>some ((l3.1,()),())
noncomputable def ct_S_l6New:Ct:=⟨[(.bor,Y_impl_Group)],[(S_string,(.row .b))],fun x=>f_S_l6New x.1⟩
noncomputable def cx_S_l6New:Cx:=⟨tab,arrs,[],[],gl,[]⟩
theorem eb_S_l6New_3 (t3:PV S_string)(t7:PV S_impl_Row)(t8:PV (.int .i64))(t9:PV (.int .i64)):denK cx_S_l6New (rcN cx_S_l6New 0) pl_S_l6New 0 ((loopsOf (bodyOf Tryz.f164)).getD 0 .skip) (fillS sh_S_l6New_3 (t3,t7,t8,t9,())) (roundK 0 lp_S_l6New_3)=b_S_l6New_3 t3 t7 t8 t9:=by kernel_rfl
theorem ef_S_l6New (t0:PV Y_impl_Group):denF cx_S_l6New 0 pl_S_l6New Tryz.f164.ntmps (bodyOf Tryz.f164) Tryz.f164.results.toList [(.bor,Y_impl_Group)] [(S_string,(.row .b))] (t0,())=f_S_l6New t0:=by kernel_rfl
theorem ok_S_l6New:FnOk gl Tryz.prog 164 ct_S_l6New:=
 fnOk (cx:=cx_S_l6New) (pl:=pl_S_l6New) (dp:=0) (ok0_of tabOk (by unfold ArrOk;kernel_rfl) mix trivial trivial) Tryz.func164 (by kernel_rfl) (by kernel_rfl) (by kernel_rfl)
  (by rw[show loopsOf (bodyOf Tryz.f164)=[((loopsOf (bodyOf Tryz.f164)).getD 0 .skip)] from by kernel_rfl];exact⟨(by rw[show lookup pl_S_l6New.loops (firstId ((loopsOf (bodyOf Tryz.f164)).getD 0 .skip))=some lp_S_l6New_3 from by kernel_rfl];exact fun d z h=>(eb_S_l6New_3 d.1 d.2.1 d.2.2.1 d.2.2.2.1).trans h),trivial⟩) (fun x=>ef_S_l6New x.1)
noncomputable def o_S_l5Lines_5:List Out:=[⟨.normal,⟨[],[0,5,6,7,26],[]⟩,mkSh 31 [(0,.val S_string .b),(5,.val S_string .b),(6,.val (.int .i64) .b),(7,.val (.int .i64) .b),(26,.val .bool .b)]⟩]
noncomputable def sh_S_l5Lines_2:List Sh:=mkSh 31 [(0,.val S_string .b),(5,.val S_string .b),(6,.val (.int .i64) .b),(7,.val (.int .i64) .b)]
noncomputable def o_S_l5Lines_2:List Out:=[⟨.exit 0,⟨[],[0],[]⟩,mkSh 31 [(0,.val S_string .b)]⟩,⟨.ret,⟨[],[2],[]⟩,mkSh 31 [(2,.val .bool .b)]⟩]
noncomputable def b_S_l5Lines_2 (t0:PV S_string)(t5:PV S_string)(t6:PV (.int .i64))(t7:PV (.int .i64)):Option ((PV S_string×PV S_string×PV (.int .i64)×PV (.int .i64)×Unit)⊕((PV S_string×Unit)⊕(PV .bool×Unit))):=bif (decide (t7<t6)) then bif inB t7 t5.length then(((f_S_l1Line (t5.getD t7.toNat [])).bind fun r4=>bif (!r4.1.1) then some (t0,t5,t6,t7,true,()) else bif (decide (t7<(IntKind.wrap .i64 ((t0.length:Int) -1)))) then(f_S_l1Ends (t5.getD t7.toNat [])).bind fun r5=>some (t0,t5,t6,t7,(!r5.1.1),()) else some (t0,t5,t6,t7,false,()):Option ((PV S_string×PV S_string×PV (.int .i64)×PV (.int .i64)×PV .bool×Unit)))).bind fun j6=>bif j6.2.2.2.2.1 then some (.inr (.inr (false,()))) else some (.inl (j6.1,j6.2.1,j6.2.2.1,(IntKind.wrap .i64 (j6.2.2.2.1+1)),())) else none else some (.inr (.inl (t0,())))
noncomputable def w_S_l5Lines_2:PV S_string×PV S_string×PV (.int .i64)×PV (.int .i64)×Unit→Option ((PV S_string×Unit)⊕(PV .bool×Unit)):=fix fun d=>b_S_l5Lines_2 d.1 d.2.1 d.2.2.1 d.2.2.2.1
noncomputable def lp_S_l5Lines_2:Lp:=⟨⟨[],[0,5,6,7,16,17,18,19,20,21,22,23,24,25],[]⟩,sh_S_l5Lines_2,o_S_l5Lines_2,fun d=>b_S_l5Lines_2 d.1 d.2.1 d.2.2.1 d.2.2.2.1⟩
noncomputable def pl_S_l5Lines:Plan:=⟨[(5,o_S_l5Lines_5)],[(2,lp_S_l5Lines_2)],0,0⟩
noncomputable def f_S_l5Lines (t0:PV S_string):Option (PVs [.bool]×PVs []):=
 (w_S_l5Lines_2 (t0,t0,(t0.length:Int),0,())).bind fun x11=>
   match x11 with
   | .inl l9=>
     some (((decide ((l9.1.length:Int)≤40)),()),())
   | .inr l10=>
     some ((l10.1,()),())
noncomputable def ct_S_l5Lines:Ct:=⟨[(.bor,S_string)],[(.bool,.b)],fun x=>f_S_l5Lines x.1⟩
noncomputable def cx_S_l5Lines:Cx:=⟨tab,arrs,[(128,ct_S_l1Ends),(183,ct_S_l1Line)],[],gl,[]⟩
theorem eb_S_l5Lines_2 (t0:PV S_string)(t5:PV S_string)(t6:PV (.int .i64))(t7:PV (.int .i64)):denK cx_S_l5Lines (rcN cx_S_l5Lines 0) pl_S_l5Lines 0 ((loopsOf (bodyOf Tryz.f184)).getD 0 .skip) (fillS sh_S_l5Lines_2 (t0,t5,t6,t7,())) (roundK 0 lp_S_l5Lines_2)=b_S_l5Lines_2 t0 t5 t6 t7:=by kernel_rfl
theorem ef_S_l5Lines (t0:PV S_string):denF cx_S_l5Lines 0 pl_S_l5Lines Tryz.f184.ntmps (bodyOf Tryz.f184) Tryz.f184.results.toList [(.bor,S_string)] [(.bool,.b)] (t0,())=f_S_l5Lines t0:=by kernel_rfl
theorem ok_S_l5Lines:FnOk gl Tryz.prog 184 ct_S_l5Lines:=
 fnOk (cx:=cx_S_l5Lines) (pl:=pl_S_l5Lines) (dp:=0) (ok0_of tabOk (by unfold ArrOk;kernel_rfl) mix ⟨ok_S_l1Ends,ok_S_l1Line,trivial⟩ trivial) Tryz.func184 (by kernel_rfl) (by kernel_rfl) (by kernel_rfl)
  (by rw[show loopsOf (bodyOf Tryz.f184)=[((loopsOf (bodyOf Tryz.f184)).getD 0 .skip)] from by kernel_rfl];exact⟨(by rw[show lookup pl_S_l5Lines.loops (firstId ((loopsOf (bodyOf Tryz.f184)).getD 0 .skip))=some lp_S_l5Lines_2 from by kernel_rfl];exact fun d z h=>(eb_S_l5Lines_2 d.1 d.2.1 d.2.2.1 d.2.2.2.1).trans h),trivial⟩) (fun x=>ef_S_l5Lines x.1)
noncomputable def o_S_l6Group_6:List Out:=[⟨.normal,⟨[],[1,3,5,7,8,9,42,45,46,47,52,53,54,57,58,59,62,63,64,65,66,67,68,71,72,73,74,75,76,77,80,81,82,83,86,87,88,91,92,93],[]⟩,mkSh 95 [(1,.var Y_impl_Group .b),(3,.val .bool .b),(5,.var Y_impl_Row .b),(7,.val S_impl_Row .b),(8,.val (.int .i64) .b),(9,.val (.int .i64) .b),(42,.val .bool .b)]⟩]
noncomputable def o_S_l6Group_8:List Out:=[⟨.normal,⟨[],[1,3,5,7,8,9,19,20,21,22,25,26,27,28,29,30,31,32,33,34,35,36,37,38,39,40,41,52,53,54,57,58,59,62,63,64,65,66,67,68,71,72,73,74,75,76,77,80,81,82,83,86,87,88,91,92,93],[]⟩,mkSh 95 [(1,.var Y_impl_Group .b),(3,.val .bool .b),(5,.var Y_impl_Row .b),(7,.val S_impl_Row .b),(8,.val (.int .i64) .b),(9,.val (.int .i64) .b)]⟩,⟨.ret,⟨[],[2],[]⟩,mkSh 95 [(2,.val .bool .b)]⟩]
noncomputable def sh_S_l6Group_3:List Sh:=mkSh 95 [(1,.var Y_impl_Group .b),(3,.val .bool .b),(7,.val S_impl_Row .b),(8,.val (.int .i64) .b),(9,.val (.int .i64) .b)]
noncomputable def o_S_l6Group_3:List Out:=[⟨.exit 0,⟨[],[1,3,52,53,54,57,58,59,62,63,64,65,66,67,68,71,72,73,74,75,76,77,80,81,82,83,86,87,88,91,92,93],[]⟩,mkSh 95 [(1,.var Y_impl_Group .b),(3,.val .bool .b)]⟩,⟨.ret,⟨[],[2],[]⟩,mkSh 95 [(2,.val .bool .b)]⟩]
noncomputable def b_S_l6Group_3 (t1:PV Y_impl_Group)(t3:PV .bool)(t7:PV S_impl_Row)(t8:PV (.int .i64))(t9:PV (.int .i64)):Option ((PV Y_impl_Group×PV .bool×PV S_impl_Row×PV (.int .i64)×PV (.int .i64)×Unit)⊕((PV Y_impl_Group×PV .bool×Unit)⊕(PV .bool×Unit))):=
 bif (decide (t9<t8)) then
  ((
    bif inB t9 t7.length then
     ((
       (f_S_l1In ((t7.getD t9.toNat (dflt Y_impl_Row)).1) 1 3).bind fun r4=>
         bif (!r4.1.1) then
          some (t1,t3,(t7.getD t9.toNat (dflt Y_impl_Row)),t7,t8,t9,true,())
         else
          (f_S_l1Line (((t7.getD t9.toNat (dflt Y_impl_Row)).2).1)).bind fun r5=>
            bif (!r5.1.1) then
             some (t1,t3,(t7.getD t9.toNat (dflt Y_impl_Row)),t7,t8,t9,true,())
            else
             bif (decide (t9>0)) then
              bif (((t7.getD t9.toNat (dflt Y_impl_Row)).1)==2) then
               bif inB (IntKind.wrap .i64 (t9 -1)) t1.2.2.1.length then
                some (t1,t3,(t7.getD t9.toNat (dflt Y_impl_Row)),t7,t8,t9,(((t1.2.2.1.getD ((IntKind.wrap .i64 (t9 -1)).toNat) (dflt Y_impl_Row)).1)==3),())
               else
                none
              else
               some (t1,t3,(t7.getD t9.toNat (dflt Y_impl_Row)),t7,t8,t9,false,())
             else
              some (t1,t3,(t7.getD t9.toNat (dflt Y_impl_Row)),t7,t8,t9,false,()):Option ((PV Y_impl_Group×PV .bool×PV Y_impl_Row×PV S_impl_Row×PV (.int .i64)×PV (.int .i64)×PV .bool×Unit)))).bind fun j6=>
       bif j6.2.2.2.2.2.2.1 then
        some (.inr (false,()))
       else
        bif j6.2.1 then
         some (.inl (j6.1,true,j6.2.2.1,j6.2.2.2.1,j6.2.2.2.2.1,j6.2.2.2.2.2.1,()))
        else
         some (.inl (j6.1,(!(j6.2.2.1.1==1)),j6.2.2.1,j6.2.2.2.1,j6.2.2.2.2.1,j6.2.2.2.2.2.1,()))
    else
     none:Option ((PV Y_impl_Group×PV .bool×PV Y_impl_Row×PV S_impl_Row×PV (.int .i64)×PV (.int .i64)×Unit)⊕(PV .bool×Unit)))).bind fun x21=>
    match x21 with
    | .inl j7=>
      some (.inl (j7.1,j7.2.1,j7.2.2.2.1,j7.2.2.2.2.1,(IntKind.wrap .i64 (j7.2.2.2.2.2.1+1)),()))
    | .inr j8=>
      some (.inr (.inr (j8.1,())))
 else
  some (.inr (.inl (t1,t3,())))
noncomputable def w_S_l6Group_3:PV Y_impl_Group×PV .bool×PV S_impl_Row×PV (.int .i64)×PV (.int .i64)×Unit→Option ((PV Y_impl_Group×PV .bool×Unit)⊕(PV .bool×Unit)):=fix fun d=>b_S_l6Group_3 d.1 d.2.1 d.2.2.1 d.2.2.2.1 d.2.2.2.2.1
noncomputable def lp_S_l6Group_3:Lp:=⟨⟨[],[1,3,7,8,9,19,20,21,22,25,26,27,28,29,30,31,32,33,34,35,36,37,38,39,40,41,45,46,47,52,53,54,57,58,59,62,63,64,65,66,67,68,71,72,73,74,75,76,77,80,81,82,83,86,87,88,91,92,93],[]⟩,sh_S_l6Group_3,o_S_l6Group_3,fun d=>b_S_l6Group_3 d.1 d.2.1 d.2.2.1 d.2.2.2.1 d.2.2.2.2.1⟩
noncomputable def pl_S_l6Group:Plan:=⟨[(6,o_S_l6Group_6),(8,o_S_l6Group_8)],[(3,lp_S_l6Group_3)],0,0⟩
noncomputable def f_S_l6Group (t0:PV Y_impl_Group):Option (PVs [.bool]×PVs []):=
 (w_S_l6Group_3 (t0,false,t0.2.2.1,(t0.2.2.1.length:Int),0,())).bind fun x22=>
   match x22 with
   | .inl l11=>
     bif l11.2.1 then
      (f_S_l1In l11.1.1 0 999).bind fun r12=>
        bif r12.1.1 then
         (f_S_l1In l11.1.2.1 0 999).bind fun r13=>
           bif r13.1.1 then
            (f_S_l6Old l11.1).bind fun r14=>
              bif (decide ((IntKind.wrap .i64 (l11.1.1+(r14.1.1.length:Int)))≤1000)) then
               (f_S_l6New l11.1).bind fun r15=>
                 bif (decide ((IntKind.wrap .i64 (l11.1.2.1+(r15.1.1.length:Int)))≤1000)) then
                  bif (decide ((l11.1.2.2.1.length:Int)≤80)) then
                   (f_S_l6Old l11.1).bind fun r16=>
                     (f_S_l5Lines r16.1.1).bind fun r17=>
                       bif r17.1.1 then
                        (f_S_l6New l11.1).bind fun r18=>
                          (f_S_l5Lines r18.1.1).bind fun r19=>
                            some ((r19.1.1,()),())
                       else
                        some ((false,()),())
                  else
                   some ((false,()),())
                 else
                  some ((false,()),())
              else
               some ((false,()),())
           else
            some ((false,()),())
        else
         some ((false,()),())
     else
      some ((false,()),())
   | .inr l20=>
     some ((l20.1,()),())
noncomputable def ct_S_l6Group:Ct:=⟨[(.bor,Y_impl_Group)],[(.bool,.b)],fun x=>f_S_l6Group x.1⟩
noncomputable def cx_S_l6Group:Cx:=⟨tab,arrs,[(114,ct_S_l1In),(163,ct_S_l6Old),(164,ct_S_l6New),(183,ct_S_l1Line),(184,ct_S_l5Lines)],[],gl,[]⟩
theorem eb_S_l6Group_3 (t1:PV Y_impl_Group)(t3:PV .bool)(t7:PV S_impl_Row)(t8:PV (.int .i64))(t9:PV (.int .i64)):denK cx_S_l6Group (rcN cx_S_l6Group 0) pl_S_l6Group 0 ((loopsOf (bodyOf Tryz.f108)).getD 0 .skip) (fillS sh_S_l6Group_3 (t1,t3,t7,t8,t9,())) (roundK 0 lp_S_l6Group_3)=b_S_l6Group_3 t1 t3 t7 t8 t9:=by kernel_rfl
theorem ef_S_l6Group (t0:PV Y_impl_Group):denF cx_S_l6Group 0 pl_S_l6Group Tryz.f108.ntmps (bodyOf Tryz.f108) Tryz.f108.results.toList [(.bor,Y_impl_Group)] [(.bool,.b)] (t0,())=f_S_l6Group t0:=by kernel_rfl
theorem ok_S_l6Group:FnOk gl Tryz.prog 108 ct_S_l6Group:=
 fnOk (cx:=cx_S_l6Group) (pl:=pl_S_l6Group) (dp:=0) (ok0_of tabOk (by unfold ArrOk;kernel_rfl) mix ⟨ok_S_l1In,ok_S_l6Old,ok_S_l6New,ok_S_l1Line,ok_S_l5Lines,trivial⟩ trivial) Tryz.func108 (by kernel_rfl) (by kernel_rfl) (by kernel_rfl)
  (by rw[show loopsOf (bodyOf Tryz.f108)=[((loopsOf (bodyOf Tryz.f108)).getD 0 .skip)] from by kernel_rfl];exact⟨(by rw[show lookup pl_S_l6Group.loops (firstId ((loopsOf (bodyOf Tryz.f108)).getD 0 .skip))=some lp_S_l6Group_3 from by kernel_rfl];exact fun d z h=>(eb_S_l6Group_3 d.1 d.2.1 d.2.2.1 d.2.2.2.1 d.2.2.2.2.1).trans h),trivial⟩) (fun x=>ef_S_l6Group x.1)
noncomputable def o_S_l6Good_7:List Out:=[⟨.normal,⟨[],[0,4,5,6,7,54],[]⟩,mkSh 59 [(0,.val S_impl_Group .b),(4,.var Y_impl_Group .b),(5,.val S_impl_Group .b),(6,.val (.int .i64) .b),(7,.val (.int .i64) .b),(54,.val .bool .b)]⟩]
noncomputable def sh_S_l6Good_2:List Sh:=mkSh 59 [(0,.val S_impl_Group .b),(5,.val S_impl_Group .b),(6,.val (.int .i64) .b),(7,.val (.int .i64) .b)]
noncomputable def o_S_l6Good_2:List Out:=[⟨.exit 0,⟨[],[0],[]⟩,mkSh 59 [(0,.val S_impl_Group .b)]⟩,⟨.ret,⟨[],[2],[]⟩,mkSh 59 [(2,.val .bool .b)]⟩]
noncomputable def b_S_l6Good_2 (t0:PV S_impl_Group)(t5:PV S_impl_Group)(t6:PV (.int .i64))(t7:PV (.int .i64)):Option ((PV S_impl_Group×PV S_impl_Group×PV (.int .i64)×PV (.int .i64)×Unit)⊕((PV S_impl_Group×Unit)⊕(PV .bool×Unit))):=bif (decide (t7<t6)) then bif inB t7 t5.length then(f_S_l6Group (t5.getD t7.toNat (dflt Y_impl_Group))).bind fun r11=>bif (!r11.1.1) then some (.inr (.inr (false,()))) else((bif (decide (t7>0)) then bif inB (IntKind.wrap .i64 (t7 -1)) t0.length then bif inB (IntKind.wrap .i64 (t7 -1)) t0.length then(f_S_l6Old (t0.getD ((IntKind.wrap .i64 (t7 -1)).toNat) (dflt Y_impl_Group))).bind fun r12=>bif (decide (((t5.getD t7.toNat (dflt Y_impl_Group)).1)<(IntKind.wrap .i64 (((t0.getD ((IntKind.wrap .i64 (t7 -1)).toNat) (dflt Y_impl_Group)).1)+(r12.1.1.length:Int))))) then some (t0,(t5.getD t7.toNat (dflt Y_impl_Group)),t5,t6,t7,true,()) else bif inB (IntKind.wrap .i64 (t7 -1)) t0.length then bif inB (IntKind.wrap .i64 (t7 -1)) t0.length then(f_S_l6New (t0.getD ((IntKind.wrap .i64 (t7 -1)).toNat) (dflt Y_impl_Group))).bind fun r13=>some (t0,(t5.getD t7.toNat (dflt Y_impl_Group)),t5,t6,t7,(decide ((((t5.getD t7.toNat (dflt Y_impl_Group)).2).1)<(IntKind.wrap .i64 ((((t0.getD ((IntKind.wrap .i64 (t7 -1)).toNat) (dflt Y_impl_Group)).2).1)+(r13.1.1.length:Int))))),()) else none else none else none else none else some (t0,(t5.getD t7.toNat (dflt Y_impl_Group)),t5,t6,t7,false,()):Option ((PV S_impl_Group×PV Y_impl_Group×PV S_impl_Group×PV (.int .i64)×PV (.int .i64)×PV .bool×Unit)))).bind fun j14=>bif j14.2.2.2.2.2.1 then some (.inr (.inr (false,()))) else some (.inl (j14.1,j14.2.2.1,j14.2.2.2.1,(IntKind.wrap .i64 (j14.2.2.2.2.1+1)),())) else none else some (.inr (.inl (t0,())))
noncomputable def w_S_l6Good_2:PV S_impl_Group×PV S_impl_Group×PV (.int .i64)×PV (.int .i64)×Unit→Option ((PV S_impl_Group×Unit)⊕(PV .bool×Unit)):=fix fun d=>b_S_l6Good_2 d.1 d.2.1 d.2.2.1 d.2.2.2.1
noncomputable def lp_S_l6Good_2:Lp:=⟨⟨[],[0,5,6,7,18,19,20,21,22,23,24,25,26,27,28,29,30,31,32,33,34,35,36,37,38,39,40,41,42,43,44,45,46,47,48,49,50,51,52,53],[]⟩,sh_S_l6Good_2,o_S_l6Good_2,fun d=>b_S_l6Good_2 d.1 d.2.1 d.2.2.1 d.2.2.2.1⟩
noncomputable def pl_S_l6Good:Plan:=⟨[(7,o_S_l6Good_7)],[(2,lp_S_l6Good_2)],0,0⟩
noncomputable def f_S_l6Good (t0:PV S_impl_Group):Option (PVs [.bool]×PVs []):=
 (w_S_l6Good_2 (t0,t0,(t0.length:Int),0,())).bind fun x19=>
   match x19 with
   | .inl l17=>
     some (((decide ((l17.1.length:Int)≤20)),()),())
   | .inr l18=>
     some ((l18.1,()),())
noncomputable def ct_S_l6Good:Ct:=⟨[(.bor,S_impl_Group)],[(.bool,.b)],fun x=>f_S_l6Good x.1⟩
noncomputable def cx_S_l6Good:Cx:=⟨tab,arrs,[(108,ct_S_l6Group),(163,ct_S_l6Old),(164,ct_S_l6New)],[],gl,[]⟩
theorem eb_S_l6Good_2 (t0:PV S_impl_Group)(t5:PV S_impl_Group)(t6:PV (.int .i64))(t7:PV (.int .i64)):denK cx_S_l6Good (rcN cx_S_l6Good 0) pl_S_l6Good 0 ((loopsOf (bodyOf Tryz.f95)).getD 0 .skip) (fillS sh_S_l6Good_2 (t0,t5,t6,t7,())) (roundK 0 lp_S_l6Good_2)=b_S_l6Good_2 t0 t5 t6 t7:=by kernel_rfl
theorem ef_S_l6Good (t0:PV S_impl_Group):denF cx_S_l6Good 0 pl_S_l6Good Tryz.f95.ntmps (bodyOf Tryz.f95) Tryz.f95.results.toList [(.bor,S_impl_Group)] [(.bool,.b)] (t0,())=f_S_l6Good t0:=by kernel_rfl
theorem ok_S_l6Good:FnOk gl Tryz.prog 95 ct_S_l6Good:=
 fnOk (cx:=cx_S_l6Good) (pl:=pl_S_l6Good) (dp:=0) (ok0_of tabOk (by unfold ArrOk;kernel_rfl) mix ⟨ok_S_l6Group,ok_S_l6Old,ok_S_l6New,trivial⟩ trivial) Tryz.func95 (by kernel_rfl) (by kernel_rfl) (by kernel_rfl)
  (by rw[show loopsOf (bodyOf Tryz.f95)=[((loopsOf (bodyOf Tryz.f95)).getD 0 .skip)] from by kernel_rfl];exact⟨(by rw[show lookup pl_S_l6Good.loops (firstId ((loopsOf (bodyOf Tryz.f95)).getD 0 .skip))=some lp_S_l6Good_2 from by kernel_rfl];exact fun d z h=>(eb_S_l6Good_2 d.1 d.2.1 d.2.2.1 d.2.2.2.1).trans h),trivial⟩) (fun x=>ef_S_l6Good x.1)
noncomputable def pl_S_l4Number:Plan:=⟨[],[],0,0⟩
noncomputable def f_S_l4Number (t0:PV (.int .i64))(t1:PV (.int .i64)):Option (PVs [(.int .i64)]×PVs []):=bif (decide (t1>0)) then some (((IntKind.wrap .i64 (t0+1)),()),()) else some ((t0,()),())
noncomputable def ct_S_l4Number:Ct:=⟨[(.bor,(.int .i64)),(.bor,(.int .i64))],[((.int .i64),.b)],fun x=>f_S_l4Number x.1 x.2.1⟩
noncomputable def cx_S_l4Number:Cx:=⟨tab,arrs,[],[],gl,[]⟩
theorem ef_S_l4Number (t0:PV (.int .i64))(t1:PV (.int .i64)):denF cx_S_l4Number 0 pl_S_l4Number Tryz.f197.ntmps (bodyOf Tryz.f197) Tryz.f197.results.toList [(.bor,(.int .i64)),(.bor,(.int .i64))] [((.int .i64),.b)] (t0,t1,())=f_S_l4Number t0 t1:=by kernel_rfl
theorem ok_S_l4Number:FnOk gl Tryz.prog 197 ct_S_l4Number:=
 fnOk (cx:=cx_S_l4Number) (pl:=pl_S_l4Number) (dp:=0) (ok0_of tabOk (by unfold ArrOk;kernel_rfl) mix trivial trivial) Tryz.func197 (by kernel_rfl) (by kernel_rfl) (by kernel_rfl)
  (by rw[show loopsOf (bodyOf Tryz.f197)=[] from by kernel_rfl];exact trivial) (fun x=>ef_S_l4Number x.1 x.2.1)
noncomputable def fr_S_l1Num (ih:PV (.int .i64)→Option (PVs [.str]×PVs []))(t0:PV (.int .i64)):Option (PVs [.str]×PVs []):=
 bif (decide (t0<10)) then
  some (((bytesOfInts [(IntKind.wrap .u8 (IntKind.wrap .i64 (48+t0)))]),()),())
 else
  bif 10==0 then
   none
  else
   (ih (IntKind.wrap .i64 (t0.tdiv 10))).bind fun r1=>
     bif 10==0 then
      none
     else
      bif decide (r1.1.1.length+(bytesOfInts [(IntKind.wrap .u8 (IntKind.wrap .i64 (48+(t0.tmod 10))))]).length≤1099511627776) then
       some (((r1.1.1++(bytesOfInts [(IntKind.wrap .u8 (IntKind.wrap .i64 (48+(t0.tmod 10))))])),()),())
      else
       none
noncomputable def fn_S_l1Num:Nat→PV (.int .i64)→Option (PVs [.str]×PVs []):=fun n=>Nat.rec (motive:=fun _=>PV (.int .i64)→Option (PVs [.str]×PVs [])) (fun _=>none) (fun _ ih=>fr_S_l1Num ih) n
noncomputable def f_S_l1Num (t0:PV (.int .i64)):Option (PVs [.str]×PVs []):=fn_S_l1Num (t0.toNat+1) t0
noncomputable def ct_S_l1Num:Ct:=⟨[(.bor,(.int .i64))],[(.str,.b)],fun x=>f_S_l1Num x.1⟩
noncomputable def ctn_S_l1Num (n:Nat):Ct:=⟨[(.bor,(.int .i64))],[(.str,.b)],fun x=>fn_S_l1Num n x.1⟩
noncomputable def cxn_S_l1Num (n:Nat):Cx:=⟨tab,arrs,[(196,ctn_S_l1Num n)],[],gl,[]⟩
noncomputable def pl_S_l1Num:Plan:=⟨[],[],0,0⟩
theorem efn_S_l1Num (n:Nat)(t0:PV (.int .i64)):denF (cxn_S_l1Num n) 0 pl_S_l1Num Tryz.f196.ntmps (bodyOf Tryz.f196) Tryz.f196.results.toList [(.bor,(.int .i64))] [(.str,.b)] (t0,())=fr_S_l1Num (fn_S_l1Num n) t0:=by kernel_rfl
theorem okn_S_l1Num:∀n,FnOk gl Tryz.prog 196 (ctn_S_l1Num n)
 |0=>fnOk_none (by kernel_rfl)
 |n+1=>fnOk (cx:=cxn_S_l1Num n) (pl:=pl_S_l1Num) (dp:=0) (ct:=ctn_S_l1Num (n+1)) (ok0_of tabOk (by unfold ArrOk;kernel_rfl) mix ⟨okn_S_l1Num n,trivial⟩ trivial) Tryz.func196 (by kernel_rfl) (by kernel_rfl) (by kernel_rfl)
  (by rw[show loopsOf (bodyOf Tryz.f196)=[] from by kernel_rfl];exact trivial) (fun x=>efn_S_l1Num n x.1)
theorem ok_S_l1Num:FnOk gl Tryz.prog 196 ct_S_l1Num:=fnOk_fuel (pars:=[(.bor,(.int .i64))]) (rets:=[(.str,.b)]) (Fs:=fun n x=>fn_S_l1Num n x.1) (N:=fun x=>x.1.toNat+1) okn_S_l1Num
noncomputable def o_S_l4Pair_4:List Out:=[⟨.normal,⟨[],[5],[]⟩,mkSh 20 [(5,.val .str .b)]⟩]
noncomputable def pl_S_l4Pair:Plan:=⟨[(4,o_S_l4Pair_4)],[],0,0⟩
noncomputable def f_S_l4Pair (t0:PV (.int .i64))(t1:PV (.int .i64)):Option (PVs [.str]×PVs []):=(f_S_l4Number t0 t1).bind fun r3=>(f_S_l1Num r3.1.1).bind fun r4=>((bif (decide (t1>1)) then(f_S_l1Num (IntKind.wrap .i64 (t0+t1))).bind fun r6=>bif decide ([44].length+r6.1.1.length≤1099511627776) then bif decide (r4.1.1.length+([44]++r6.1.1).length≤1099511627776) then some ((r4.1.1++([44]++r6.1.1)),()) else none else none else some (r4.1.1,()):Option ((PV .str×Unit)))).bind fun j7=>some ((j7.1,()),())
noncomputable def ct_S_l4Pair:Ct:=⟨[(.bor,(.int .i64)),(.bor,(.int .i64))],[(.str,.b)],fun x=>f_S_l4Pair x.1 x.2.1⟩
noncomputable def cx_S_l4Pair:Cx:=⟨tab,arrs,[(196,ct_S_l1Num),(197,ct_S_l4Number)],[],gl,[]⟩
theorem ef_S_l4Pair (t0:PV (.int .i64))(t1:PV (.int .i64)):denF cx_S_l4Pair 0 pl_S_l4Pair Tryz.f168.ntmps (bodyOf Tryz.f168) Tryz.f168.results.toList [(.bor,(.int .i64)),(.bor,(.int .i64))] [(.str,.b)] (t0,t1,())=f_S_l4Pair t0 t1:=by kernel_rfl
theorem ok_S_l4Pair:FnOk gl Tryz.prog 168 ct_S_l4Pair:=
 fnOk (cx:=cx_S_l4Pair) (pl:=pl_S_l4Pair) (dp:=0) (ok0_of tabOk (by unfold ArrOk;kernel_rfl) mix ⟨ok_S_l1Num,ok_S_l4Number,trivial⟩ trivial) Tryz.func168 (by kernel_rfl) (by kernel_rfl) (by kernel_rfl)
  (by rw[show loopsOf (bodyOf Tryz.f168)=[] from by kernel_rfl];exact trivial) (fun x=>ef_S_l4Pair x.1 x.2.1)
noncomputable def sh_S_l8Some_2:List Sh:=mkSh 19 [(1,.val (.int .i64) .b),(8,.val S_impl_Row .b),(9,.val (.int .i64) .b),(10,.val (.int .i64) .b)]
noncomputable def o_S_l8Some_2:List Out:=[⟨.exit 0,⟨[],[],[]⟩,mkSh 19 []⟩,⟨.ret,⟨[],[4],[]⟩,mkSh 19 [(4,.val .bool .b)]⟩]
noncomputable def b_S_l8Some_2 (t1:PV (.int .i64))(t8:PV S_impl_Row)(t9:PV (.int .i64))(t10:PV (.int .i64)):Option ((PV (.int .i64)×PV S_impl_Row×PV (.int .i64)×PV (.int .i64)×Unit)⊕((Unit)⊕(PV .bool×Unit))):=bif (decide (t10<t9)) then bif inB t10 t8.length then bif (((t8.getD t10.toNat (dflt Y_impl_Row)).1)==t1) then some (.inr (.inr (true,()))) else some (.inl (t1,t8,t9,(IntKind.wrap .i64 (t10+1)),())) else none else some (.inr (.inl ()))
noncomputable def w_S_l8Some_2:PV (.int .i64)×PV S_impl_Row×PV (.int .i64)×PV (.int .i64)×Unit→Option ((Unit)⊕(PV .bool×Unit)):=fix fun d=>b_S_l8Some_2 d.1 d.2.1 d.2.2.1 d.2.2.2.1
noncomputable def lp_S_l8Some_2:Lp:=⟨⟨[],[1,8,9,10],[]⟩,sh_S_l8Some_2,o_S_l8Some_2,fun d=>b_S_l8Some_2 d.1 d.2.1 d.2.2.1 d.2.2.2.1⟩
noncomputable def pl_S_l8Some:Plan:=⟨[],[(2,lp_S_l8Some_2)],0,0⟩
noncomputable def f_S_l8Some (t0:PV Y_impl_Group)(t1:PV (.int .i64)):Option (PVs [.bool]×PVs []):=
 (w_S_l8Some_2 (t1,t0.2.2.1,(t0.2.2.1.length:Int),0,())).bind fun x5=>
   match x5 with
   | .inl l3=>
     some ((false,()),())
   | .inr l4=>
     some ((l4.1,()),())
noncomputable def ct_S_l8Some:Ct:=⟨[(.bor,Y_impl_Group),(.bor,(.int .i64))],[(.bool,.b)],fun x=>f_S_l8Some x.1 x.2.1⟩
noncomputable def cx_S_l8Some:Cx:=⟨tab,arrs,[],[],gl,[]⟩
theorem eb_S_l8Some_2 (t1:PV (.int .i64))(t8:PV S_impl_Row)(t9:PV (.int .i64))(t10:PV (.int .i64)):denK cx_S_l8Some (rcN cx_S_l8Some 0) pl_S_l8Some 0 ((loopsOf (bodyOf Tryz.f169)).getD 0 .skip) (fillS sh_S_l8Some_2 (t1,t8,t9,t10,())) (roundK 0 lp_S_l8Some_2)=b_S_l8Some_2 t1 t8 t9 t10:=by kernel_rfl
theorem ef_S_l8Some (t0:PV Y_impl_Group)(t1:PV (.int .i64)):denF cx_S_l8Some 0 pl_S_l8Some Tryz.f169.ntmps (bodyOf Tryz.f169) Tryz.f169.results.toList [(.bor,Y_impl_Group),(.bor,(.int .i64))] [(.bool,.b)] (t0,t1,())=f_S_l8Some t0 t1:=by kernel_rfl
theorem ok_S_l8Some:FnOk gl Tryz.prog 169 ct_S_l8Some:=
 fnOk (cx:=cx_S_l8Some) (pl:=pl_S_l8Some) (dp:=0) (ok0_of tabOk (by unfold ArrOk;kernel_rfl) mix trivial trivial) Tryz.func169 (by kernel_rfl) (by kernel_rfl) (by kernel_rfl)
  (by rw[show loopsOf (bodyOf Tryz.f169)=[((loopsOf (bodyOf Tryz.f169)).getD 0 .skip)] from by kernel_rfl];exact⟨(by rw[show lookup pl_S_l8Some.loops (firstId ((loopsOf (bodyOf Tryz.f169)).getD 0 .skip))=some lp_S_l8Some_2 from by kernel_rfl];exact fun d z h=>(eb_S_l8Some_2 d.1 d.2.1 d.2.2.1 d.2.2.2.1).trans h),trivial⟩) (fun x=>ef_S_l8Some x.1 x.2.1)
noncomputable def o_S_l8Runs_9:List Out:=[⟨.normal,⟨[],[1,4,5,6,7,8,9,10,27,28,29,30,31,32,33,47,48,49,50,51,52,53],[]⟩,mkSh 77 [(1,.var Y_impl_Group .b),(4,.val (.int .i64) .b),(5,.val S_bool (.row .b)),(6,.val S_bool (.row .b)),(7,.val (.int .i64) .b),(8,.val (.int .i64) .b),(9,.val .bool .b),(10,.val .bool .b),(27,.addr ⟨1,[.r,.r,.l],0,0⟩),(28,.val S_impl_Row .b),(29,.val (.int .i64) .b),(30,.bad Y_impl_Row),(31,.bad (.int .i64)),(32,.val (.int .i64) .b),(33,.val .bool .b)]⟩]
noncomputable def o_S_l8Runs_10:List Out:=[⟨.normal,⟨[],[1,4,5,6,7,8,9,10,27,28,29,30,31,32,33,37,38,39,40,41,42,43],[]⟩,mkSh 77 [(1,.var Y_impl_Group .b),(4,.val (.int .i64) .b),(5,.val S_bool (.row .b)),(6,.val S_bool (.row .b)),(7,.val (.int .i64) .b),(8,.val (.int .i64) .b),(9,.val .bool .b),(10,.val .bool .b),(27,.addr ⟨1,[.r,.r,.l],0,0⟩),(28,.val S_impl_Row .b),(29,.val (.int .i64) .b),(30,.bad Y_impl_Row),(31,.bad (.int .i64)),(32,.val (.int .i64) .b),(33,.val .bool .b)]⟩]
noncomputable def sh_S_l8Runs_7:List Sh:=mkSh 77 [(1,.var Y_impl_Group .b),(4,.val (.int .i64) .b),(5,.val S_bool (.row .b)),(6,.val S_bool (.row .b)),(7,.val (.int .i64) .b),(8,.val (.int .i64) .b),(9,.val .bool .b),(10,.val .bool .b)]
noncomputable def o_S_l8Runs_7:List Out:=[⟨.exit 2,⟨[],[1,4,5,6,7,8,9,10,37,38,39,40,41,42,43,47,48,49,50,51,52,53],[]⟩,mkSh 77 [(1,.var Y_impl_Group .b),(4,.val (.int .i64) .b),(5,.val S_bool (.row .b)),(6,.val S_bool (.row .b)),(7,.val (.int .i64) .b),(8,.val (.int .i64) .b),(9,.val .bool .b),(10,.val .bool .b)]⟩]
noncomputable def b_S_l8Runs_7 (t1:PV Y_impl_Group)(t4:PV (.int .i64))(t5:PV S_bool)(t6:PV S_bool)(t7:PV (.int .i64))(t8:PV (.int .i64))(t9:PV .bool)(t10:PV .bool):Option ((PV Y_impl_Group×PV (.int .i64)×PV S_bool×PV S_bool×PV (.int .i64)×PV (.int .i64)×PV .bool×PV .bool×Unit)⊕((PV Y_impl_Group×PV (.int .i64)×PV S_bool×PV S_bool×PV (.int .i64)×PV (.int .i64)×PV .bool×PV .bool×Unit))):=bif (decide (t8<t4)) then bif inB t8 t1.2.2.1.length then bif (!(((t1.2.2.1.getD t8.toNat (dflt Y_impl_Row)).1)==1)) then((bif t9 then some (t1,t4,t5,t6,t7,t8,true,t10,t1.2.2.1,t8,(t1.2.2.1.getD t8.toNat (dflt Y_impl_Row)),(t1.2.2.1.getD t8.toNat (dflt Y_impl_Row)).1,(t1.2.2.1.getD t8.toNat (dflt Y_impl_Row)).1,(!(((t1.2.2.1.getD t8.toNat (dflt Y_impl_Row)).1)==1)),()) else bif inB t8 t1.2.2.1.length then some (t1,t4,t5,t6,t7,t8,(((t1.2.2.1.getD t8.toNat (dflt Y_impl_Row)).1)==2),t10,t1.2.2.1,t8,(t1.2.2.1.getD t8.toNat (dflt Y_impl_Row)),(t1.2.2.1.getD t8.toNat (dflt Y_impl_Row)).1,(t1.2.2.1.getD t8.toNat (dflt Y_impl_Row)).1,(!(((t1.2.2.1.getD t8.toNat (dflt Y_impl_Row)).1)==1)),()) else none:Option ((PV Y_impl_Group×PV (.int .i64)×PV S_bool×PV S_bool×PV (.int .i64)×PV (.int .i64)×PV .bool×PV .bool×PV S_impl_Row×PV (.int .i64)×PV Y_impl_Row×PV (.int .i64)×PV (.int .i64)×PV .bool×Unit)))).bind fun j3=>((bif j3.2.2.2.2.2.2.2.1 then some (j3.1,j3.2.1,j3.2.2.1,j3.2.2.2.1,j3.2.2.2.2.1,j3.2.2.2.2.2.1,j3.2.2.2.2.2.2.1,true,j3.2.2.2.2.2.2.2.2.1,j3.2.2.2.2.2.2.2.2.2.1,j3.2.2.2.2.2.2.2.2.2.2.1,j3.2.2.2.2.2.2.2.2.2.2.2.1,j3.2.2.2.2.2.2.2.2.2.2.2.2.1,j3.2.2.2.2.2.2.2.2.2.2.2.2.2.1,()) else bif inB j3.2.2.2.2.2.1 j3.1.2.2.1.length then some (j3.1,j3.2.1,j3.2.2.1,j3.2.2.2.1,j3.2.2.2.2.1,j3.2.2.2.2.2.1,j3.2.2.2.2.2.2.1,(((j3.1.2.2.1.getD j3.2.2.2.2.2.1.toNat (dflt Y_impl_Row)).1)==3),j3.2.2.2.2.2.2.2.2.1,j3.2.2.2.2.2.2.2.2.2.1,j3.2.2.2.2.2.2.2.2.2.2.1,j3.2.2.2.2.2.2.2.2.2.2.2.1,j3.2.2.2.2.2.2.2.2.2.2.2.2.1,j3.2.2.2.2.2.2.2.2.2.2.2.2.2.1,()) else none:Option ((PV Y_impl_Group×PV (.int .i64)×PV S_bool×PV S_bool×PV (.int .i64)×PV (.int .i64)×PV .bool×PV .bool×PV S_impl_Row×PV (.int .i64)×PV Y_impl_Row×PV (.int .i64)×PV (.int .i64)×PV .bool×Unit)))).bind fun j4=>some (.inl (j4.1,j4.2.1,j4.2.2.1,j4.2.2.2.1,j4.2.2.2.2.1,(IntKind.wrap .i64 (j4.2.2.2.2.2.1+1)),j4.2.2.2.2.2.2.1,j4.2.2.2.2.2.2.2.1,())) else some (.inr (t1,t4,t5,t6,t7,t8,t9,t10,())) else none else some (.inr (t1,t4,t5,t6,t7,t8,t9,t10,()))
noncomputable def w_S_l8Runs_7:PV Y_impl_Group×PV (.int .i64)×PV S_bool×PV S_bool×PV (.int .i64)×PV (.int .i64)×PV .bool×PV .bool×Unit→Option ((PV Y_impl_Group×PV (.int .i64)×PV S_bool×PV S_bool×PV (.int .i64)×PV (.int .i64)×PV .bool×PV .bool×Unit)):=fix fun d=>b_S_l8Runs_7 d.1 d.2.1 d.2.2.1 d.2.2.2.1 d.2.2.2.2.1 d.2.2.2.2.2.1 d.2.2.2.2.2.2.1 d.2.2.2.2.2.2.2.1
noncomputable def lp_S_l8Runs_7:Lp:=⟨⟨[],[1,4,5,6,7,8,9,10,37,38,39,40,41,42,43,47,48,49,50,51,52,53],[]⟩,sh_S_l8Runs_7,o_S_l8Runs_7,fun d=>b_S_l8Runs_7 d.1 d.2.1 d.2.2.1 d.2.2.2.1 d.2.2.2.2.1 d.2.2.2.2.2.1 d.2.2.2.2.2.2.1 d.2.2.2.2.2.2.2.1⟩
noncomputable def sh_S_l8Runs_12:List Sh:=mkSh 77 [(1,.var Y_impl_Group .b),(4,.val (.int .i64) .b),(5,.val S_bool (.row .b)),(6,.val S_bool (.row .b)),(7,.val (.int .i64) .b),(8,.val (.int .i64) .b),(9,.val .bool .b),(10,.val .bool .b),(11,.val (.int .i64) .b)]
noncomputable def o_S_l8Runs_12:List Out:=[⟨.exit 4,⟨[],[1,4,5,6,7,8,27,28,29,30,31,32,33,37,38,39,40,41,42,43,47,48,49,50,51,52,53],[]⟩,mkSh 77 [(1,.var Y_impl_Group .b),(4,.val (.int .i64) .b),(5,.val S_bool (.row .b)),(6,.val S_bool (.row .b)),(7,.val (.int .i64) .b),(8,.val (.int .i64) .b)]⟩]
noncomputable def b_S_l8Runs_12 (t1:PV Y_impl_Group)(t4:PV (.int .i64))(t5:PV S_bool)(t6:PV S_bool)(t7:PV (.int .i64))(t8:PV (.int .i64))(t9:PV .bool)(t10:PV .bool)(t11:PV (.int .i64)):Option ((PV Y_impl_Group×PV (.int .i64)×PV S_bool×PV S_bool×PV (.int .i64)×PV (.int .i64)×PV .bool×PV .bool×PV (.int .i64)×Unit)⊕((PV Y_impl_Group×PV (.int .i64)×PV S_bool×PV S_bool×PV (.int .i64)×PV (.int .i64)×Unit))):=bif (decide (t11<t8)) then bif inB t11 t5.length then bif inB t11 t6.length then some (.inl (t1,t4,(t5.set t11.toNat t9),(t6.set t11.toNat t10),t7,t8,t9,t10,(IntKind.wrap .i64 (t11+1)),())) else none else none else some (.inr (t1,t4,t5,t6,t7,t8,()))
noncomputable def w_S_l8Runs_12:PV Y_impl_Group×PV (.int .i64)×PV S_bool×PV S_bool×PV (.int .i64)×PV (.int .i64)×PV .bool×PV .bool×PV (.int .i64)×Unit→Option ((PV Y_impl_Group×PV (.int .i64)×PV S_bool×PV S_bool×PV (.int .i64)×PV (.int .i64)×Unit)):=fix fun d=>b_S_l8Runs_12 d.1 d.2.1 d.2.2.1 d.2.2.2.1 d.2.2.2.2.1 d.2.2.2.2.2.1 d.2.2.2.2.2.2.1 d.2.2.2.2.2.2.2.1 d.2.2.2.2.2.2.2.2.1
noncomputable def lp_S_l8Runs_12:Lp:=⟨⟨[],[1,4,5,6,7,8,9,10,11,27,28,29,30,31,32,33,37,38,39,40,41,42,43,47,48,49,50,51,52,53],[]⟩,sh_S_l8Runs_12,o_S_l8Runs_12,fun d=>b_S_l8Runs_12 d.1 d.2.1 d.2.2.1 d.2.2.2.1 d.2.2.2.2.1 d.2.2.2.2.2.1 d.2.2.2.2.2.2.1 d.2.2.2.2.2.2.2.1 d.2.2.2.2.2.2.2.2.1⟩
noncomputable def sh_S_l8Runs_4:List Sh:=mkSh 77 [(1,.var Y_impl_Group .b),(4,.val (.int .i64) .b),(5,.val S_bool (.row .b)),(6,.val S_bool (.row .b)),(7,.val (.int .i64) .b)]
noncomputable def o_S_l8Runs_4:List Out:=[⟨.exit 0,⟨[],[5,6],[]⟩,mkSh 77 [(5,.val S_bool (.row .b)),(6,.val S_bool (.row .b))]⟩]
noncomputable def b_S_l8Runs_4 (t1:PV Y_impl_Group)(t4:PV (.int .i64))(t5:PV S_bool)(t6:PV S_bool)(t7:PV (.int .i64)):Option ((PV Y_impl_Group×PV (.int .i64)×PV S_bool×PV S_bool×PV (.int .i64)×Unit)⊕((PV S_bool×PV S_bool×Unit))):=bif (decide (t7<t4)) then(w_S_l8Runs_7 (t1,t4,t5,t6,t7,t7,false,false,())).bind fun l2=>(w_S_l8Runs_12 (l2.1,l2.2.1,l2.2.2.1,l2.2.2.2.1,l2.2.2.2.2.1,l2.2.2.2.2.2.1,l2.2.2.2.2.2.2.1,l2.2.2.2.2.2.2.2.1,l2.2.2.2.2.1,())).bind fun l4=>(f_S_l1Most l4.2.2.2.2.2.1 (IntKind.wrap .i64 (l4.2.2.2.2.1+1))).bind fun r5=>some (.inl (l4.1,l4.2.1,l4.2.2.1,l4.2.2.2.1,r5.1.1,())) else some (.inr (t5,t6,()))
noncomputable def w_S_l8Runs_4:PV Y_impl_Group×PV (.int .i64)×PV S_bool×PV S_bool×PV (.int .i64)×Unit→Option ((PV S_bool×PV S_bool×Unit)):=fix fun d=>b_S_l8Runs_4 d.1 d.2.1 d.2.2.1 d.2.2.2.1 d.2.2.2.2.1
noncomputable def lp_S_l8Runs_4:Lp:=⟨⟨[],[1,4,5,6,7,27,28,29,30,31,32,33,37,38,39,40,41,42,43,47,48,49,50,51,52,53],[]⟩,sh_S_l8Runs_4,o_S_l8Runs_4,fun d=>b_S_l8Runs_4 d.1 d.2.1 d.2.2.1 d.2.2.2.1 d.2.2.2.2.1⟩
noncomputable def pl_S_l8Runs:Plan:=⟨[(9,o_S_l8Runs_9),(10,o_S_l8Runs_10)],[(7,lp_S_l8Runs_7),(12,lp_S_l8Runs_12),(4,lp_S_l8Runs_4)],0,0⟩
noncomputable def f_S_l8Runs (t0:PV Y_impl_Group):Option (PVs [S_bool,S_bool]×PVs []):=bif decide (0≤(t0.2.2.1.length:Int))&&(decide ((t0.2.2.1.length:Int)≤(t0.2.2.1.length:Int))&&roomB (t0.2.2.1.length:Int).toNat) then bif decide (0≤(t0.2.2.1.length:Int))&&(decide ((t0.2.2.1.length:Int)≤(t0.2.2.1.length:Int))&&roomB (t0.2.2.1.length:Int).toNat) then(w_S_l8Runs_4 (t0,(t0.2.2.1.length:Int),(List.replicate (t0.2.2.1.length:Int).toNat false),(List.replicate (t0.2.2.1.length:Int).toNat false),0,())).bind fun l7=>some ((l7.1,l7.2.1,()),()) else none else none
noncomputable def ct_S_l8Runs:Ct:=⟨[(.bor,Y_impl_Group)],[(S_bool,(.row .b)),(S_bool,(.row .b))],fun x=>f_S_l8Runs x.1⟩
noncomputable def cx_S_l8Runs:Cx:=⟨tab,arrs,[(238,ct_S_l1Most)],[],gl,[]⟩
theorem eb_S_l8Runs_4 (t1:PV Y_impl_Group)(t4:PV (.int .i64))(t5:PV S_bool)(t6:PV S_bool)(t7:PV (.int .i64)):denK cx_S_l8Runs (rcN cx_S_l8Runs 0) pl_S_l8Runs 0 ((loopsOf (bodyOf Tryz.f185)).getD 0 .skip) (fillS sh_S_l8Runs_4 (t1,t4,t5,t6,t7,())) (roundK 0 lp_S_l8Runs_4)=b_S_l8Runs_4 t1 t4 t5 t6 t7:=by kernel_rfl
theorem eb_S_l8Runs_7 (t1:PV Y_impl_Group)(t4:PV (.int .i64))(t5:PV S_bool)(t6:PV S_bool)(t7:PV (.int .i64))(t8:PV (.int .i64))(t9:PV .bool)(t10:PV .bool):denK cx_S_l8Runs (rcN cx_S_l8Runs 0) pl_S_l8Runs 0 ((loopsOf (bodyOf Tryz.f185)).getD 1 .skip) (fillS sh_S_l8Runs_7 (t1,t4,t5,t6,t7,t8,t9,t10,())) (roundK 0 lp_S_l8Runs_7)=b_S_l8Runs_7 t1 t4 t5 t6 t7 t8 t9 t10:=by kernel_rfl
theorem eb_S_l8Runs_12 (t1:PV Y_impl_Group)(t4:PV (.int .i64))(t5:PV S_bool)(t6:PV S_bool)(t7:PV (.int .i64))(t8:PV (.int .i64))(t9:PV .bool)(t10:PV .bool)(t11:PV (.int .i64)):denK cx_S_l8Runs (rcN cx_S_l8Runs 0) pl_S_l8Runs 0 ((loopsOf (bodyOf Tryz.f185)).getD 2 .skip) (fillS sh_S_l8Runs_12 (t1,t4,t5,t6,t7,t8,t9,t10,t11,())) (roundK 0 lp_S_l8Runs_12)=b_S_l8Runs_12 t1 t4 t5 t6 t7 t8 t9 t10 t11:=by kernel_rfl
theorem ef_S_l8Runs (t0:PV Y_impl_Group):denF cx_S_l8Runs 0 pl_S_l8Runs Tryz.f185.ntmps (bodyOf Tryz.f185) Tryz.f185.results.toList [(.bor,Y_impl_Group)] [(S_bool,(.row .b)),(S_bool,(.row .b))] (t0,())=f_S_l8Runs t0:=by kernel_rfl
theorem ok_S_l8Runs:FnOk gl Tryz.prog 185 ct_S_l8Runs:=
 fnOk (cx:=cx_S_l8Runs) (pl:=pl_S_l8Runs) (dp:=0) (ok0_of tabOk (by unfold ArrOk;kernel_rfl) mix ⟨ok_S_l1Most,trivial⟩ trivial) Tryz.func185 (by kernel_rfl) (by kernel_rfl) (by kernel_rfl)
  (by rw[show loopsOf (bodyOf Tryz.f185)=[((loopsOf (bodyOf Tryz.f185)).getD 0 .skip),((loopsOf (bodyOf Tryz.f185)).getD 1 .skip),((loopsOf (bodyOf Tryz.f185)).getD 2 .skip)] from by kernel_rfl];exact⟨(by rw[show lookup pl_S_l8Runs.loops (firstId ((loopsOf (bodyOf Tryz.f185)).getD 0 .skip))=some lp_S_l8Runs_4 from by kernel_rfl];exact fun d z h=>(eb_S_l8Runs_4 d.1 d.2.1 d.2.2.1 d.2.2.2.1 d.2.2.2.2.1).trans h),(by rw[show lookup pl_S_l8Runs.loops (firstId ((loopsOf (bodyOf Tryz.f185)).getD 1 .skip))=some lp_S_l8Runs_7 from by kernel_rfl];exact fun d z h=>(eb_S_l8Runs_7 d.1 d.2.1 d.2.2.1 d.2.2.2.1 d.2.2.2.2.1 d.2.2.2.2.2.1 d.2.2.2.2.2.2.1 d.2.2.2.2.2.2.2.1).trans h),(by rw[show lookup pl_S_l8Runs.loops (firstId ((loopsOf (bodyOf Tryz.f185)).getD 2 .skip))=some lp_S_l8Runs_12 from by kernel_rfl];exact fun d z h=>(eb_S_l8Runs_12 d.1 d.2.1 d.2.2.1 d.2.2.2.1 d.2.2.2.2.1 d.2.2.2.2.2.1 d.2.2.2.2.2.2.1 d.2.2.2.2.2.2.2.1 d.2.2.2.2.2.2.2.2.1).trans h),trivial⟩) (fun x=>ef_S_l8Runs x.1)
noncomputable def pl_S_l5Shown:Plan:=⟨[],[],0,0⟩
noncomputable def f_S_l5Shown (t0:PV .str)(t1:PV .str):Option (PVs [.str]×PVs []):=(f_S_l1Ends t1).bind fun r4=>bif r4.1.1 then bif decide (t0.length+t1.length≤1099511627776) then some (((t0++t1),()),()) else none else bif decide (t0.length+t1.length≤1099511627776) then bif decide ((t0++t1).length+[10,92,32,110,111,110,101,10].length≤1099511627776) then some ((((t0++t1)++[10,92,32,110,111,110,101,10]),()),()) else none else none
noncomputable def ct_S_l5Shown:Ct:=⟨[(.bor,.str),(.bor,.str)],[(.str,.b)],fun x=>f_S_l5Shown x.1 x.2.1⟩
noncomputable def cx_S_l5Shown:Cx:=⟨tab,arrs,[(128,ct_S_l1Ends)],[],gl,[]⟩
theorem ef_S_l5Shown (t0:PV .str)(t1:PV .str):denF cx_S_l5Shown 0 pl_S_l5Shown Tryz.f139.ntmps (bodyOf Tryz.f139) Tryz.f139.results.toList [(.bor,.str),(.bor,.str)] [(.str,.b)] (t0,t1,())=f_S_l5Shown t0 t1:=by kernel_rfl
theorem ok_S_l5Shown:FnOk gl Tryz.prog 139 ct_S_l5Shown:=
 fnOk (cx:=cx_S_l5Shown) (pl:=pl_S_l5Shown) (dp:=0) (ok0_of tabOk (by unfold ArrOk;kernel_rfl) mix ⟨ok_S_l1Ends,trivial⟩ trivial) Tryz.func139 (by kernel_rfl) (by kernel_rfl) (by kernel_rfl)
  (by rw[show loopsOf (bodyOf Tryz.f139)=[] from by kernel_rfl];exact trivial) (fun x=>ef_S_l5Shown x.1 x.2.1)
noncomputable def o_S_l8Half_8:List Out:=[⟨.normal,⟨[],[1,5,6,7,8,9,10,17,18,19,24,45,46,47,48,51,52,53,54],[]⟩,mkSh 72 [(1,.val .bool .b),(5,.val S_bool (.row .b)),(6,.val S_bool (.row .b)),(7,.val .str .b),(8,.val (.int .i64) .b),(9,.var Y_impl_Row .b),(10,.val .str .b),(17,.val S_impl_Row .b),(18,.val (.int .i64) .b),(19,.val (.int .i64) .b),(24,.val .bool .b)]⟩]
noncomputable def o_S_l8Half_9:List Out:=[⟨.normal,⟨[],[1,5,6,7,9,10,17,18,19,29,30,33,34,35,36,37,38,40],[]⟩,mkSh 72 [(1,.val .bool .b),(5,.val S_bool (.row .b)),(6,.val S_bool (.row .b)),(7,.val .str .b),(9,.var Y_impl_Row .b),(10,.val .str .b),(17,.val S_impl_Row .b),(18,.val (.int .i64) .b),(19,.val (.int .i64) .b),(40,.val .bool .b)]⟩]
noncomputable def o_S_l8Half_14:List Out:=[⟨.exit 1,⟨[],[1,5,6,7,17,18,19,29,30,33,34,35,36,37,38,45,46,47,48,51,52,53,54],[]⟩,mkSh 72 [(1,.val .bool .b),(5,.val S_bool (.row .b)),(6,.val S_bool (.row .b)),(7,.val .str .b),(17,.val S_impl_Row .b),(18,.val (.int .i64) .b),(19,.val (.int .i64) .b)]⟩,⟨.normal,⟨[],[1,5,6,7,9,10,17,18,19,29,30,33,34,35,36,37,38,45,46,47,48,51,52,53,54],[]⟩,mkSh 72 [(1,.val .bool .b),(5,.val S_bool (.row .b)),(6,.val S_bool (.row .b)),(7,.val .str .b),(9,.var Y_impl_Row .b),(10,.val .str .b),(17,.val S_impl_Row .b),(18,.val (.int .i64) .b),(19,.val (.int .i64) .b)]⟩]
noncomputable def o_S_l8Half_15:List Out:=[⟨.normal,⟨[],[1,5,6,7,17,18,19,29,30,33,34,35,36,37,38,45,46,47,48,51,52,53,54],[]⟩,mkSh 72 [(1,.val .bool .b),(5,.val S_bool (.row .b)),(6,.val S_bool (.row .b)),(7,.val .str .b),(17,.val S_impl_Row .b),(18,.val (.int .i64) .b),(19,.val (.int .i64) .b)]⟩]
noncomputable def sh_S_l8Half_4:List Sh:=mkSh 72 [(1,.val .bool .b),(5,.val S_bool (.row .b)),(6,.val S_bool (.row .b)),(7,.val .str .b),(17,.val S_impl_Row .b),(18,.val (.int .i64) .b),(19,.val (.int .i64) .b)]
noncomputable def o_S_l8Half_4:List Out:=[⟨.exit 0,⟨[],[7],[]⟩,mkSh 72 [(7,.val .str .b)]⟩]
noncomputable def b_S_l8Half_4 (t1:PV .bool)(t5:PV S_bool)(t6:PV S_bool)(t7:PV .str)(t17:PV S_impl_Row)(t18:PV (.int .i64))(t19:PV (.int .i64)):Option ((PV .bool×PV S_bool×PV S_bool×PV .str×PV S_impl_Row×PV (.int .i64)×PV (.int .i64)×Unit)⊕((PV .str×Unit))):=
 bif (decide (t19<t18)) then
  ((
    bif inB t19 t17.length then
     ((
       ((
         bif (((t17.getD t19.toNat (dflt Y_impl_Row)).1)==2) then
          bif (!t1) then
           some (t1,t5,t6,t7,t19,(t17.getD t19.toNat (dflt Y_impl_Row)),[32,32],t17,t18,t19,true,())
          else
           bif (((t17.getD t19.toNat (dflt Y_impl_Row)).1)==3) then
            some (t1,t5,t6,t7,t19,(t17.getD t19.toNat (dflt Y_impl_Row)),[32,32],t17,t18,t19,t1,())
           else
            some (t1,t5,t6,t7,t19,(t17.getD t19.toNat (dflt Y_impl_Row)),[32,32],t17,t18,t19,false,())
         else
          bif (((t17.getD t19.toNat (dflt Y_impl_Row)).1)==3) then
           some (t1,t5,t6,t7,t19,(t17.getD t19.toNat (dflt Y_impl_Row)),[32,32],t17,t18,t19,t1,())
          else
           some (t1,t5,t6,t7,t19,(t17.getD t19.toNat (dflt Y_impl_Row)),[32,32],t17,t18,t19,false,()):Option ((PV .bool×PV S_bool×PV S_bool×PV .str×PV (.int .i64)×PV Y_impl_Row×PV .str×PV S_impl_Row×PV (.int .i64)×PV (.int .i64)×PV .bool×Unit)))).bind fun j3=>
         bif j3.2.2.2.2.2.2.2.2.2.2.1 then
          some (.inl (j3.1,j3.2.1,j3.2.2.1,j3.2.2.2.1,j3.2.2.2.2.2.2.2.1,j3.2.2.2.2.2.2.2.2.1,j3.2.2.2.2.2.2.2.2.2.1,()))
         else
          ((
            bif (!(j3.2.2.2.2.2.1.1==1)) then
             bif inB j3.2.2.2.2.1 j3.2.1.length then
              bif (j3.2.1.getD j3.2.2.2.2.1.toNat false) then
               bif inB j3.2.2.2.2.1 j3.2.2.1.length then
                some (j3.1,j3.2.1,j3.2.2.1,j3.2.2.2.1,j3.2.2.2.2.2.1,j3.2.2.2.2.2.2.1,j3.2.2.2.2.2.2.2.1,j3.2.2.2.2.2.2.2.2.1,j3.2.2.2.2.2.2.2.2.2.1,(j3.2.2.1.getD j3.2.2.2.2.1.toNat false),())
               else
                none
              else
               some (j3.1,j3.2.1,j3.2.2.1,j3.2.2.2.1,j3.2.2.2.2.2.1,j3.2.2.2.2.2.2.1,j3.2.2.2.2.2.2.2.1,j3.2.2.2.2.2.2.2.2.1,j3.2.2.2.2.2.2.2.2.2.1,false,())
             else
              none
            else
             some (j3.1,j3.2.1,j3.2.2.1,j3.2.2.2.1,j3.2.2.2.2.2.1,j3.2.2.2.2.2.2.1,j3.2.2.2.2.2.2.2.1,j3.2.2.2.2.2.2.2.2.1,j3.2.2.2.2.2.2.2.2.2.1,false,()):Option ((PV .bool×PV S_bool×PV S_bool×PV .str×PV Y_impl_Row×PV .str×PV S_impl_Row×PV (.int .i64)×PV (.int .i64)×PV .bool×Unit)))).bind fun j4=>
            bif j4.2.2.2.2.2.2.2.2.2.1 then
             some (.inr (j4.1,j4.2.1,j4.2.2.1,j4.2.2.2.1,j4.2.2.2.2.1,[33,32],j4.2.2.2.2.2.2.1,j4.2.2.2.2.2.2.2.1,j4.2.2.2.2.2.2.2.2.1,()))
            else
             bif (j4.2.2.2.2.1.1==2) then
              some (.inr (j4.1,j4.2.1,j4.2.2.1,j4.2.2.2.1,j4.2.2.2.2.1,[45,32],j4.2.2.2.2.2.2.1,j4.2.2.2.2.2.2.2.1,j4.2.2.2.2.2.2.2.2.1,()))
             else
              bif (j4.2.2.2.2.1.1==3) then
               some (.inr (j4.1,j4.2.1,j4.2.2.1,j4.2.2.2.1,j4.2.2.2.2.1,[43,32],j4.2.2.2.2.2.2.1,j4.2.2.2.2.2.2.2.1,j4.2.2.2.2.2.2.2.2.1,()))
              else
               some (.inr (j4.1,j4.2.1,j4.2.2.1,j4.2.2.2.1,j4.2.2.2.2.1,j4.2.2.2.2.2.1,j4.2.2.2.2.2.2.1,j4.2.2.2.2.2.2.2.1,j4.2.2.2.2.2.2.2.2.1,())):Option ((PV .bool×PV S_bool×PV S_bool×PV .str×PV S_impl_Row×PV (.int .i64)×PV (.int .i64)×Unit)⊕(PV .bool×PV S_bool×PV S_bool×PV .str×PV Y_impl_Row×PV .str×PV S_impl_Row×PV (.int .i64)×PV (.int .i64)×Unit)))).bind fun x11=>
       match x11 with
       | .inl j5=>
         some (j5.1,j5.2.1,j5.2.2.1,j5.2.2.2.1,j5.2.2.2.2.1,j5.2.2.2.2.2.1,j5.2.2.2.2.2.2.1,())
       | .inr j6=>
         (f_S_l5Shown j6.2.2.2.2.2.1 j6.2.2.2.2.1.2.1).bind fun r7=>
           bif decide (j6.2.2.2.1.length+r7.1.1.length≤1099511627776) then
            some (j6.1,j6.2.1,j6.2.2.1,(j6.2.2.2.1++r7.1.1),j6.2.2.2.2.2.2.1,j6.2.2.2.2.2.2.2.1,j6.2.2.2.2.2.2.2.2.1,())
           else
            none
    else
     none:Option ((PV .bool×PV S_bool×PV S_bool×PV .str×PV S_impl_Row×PV (.int .i64)×PV (.int .i64)×Unit)))).bind fun j8=>
    some (.inl (j8.1,j8.2.1,j8.2.2.1,j8.2.2.2.1,j8.2.2.2.2.1,j8.2.2.2.2.2.1,(IntKind.wrap .i64 (j8.2.2.2.2.2.2.1+1)),()))
 else
  some (.inr (t7,()))
noncomputable def w_S_l8Half_4:PV .bool×PV S_bool×PV S_bool×PV .str×PV S_impl_Row×PV (.int .i64)×PV (.int .i64)×Unit→Option ((PV .str×Unit)):=fix fun d=>b_S_l8Half_4 d.1 d.2.1 d.2.2.1 d.2.2.2.1 d.2.2.2.2.1 d.2.2.2.2.2.1 d.2.2.2.2.2.2.1
noncomputable def lp_S_l8Half_4:Lp:=⟨⟨[],[1,5,6,7,17,18,19,29,30,33,34,35,36,37,38,45,46,47,48,51,52,53,54],[]⟩,sh_S_l8Half_4,o_S_l8Half_4,fun d=>b_S_l8Half_4 d.1 d.2.1 d.2.2.1 d.2.2.2.1 d.2.2.2.2.1 d.2.2.2.2.2.1 d.2.2.2.2.2.2.1⟩
noncomputable def pl_S_l8Half:Plan:=⟨[(8,o_S_l8Half_8),(9,o_S_l8Half_9),(14,o_S_l8Half_14),(15,o_S_l8Half_15)],[(4,lp_S_l8Half_4)],0,0⟩
noncomputable def f_S_l8Half (t0:PV Y_impl_Group)(t1:PV .bool):Option (PVs [.str]×PVs []):=(f_S_l8Runs t0).bind fun r2=>(w_S_l8Half_4 (t1,r2.1.1,r2.1.2.1,[],t0.2.2.1,(t0.2.2.1.length:Int),0,())).bind fun l10=>some ((l10.1,()),())
noncomputable def ct_S_l8Half:Ct:=⟨[(.bor,Y_impl_Group),(.bor,.bool)],[(.str,.b)],fun x=>f_S_l8Half x.1 x.2.1⟩
noncomputable def cx_S_l8Half:Cx:=⟨tab,arrs,[(139,ct_S_l5Shown),(185,ct_S_l8Runs)],[],gl,[]⟩
theorem eb_S_l8Half_4 (t1:PV .bool)(t5:PV S_bool)(t6:PV S_bool)(t7:PV .str)(t17:PV S_impl_Row)(t18:PV (.int .i64))(t19:PV (.int .i64)):denK cx_S_l8Half (rcN cx_S_l8Half 0) pl_S_l8Half 0 ((loopsOf (bodyOf Tryz.f109)).getD 0 .skip) (fillS sh_S_l8Half_4 (t1,t5,t6,t7,t17,t18,t19,())) (roundK 0 lp_S_l8Half_4)=b_S_l8Half_4 t1 t5 t6 t7 t17 t18 t19:=by kernel_rfl
theorem ef_S_l8Half (t0:PV Y_impl_Group)(t1:PV .bool):denF cx_S_l8Half 0 pl_S_l8Half Tryz.f109.ntmps (bodyOf Tryz.f109) Tryz.f109.results.toList [(.bor,Y_impl_Group),(.bor,.bool)] [(.str,.b)] (t0,t1,())=f_S_l8Half t0 t1:=by kernel_rfl
theorem ok_S_l8Half:FnOk gl Tryz.prog 109 ct_S_l8Half:=
 fnOk (cx:=cx_S_l8Half) (pl:=pl_S_l8Half) (dp:=0) (ok0_of tabOk (by unfold ArrOk;kernel_rfl) mix ⟨ok_S_l5Shown,ok_S_l8Runs,trivial⟩ trivial) Tryz.func109 (by kernel_rfl) (by kernel_rfl) (by kernel_rfl)
  (by rw[show loopsOf (bodyOf Tryz.f109)=[((loopsOf (bodyOf Tryz.f109)).getD 0 .skip)] from by kernel_rfl];exact⟨(by rw[show lookup pl_S_l8Half.loops (firstId ((loopsOf (bodyOf Tryz.f109)).getD 0 .skip))=some lp_S_l8Half_4 from by kernel_rfl];exact fun d z h=>(eb_S_l8Half_4 d.1 d.2.1 d.2.2.1 d.2.2.2.1 d.2.2.2.2.1 d.2.2.2.2.2.1 d.2.2.2.2.2.2.1).trans h),trivial⟩) (fun x=>ef_S_l8Half x.1 x.2.1)
noncomputable def o_S_l8Text_8:List Out:=[⟨.normal,⟨[],[3,5,6,7,8],[]⟩,mkSh 46 [(3,.val .str .b),(5,.var Y_impl_Group .b),(6,.val S_impl_Group .b),(7,.val (.int .i64) .b),(8,.val (.int .i64) .b)]⟩]
noncomputable def o_S_l8Text_11:List Out:=[⟨.normal,⟨[],[3,6,7,8],[]⟩,mkSh 46 [(3,.val .str .b),(6,.val S_impl_Group .b),(7,.val (.int .i64) .b),(8,.val (.int .i64) .b)]⟩]
noncomputable def sh_S_l8Text_3:List Sh:=mkSh 46 [(3,.val .str .b),(6,.val S_impl_Group .b),(7,.val (.int .i64) .b),(8,.val (.int .i64) .b)]
noncomputable def o_S_l8Text_3:List Out:=[⟨.exit 0,⟨[],[3],[]⟩,mkSh 46 [(3,.val .str .b)]⟩]
noncomputable def b_S_l8Text_3 (t3:PV .str)(t6:PV S_impl_Group)(t7:PV (.int .i64))(t8:PV (.int .i64)):Option ((PV .str×PV S_impl_Group×PV (.int .i64)×PV (.int .i64)×Unit)⊕((PV .str×Unit))):=bif (decide (t8<t7)) then((bif inB t8 t6.length then(f_S_l6Old (t6.getD t8.toNat (dflt Y_impl_Group))).bind fun r3=>(f_S_l4Pair ((t6.getD t8.toNat (dflt Y_impl_Group)).1) (r3.1.1.length:Int)).bind fun r4=>bif decide ([42,42,42,42,42,42,42,42,42,42,42,42,42,42,42,10,42,42,42,32].length+r4.1.1.length≤1099511627776) then bif decide (([42,42,42,42,42,42,42,42,42,42,42,42,42,42,42,10,42,42,42,32]++r4.1.1).length+[32,42,42,42,42,10].length≤1099511627776) then bif decide (t3.length+(([42,42,42,42,42,42,42,42,42,42,42,42,42,42,42,10,42,42,42,32]++r4.1.1)++[32,42,42,42,42,10]).length≤1099511627776) then(((f_S_l8Some (t6.getD t8.toNat (dflt Y_impl_Group)) 2).bind fun r6=>bif r6.1.1 then(f_S_l8Half (t6.getD t8.toNat (dflt Y_impl_Group)) true).bind fun r7=>bif decide ((t3++(([42,42,42,42,42,42,42,42,42,42,42,42,42,42,42,10,42,42,42,32]++r4.1.1)++[32,42,42,42,42,10])).length+r7.1.1.length≤1099511627776) then some (((t3++(([42,42,42,42,42,42,42,42,42,42,42,42,42,42,42,10,42,42,42,32]++r4.1.1)++[32,42,42,42,42,10]))++r7.1.1),(t6.getD t8.toNat (dflt Y_impl_Group)),t6,t7,t8,()) else none else some ((t3++(([42,42,42,42,42,42,42,42,42,42,42,42,42,42,42,10,42,42,42,32]++r4.1.1)++[32,42,42,42,42,10])),(t6.getD t8.toNat (dflt Y_impl_Group)),t6,t7,t8,()):Option ((PV .str×PV Y_impl_Group×PV S_impl_Group×PV (.int .i64)×PV (.int .i64)×Unit)))).bind fun j8=>(f_S_l6New j8.2.1).bind fun r11=>(f_S_l4Pair j8.2.1.2.1 (r11.1.1.length:Int)).bind fun r12=>bif decide ([45,45,45,32].length+r12.1.1.length≤1099511627776) then bif decide (([45,45,45,32]++r12.1.1).length+[32,45,45,45,45,10].length≤1099511627776) then bif decide (j8.1.length+(([45,45,45,32]++r12.1.1)++[32,45,45,45,45,10]).length≤1099511627776) then(f_S_l8Some j8.2.1 3).bind fun r14=>bif r14.1.1 then(f_S_l8Half j8.2.1 false).bind fun r15=>bif decide ((j8.1++(([45,45,45,32]++r12.1.1)++[32,45,45,45,45,10])).length+r15.1.1.length≤1099511627776) then some (((j8.1++(([45,45,45,32]++r12.1.1)++[32,45,45,45,45,10]))++r15.1.1),j8.2.2.1,j8.2.2.2.1,j8.2.2.2.2.1,()) else none else some ((j8.1++(([45,45,45,32]++r12.1.1)++[32,45,45,45,45,10])),j8.2.2.1,j8.2.2.2.1,j8.2.2.2.2.1,()) else none else none else none else none else none else none else none:Option ((PV .str×PV S_impl_Group×PV (.int .i64)×PV (.int .i64)×Unit)))).bind fun j16=>some (.inl (j16.1,j16.2.1,j16.2.2.1,(IntKind.wrap .i64 (j16.2.2.2.1+1)),())) else some (.inr (t3,()))
noncomputable def w_S_l8Text_3:PV .str×PV S_impl_Group×PV (.int .i64)×PV (.int .i64)×Unit→Option ((PV .str×Unit)):=fix fun d=>b_S_l8Text_3 d.1 d.2.1 d.2.2.1 d.2.2.2.1
noncomputable def lp_S_l8Text_3:Lp:=⟨⟨[],[3,6,7,8],[]⟩,sh_S_l8Text_3,o_S_l8Text_3,fun d=>b_S_l8Text_3 d.1 d.2.1 d.2.2.1 d.2.2.2.1⟩
noncomputable def pl_S_l8Text:Plan:=⟨[(8,o_S_l8Text_8),(11,o_S_l8Text_11)],[(3,lp_S_l8Text_3)],0,0⟩
noncomputable def f_S_l8Text (t0:PV S_impl_Group):Option (PVs [.str]×PVs []):=(w_S_l8Text_3 ([],t0,(t0.length:Int),0,())).bind fun l18=>some ((l18.1,()),())
noncomputable def ct_S_l8Text:Ct:=⟨[(.bor,S_impl_Group)],[(.str,.b)],fun x=>f_S_l8Text x.1⟩
noncomputable def cx_S_l8Text:Cx:=⟨tab,arrs,[(109,ct_S_l8Half),(163,ct_S_l6Old),(164,ct_S_l6New),(168,ct_S_l4Pair),(169,ct_S_l8Some)],[],gl,[]⟩
theorem eb_S_l8Text_3 (t3:PV .str)(t6:PV S_impl_Group)(t7:PV (.int .i64))(t8:PV (.int .i64)):denK cx_S_l8Text (rcN cx_S_l8Text 0) pl_S_l8Text 0 ((loopsOf (bodyOf Tryz.f100)).getD 0 .skip) (fillS sh_S_l8Text_3 (t3,t6,t7,t8,())) (roundK 0 lp_S_l8Text_3)=b_S_l8Text_3 t3 t6 t7 t8:=by kernel_rfl
theorem ef_S_l8Text (t0:PV S_impl_Group):denF cx_S_l8Text 0 pl_S_l8Text Tryz.f100.ntmps (bodyOf Tryz.f100) Tryz.f100.results.toList [(.bor,S_impl_Group)] [(.str,.b)] (t0,())=f_S_l8Text t0:=by kernel_rfl
theorem ok_S_l8Text:FnOk gl Tryz.prog 100 ct_S_l8Text:=
 fnOk (cx:=cx_S_l8Text) (pl:=pl_S_l8Text) (dp:=0) (ok0_of tabOk (by unfold ArrOk;kernel_rfl) mix ⟨ok_S_l8Half,ok_S_l6Old,ok_S_l6New,ok_S_l4Pair,ok_S_l8Some,trivial⟩ trivial) Tryz.func100 (by kernel_rfl) (by kernel_rfl) (by kernel_rfl)
  (by rw[show loopsOf (bodyOf Tryz.f100)=[((loopsOf (bodyOf Tryz.f100)).getD 0 .skip)] from by kernel_rfl];exact⟨(by rw[show lookup pl_S_l8Text.loops (firstId ((loopsOf (bodyOf Tryz.f100)).getD 0 .skip))=some lp_S_l8Text_3 from by kernel_rfl];exact fun d z h=>(eb_S_l8Text_3 d.1 d.2.1 d.2.2.1 d.2.2.2.1).trans h),trivial⟩) (fun x=>ef_S_l8Text x.1)
noncomputable def o_S_SidesText_2:List Out:=[⟨.normal,⟨[],[0,12],[]⟩,mkSh 15 [(0,.val S_impl_Group .b),(12,.val .bool .b)]⟩]
noncomputable def pl_S_SidesText:Plan:=⟨[(2,o_S_SidesText_2)],[],0,0⟩
noncomputable def f_S_SidesText (t0:PV S_impl_Group):Option (PVs [.str,.bool]×PVs []):=(((f_S_l6Good t0).bind fun r6=>bif (!r6.1.1) then some (t0,true,()) else(f_S_l8Text t0).bind fun r7=>some (t0,(decide ((r7.1.1.length:Int)>3000)),()):Option ((PV S_impl_Group×PV .bool×Unit)))).bind fun j8=>bif j8.2.1 then some (([],false,()),()) else(f_S_l8Text j8.1).bind fun r9=>some ((r9.1.1,true,()),())
noncomputable def ct_S_SidesText:Ct:=⟨[(.bor,S_impl_Group)],[(.str,.b),(.bool,.b)],fun x=>f_S_SidesText x.1⟩
noncomputable def cx_S_SidesText:Cx:=⟨tab,arrs,[(95,ct_S_l6Good),(100,ct_S_l8Text)],[],gl,[]⟩
theorem ef_S_SidesText (t0:PV S_impl_Group):denF cx_S_SidesText 0 pl_S_SidesText Tryz.f47.ntmps (bodyOf Tryz.f47) Tryz.f47.results.toList [(.bor,S_impl_Group)] [(.str,.b),(.bool,.b)] (t0,())=f_S_SidesText t0:=by kernel_rfl
theorem ok_S_SidesText:FnOk gl Tryz.prog 47 ct_S_SidesText:=
 fnOk (cx:=cx_S_SidesText) (pl:=pl_S_SidesText) (dp:=0) (ok0_of tabOk (by unfold ArrOk;kernel_rfl) mix ⟨ok_S_l6Good,ok_S_l8Text,trivial⟩ trivial) Tryz.func47 (by kernel_rfl) (by kernel_rfl) (by kernel_rfl)
  (by rw[show loopsOf (bodyOf Tryz.f47)=[] from by kernel_rfl];exact trivial) (fun x=>ef_S_SidesText x.1)
noncomputable def pl_strings_SplitAfter:Plan:=⟨[],[],0,0⟩
noncomputable def f_strings_SplitAfter (t0:PV .str)(t1:PV .str):Option (PVs [S_string]×PVs []):=(f_strings_genSplit t0 t1 (t1.length:Int) (-1)).bind fun r1=>some ((r1.1.1,()),())
noncomputable def ct_strings_SplitAfter:Ct:=⟨[(.bor,.str),(.bor,.str)],[(S_string,.b)],fun x=>f_strings_SplitAfter x.1 x.2.1⟩
noncomputable def cx_strings_SplitAfter:Cx:=⟨tab,arrs,[(215,ct_strings_genSplit)],[],gl,[]⟩
theorem ef_strings_SplitAfter (t0:PV .str)(t1:PV .str):denF cx_strings_SplitAfter 0 pl_strings_SplitAfter Tryz.f145.ntmps (bodyOf Tryz.f145) Tryz.f145.results.toList [(.bor,.str),(.bor,.str)] [(S_string,.b)] (t0,t1,())=f_strings_SplitAfter t0 t1:=by kernel_rfl
theorem ok_strings_SplitAfter:FnOk gl Tryz.prog 145 ct_strings_SplitAfter:=
 fnOk (cx:=cx_strings_SplitAfter) (pl:=pl_strings_SplitAfter) (dp:=0) (ok0_of tabOk (by unfold ArrOk;kernel_rfl) mix ⟨ok_strings_genSplit,trivial⟩ trivial) Tryz.func145 (by kernel_rfl) (by kernel_rfl) (by kernel_rfl)
  (by rw[show loopsOf (bodyOf Tryz.f145)=[] from by kernel_rfl];exact trivial) (fun x=>ef_strings_SplitAfter x.1 x.2.1)
noncomputable def o_I_linesOf_7:List Out:=[⟨.normal,⟨[],[3],[]⟩,mkSh 21 [(3,.val S_string .b)]⟩]
noncomputable def pl_I_linesOf:Plan:=⟨[(7,o_I_linesOf_7)],[],0,0⟩
noncomputable def f_I_linesOf (t0:PV .str):Option (PVs [S_string]×PVs []):=bif (t0==[]) then some (([],()),()) else(f_strings_SplitAfter t0 [10]).bind fun r2=>((bif inB (IntKind.wrap .i64 ((r2.1.1.length:Int) -1)) r2.1.1.length then bif ((r2.1.1.getD ((IntKind.wrap .i64 ((r2.1.1.length:Int) -1)).toNat) [])==[]) then bif cutB 0 (IntKind.wrap .i64 ((r2.1.1.length:Int) -1)) r2.1.1.length then some ((cutL 0 (IntKind.wrap .i64 ((r2.1.1.length:Int) -1)) r2.1.1),()) else none else some (r2.1.1,()) else none:Option ((PV S_string×Unit)))).bind fun j3=>some ((j3.1,()),())
noncomputable def ct_I_linesOf:Ct:=⟨[(.bor,.str)],[(S_string,.b)],fun x=>f_I_linesOf x.1⟩
noncomputable def cx_I_linesOf:Cx:=⟨tab,arrs,[(145,ct_strings_SplitAfter)],[],gl,[]⟩
theorem ef_I_linesOf (t0:PV .str):denF cx_I_linesOf 0 pl_I_linesOf Tryz.f75.ntmps (bodyOf Tryz.f75) Tryz.f75.results.toList [(.bor,.str)] [(S_string,.b)] (t0,())=f_I_linesOf t0:=by kernel_rfl
theorem ok_I_linesOf:FnOk gl Tryz.prog 75 ct_I_linesOf:=
 fnOk (cx:=cx_I_linesOf) (pl:=pl_I_linesOf) (dp:=0) (ok0_of tabOk (by unfold ArrOk;kernel_rfl) mix ⟨ok_strings_SplitAfter,trivial⟩ trivial) Tryz.func75 (by kernel_rfl) (by kernel_rfl) (by kernel_rfl)
  (by rw[show loopsOf (bodyOf Tryz.f75)=[] from by kernel_rfl];exact trivial) (fun x=>ef_I_linesOf x.1)
noncomputable def pl_internal_stringslite_HasPrefix:Plan:=⟨[],[],0,0⟩
noncomputable def f_internal_stringslite_HasPrefix (t0:PV .str)(t1:PV .str):Option (PVs [.bool]×PVs []):=bif (decide ((t0.length:Int)≥(t1.length:Int))) then bif cutB 0 (t1.length:Int) t0.length then some ((((cutL 0 (t1.length:Int) t0)==t1),()),()) else none else some ((false,()),())
noncomputable def ct_internal_stringslite_HasPrefix:Ct:=⟨[(.bor,.str),(.bor,.str)],[(.bool,.b)],fun x=>f_internal_stringslite_HasPrefix x.1 x.2.1⟩
noncomputable def cx_internal_stringslite_HasPrefix:Cx:=⟨tab,arrs,[],[],gl,[]⟩
theorem ef_internal_stringslite_HasPrefix (t0:PV .str)(t1:PV .str):denF cx_internal_stringslite_HasPrefix 0 pl_internal_stringslite_HasPrefix Tryz.f255.ntmps (bodyOf Tryz.f255) Tryz.f255.results.toList [(.bor,.str),(.bor,.str)] [(.bool,.b)] (t0,t1,())=f_internal_stringslite_HasPrefix t0 t1:=by kernel_rfl
theorem ok_internal_stringslite_HasPrefix:FnOk gl Tryz.prog 255 ct_internal_stringslite_HasPrefix:=
 fnOk (cx:=cx_internal_stringslite_HasPrefix) (pl:=pl_internal_stringslite_HasPrefix) (dp:=0) (ok0_of tabOk (by unfold ArrOk;kernel_rfl) mix trivial trivial) Tryz.func255 (by kernel_rfl) (by kernel_rfl) (by kernel_rfl)
  (by rw[show loopsOf (bodyOf Tryz.f255)=[] from by kernel_rfl];exact trivial) (fun x=>ef_internal_stringslite_HasPrefix x.1 x.2.1)
noncomputable def pl_internal_stringslite_CutPrefix:Plan:=⟨[],[],0,0⟩
noncomputable def f_internal_stringslite_CutPrefix (t0:PV .str)(t1:PV .str):Option (PVs [.str,.bool]×PVs []):=(f_internal_stringslite_HasPrefix t0 t1).bind fun r4=>bif (!r4.1.1) then some ((t0,false,()),()) else bif cutB (t1.length:Int) (t0.length:Int) t0.length then some (((cutL (t1.length:Int) (t0.length:Int) t0),true,()),()) else none
noncomputable def ct_internal_stringslite_CutPrefix:Ct:=⟨[(.bor,.str),(.bor,.str)],[(.str,.b),(.bool,.b)],fun x=>f_internal_stringslite_CutPrefix x.1 x.2.1⟩
noncomputable def cx_internal_stringslite_CutPrefix:Cx:=⟨tab,arrs,[(255,ct_internal_stringslite_HasPrefix)],[],gl,[]⟩
theorem ef_internal_stringslite_CutPrefix (t0:PV .str)(t1:PV .str):denF cx_internal_stringslite_CutPrefix 0 pl_internal_stringslite_CutPrefix Tryz.f260.ntmps (bodyOf Tryz.f260) Tryz.f260.results.toList [(.bor,.str),(.bor,.str)] [(.str,.b),(.bool,.b)] (t0,t1,())=f_internal_stringslite_CutPrefix t0 t1:=by kernel_rfl
theorem ok_internal_stringslite_CutPrefix:FnOk gl Tryz.prog 260 ct_internal_stringslite_CutPrefix:=
 fnOk (cx:=cx_internal_stringslite_CutPrefix) (pl:=pl_internal_stringslite_CutPrefix) (dp:=0) (ok0_of tabOk (by unfold ArrOk;kernel_rfl) mix ⟨ok_internal_stringslite_HasPrefix,trivial⟩ trivial) Tryz.func260 (by kernel_rfl) (by kernel_rfl) (by kernel_rfl)
  (by rw[show loopsOf (bodyOf Tryz.f260)=[] from by kernel_rfl];exact trivial) (fun x=>ef_internal_stringslite_CutPrefix x.1 x.2.1)
noncomputable def pl_strings_CutPrefix:Plan:=⟨[],[],0,0⟩
noncomputable def f_strings_CutPrefix (t0:PV .str)(t1:PV .str):Option (PVs [.str,.bool]×PVs []):=(f_internal_stringslite_CutPrefix t0 t1).bind fun r1=>some ((r1.1.1,r1.1.2.1,()),())
noncomputable def ct_strings_CutPrefix:Ct:=⟨[(.bor,.str),(.bor,.str)],[(.str,.b),(.bool,.b)],fun x=>f_strings_CutPrefix x.1 x.2.1⟩
noncomputable def cx_strings_CutPrefix:Cx:=⟨tab,arrs,[(260,ct_internal_stringslite_CutPrefix)],[],gl,[]⟩
theorem ef_strings_CutPrefix (t0:PV .str)(t1:PV .str):denF cx_strings_CutPrefix 0 pl_strings_CutPrefix Tryz.f218.ntmps (bodyOf Tryz.f218) Tryz.f218.results.toList [(.bor,.str),(.bor,.str)] [(.str,.b),(.bool,.b)] (t0,t1,())=f_strings_CutPrefix t0 t1:=by kernel_rfl
theorem ok_strings_CutPrefix:FnOk gl Tryz.prog 218 ct_strings_CutPrefix:=
 fnOk (cx:=cx_strings_CutPrefix) (pl:=pl_strings_CutPrefix) (dp:=0) (ok0_of tabOk (by unfold ArrOk;kernel_rfl) mix ⟨ok_internal_stringslite_CutPrefix,trivial⟩ trivial) Tryz.func218 (by kernel_rfl) (by kernel_rfl) (by kernel_rfl)
  (by rw[show loopsOf (bodyOf Tryz.f218)=[] from by kernel_rfl];exact trivial) (fun x=>ef_strings_CutPrefix x.1 x.2.1)
noncomputable def pl_internal_stringslite_CutSuffix:Plan:=⟨[],[],0,0⟩
noncomputable def f_internal_stringslite_CutSuffix (t0:PV .str)(t1:PV .str):Option (PVs [.str,.bool]×PVs []):=(f_internal_stringslite_HasSuffix t0 t1).bind fun r4=>bif (!r4.1.1) then some ((t0,false,()),()) else bif cutB 0 (IntKind.wrap .i64 ((t0.length:Int) -(t1.length:Int))) t0.length then some (((cutL 0 (IntKind.wrap .i64 ((t0.length:Int) -(t1.length:Int))) t0),true,()),()) else none
noncomputable def ct_internal_stringslite_CutSuffix:Ct:=⟨[(.bor,.str),(.bor,.str)],[(.str,.b),(.bool,.b)],fun x=>f_internal_stringslite_CutSuffix x.1 x.2.1⟩
noncomputable def cx_internal_stringslite_CutSuffix:Cx:=⟨tab,arrs,[(265,ct_internal_stringslite_HasSuffix)],[],gl,[]⟩
theorem ef_internal_stringslite_CutSuffix (t0:PV .str)(t1:PV .str):denF cx_internal_stringslite_CutSuffix 0 pl_internal_stringslite_CutSuffix Tryz.f261.ntmps (bodyOf Tryz.f261) Tryz.f261.results.toList [(.bor,.str),(.bor,.str)] [(.str,.b),(.bool,.b)] (t0,t1,())=f_internal_stringslite_CutSuffix t0 t1:=by kernel_rfl
theorem ok_internal_stringslite_CutSuffix:FnOk gl Tryz.prog 261 ct_internal_stringslite_CutSuffix:=
 fnOk (cx:=cx_internal_stringslite_CutSuffix) (pl:=pl_internal_stringslite_CutSuffix) (dp:=0) (ok0_of tabOk (by unfold ArrOk;kernel_rfl) mix ⟨ok_internal_stringslite_HasSuffix,trivial⟩ trivial) Tryz.func261 (by kernel_rfl) (by kernel_rfl) (by kernel_rfl)
  (by rw[show loopsOf (bodyOf Tryz.f261)=[] from by kernel_rfl];exact trivial) (fun x=>ef_internal_stringslite_CutSuffix x.1 x.2.1)
noncomputable def pl_strings_CutSuffix:Plan:=⟨[],[],0,0⟩
noncomputable def f_strings_CutSuffix (t0:PV .str)(t1:PV .str):Option (PVs [.str,.bool]×PVs []):=(f_internal_stringslite_CutSuffix t0 t1).bind fun r1=>some ((r1.1.1,r1.1.2.1,()),())
noncomputable def ct_strings_CutSuffix:Ct:=⟨[(.bor,.str),(.bor,.str)],[(.str,.b),(.bool,.b)],fun x=>f_strings_CutSuffix x.1 x.2.1⟩
noncomputable def cx_strings_CutSuffix:Cx:=⟨tab,arrs,[(261,ct_internal_stringslite_CutSuffix)],[],gl,[]⟩
theorem ef_strings_CutSuffix (t0:PV .str)(t1:PV .str):denF cx_strings_CutSuffix 0 pl_strings_CutSuffix Tryz.f219.ntmps (bodyOf Tryz.f219) Tryz.f219.results.toList [(.bor,.str),(.bor,.str)] [(.str,.b),(.bool,.b)] (t0,t1,())=f_strings_CutSuffix t0 t1:=by kernel_rfl
theorem ok_strings_CutSuffix:FnOk gl Tryz.prog 219 ct_strings_CutSuffix:=
 fnOk (cx:=cx_strings_CutSuffix) (pl:=pl_strings_CutSuffix) (dp:=0) (ok0_of tabOk (by unfold ArrOk;kernel_rfl) mix ⟨ok_internal_stringslite_CutSuffix,trivial⟩ trivial) Tryz.func219 (by kernel_rfl) (by kernel_rfl) (by kernel_rfl)
  (by rw[show loopsOf (bodyOf Tryz.f219)=[] from by kernel_rfl];exact trivial) (fun x=>ef_strings_CutSuffix x.1 x.2.1)
noncomputable def pl_internal_stringslite_Cut:Plan:=⟨[],[],0,0⟩
noncomputable def f_internal_stringslite_Cut (t0:PV .str)(t1:PV .str):Option (PVs [.str,.str,.bool]×PVs []):=(f_internal_stringslite_Index t0 t1).bind fun r4=>bif (decide (r4.1.1≥0)) then bif cutB 0 r4.1.1 t0.length then bif cutB (IntKind.wrap .i64 (r4.1.1+(t1.length:Int))) (t0.length:Int) t0.length then some (((cutL 0 r4.1.1 t0),(cutL (IntKind.wrap .i64 (r4.1.1+(t1.length:Int))) (t0.length:Int) t0),true,()),()) else none else none else some ((t0,[],false,()),())
noncomputable def ct_internal_stringslite_Cut:Ct:=⟨[(.bor,.str),(.bor,.str)],[(.str,.b),(.str,.b),(.bool,.b)],fun x=>f_internal_stringslite_Cut x.1 x.2.1⟩
noncomputable def cx_internal_stringslite_Cut:Cx:=⟨tab,arrs,[(277,ct_internal_stringslite_Index)],[],gl,[]⟩
theorem ef_internal_stringslite_Cut (t0:PV .str)(t1:PV .str):denF cx_internal_stringslite_Cut 0 pl_internal_stringslite_Cut Tryz.f253.ntmps (bodyOf Tryz.f253) Tryz.f253.results.toList [(.bor,.str),(.bor,.str)] [(.str,.b),(.str,.b),(.bool,.b)] (t0,t1,())=f_internal_stringslite_Cut t0 t1:=by kernel_rfl
theorem ok_internal_stringslite_Cut:FnOk gl Tryz.prog 253 ct_internal_stringslite_Cut:=
 fnOk (cx:=cx_internal_stringslite_Cut) (pl:=pl_internal_stringslite_Cut) (dp:=0) (ok0_of tabOk (by unfold ArrOk;kernel_rfl) mix ⟨ok_internal_stringslite_Index,trivial⟩ trivial) Tryz.func253 (by kernel_rfl) (by kernel_rfl) (by kernel_rfl)
  (by rw[show loopsOf (bodyOf Tryz.f253)=[] from by kernel_rfl];exact trivial) (fun x=>ef_internal_stringslite_Cut x.1 x.2.1)
noncomputable def pl_strings_Cut:Plan:=⟨[],[],0,0⟩
noncomputable def f_strings_Cut (t0:PV .str)(t1:PV .str):Option (PVs [.str,.str,.bool]×PVs []):=(f_internal_stringslite_Cut t0 t1).bind fun r1=>some ((r1.1.1,r1.1.2.1,r1.1.2.2.1,()),())
noncomputable def ct_strings_Cut:Ct:=⟨[(.bor,.str),(.bor,.str)],[(.str,.b),(.str,.b),(.bool,.b)],fun x=>f_strings_Cut x.1 x.2.1⟩
noncomputable def cx_strings_Cut:Cx:=⟨tab,arrs,[(253,ct_internal_stringslite_Cut)],[],gl,[]⟩
theorem ef_strings_Cut (t0:PV .str)(t1:PV .str):denF cx_strings_Cut 0 pl_strings_Cut Tryz.f211.ntmps (bodyOf Tryz.f211) Tryz.f211.results.toList [(.bor,.str),(.bor,.str)] [(.str,.b),(.str,.b),(.bool,.b)] (t0,t1,())=f_strings_Cut t0 t1:=by kernel_rfl
theorem ok_strings_Cut:FnOk gl Tryz.prog 211 ct_strings_Cut:=
 fnOk (cx:=cx_strings_Cut) (pl:=pl_strings_Cut) (dp:=0) (ok0_of tabOk (by unfold ArrOk;kernel_rfl) mix ⟨ok_internal_stringslite_Cut,trivial⟩ trivial) Tryz.func211 (by kernel_rfl) (by kernel_rfl) (by kernel_rfl)
  (by rw[show loopsOf (bodyOf Tryz.f211)=[] from by kernel_rfl];exact trivial) (fun x=>ef_strings_Cut x.1 x.2.1)
noncomputable def pl_I_readTwo:Plan:=⟨[],[],0,0⟩
noncomputable def f_I_readTwo (t0:PV .str):Option (PVs [(.int .i64),(.int .i64),.bool,.bool]×PVs []):=(f_strings_Cut t0 [44]).bind fun r2=>(f_I_readNumber r2.1.1).bind fun r4=>bif (!r2.1.2.2.1) then some ((r4.1.1,r4.1.1,false,r4.1.2.1,()),()) else(f_I_readNumber r2.1.2.1).bind fun r6=>bif r4.1.2.1 then some ((r4.1.1,r6.1.1,true,r6.1.2.1,()),()) else some ((r4.1.1,r6.1.1,true,false,()),())
noncomputable def ct_I_readTwo:Ct:=⟨[(.bor,.str)],[((.int .i64),.b),((.int .i64),.b),(.bool,.b),(.bool,.b)],fun x=>f_I_readTwo x.1⟩
noncomputable def cx_I_readTwo:Cx:=⟨tab,arrs,[(211,ct_strings_Cut),(212,ct_I_readNumber)],[],gl,[]⟩
theorem ef_I_readTwo (t0:PV .str):denF cx_I_readTwo 0 pl_I_readTwo Tryz.f143.ntmps (bodyOf Tryz.f143) Tryz.f143.results.toList [(.bor,.str)] [((.int .i64),.b),((.int .i64),.b),(.bool,.b),(.bool,.b)] (t0,())=f_I_readTwo t0:=by kernel_rfl
theorem ok_I_readTwo:FnOk gl Tryz.prog 143 ct_I_readTwo:=
 fnOk (cx:=cx_I_readTwo) (pl:=pl_I_readTwo) (dp:=0) (ok0_of tabOk (by unfold ArrOk;kernel_rfl) mix ⟨ok_strings_Cut,ok_I_readNumber,trivial⟩ trivial) Tryz.func143 (by kernel_rfl) (by kernel_rfl) (by kernel_rfl)
  (by rw[show loopsOf (bodyOf Tryz.f143)=[] from by kernel_rfl];exact trivial) (fun x=>ef_I_readTwo x.1)
noncomputable def o_I_readEnds_3:List Out:=[⟨.normal,⟨[],[7,8,35],[]⟩,mkSh 38 [(7,.val (.int .i64) .b),(8,.val (.int .i64) .b),(35,.val .bool .b)]⟩]
noncomputable def pl_I_readEnds:Plan:=⟨[(3,o_I_readEnds_3)],[],0,0⟩
noncomputable def f_I_readEnds (t0:PV .str)(t1:PV (.int .i64)):Option (PVs [(.int .i64),(.int .i64),.bool]×PVs []):=(f_I_readTwo t0).bind fun r2=>((bif (!r2.1.2.2.2.1) then some (r2.1.1,r2.1.2.1,true,()) else bif (decide ((bif decide (r2.1.2.1>r2.1.1) then r2.1.2.1 else r2.1.1)>1000)) then some (r2.1.1,r2.1.2.1,true,()) else bif r2.1.2.2.1 then some (r2.1.1,r2.1.2.1,(decide (r2.1.1>(IntKind.wrap .i64 (r2.1.2.1+t1)))),()) else some (r2.1.1,r2.1.2.1,false,()):Option ((PV (.int .i64)×PV (.int .i64)×PV .bool×Unit)))).bind fun j4=>bif j4.2.2.1 then some ((0,0,false,()),()) else some ((j4.1,j4.2.1,true,()),())
noncomputable def ct_I_readEnds:Ct:=⟨[(.bor,.str),(.bor,(.int .i64))],[((.int .i64),.b),((.int .i64),.b),(.bool,.b)],fun x=>f_I_readEnds x.1 x.2.1⟩
noncomputable def cx_I_readEnds:Cx:=⟨tab,arrs,[(143,ct_I_readTwo)],[],gl,[]⟩
theorem ef_I_readEnds (t0:PV .str)(t1:PV (.int .i64)):denF cx_I_readEnds 0 pl_I_readEnds Tryz.f267.ntmps (bodyOf Tryz.f267) Tryz.f267.results.toList [(.bor,.str),(.bor,(.int .i64))] [((.int .i64),.b),((.int .i64),.b),(.bool,.b)] (t0,t1,())=f_I_readEnds t0 t1:=by kernel_rfl
theorem ok_I_readEnds:FnOk gl Tryz.prog 267 ct_I_readEnds:=
 fnOk (cx:=cx_I_readEnds) (pl:=pl_I_readEnds) (dp:=0) (ok0_of tabOk (by unfold ArrOk;kernel_rfl) mix ⟨ok_I_readTwo,trivial⟩ trivial) Tryz.func267 (by kernel_rfl) (by kernel_rfl) (by kernel_rfl)
  (by rw[show loopsOf (bodyOf Tryz.f267)=[] from by kernel_rfl];exact trivial) (fun x=>ef_I_readEnds x.1 x.2.1)
noncomputable def pl_I_ReadEnd:Plan:=⟨[],[],0,0⟩
noncomputable def f_I_ReadEnd (t0:PV .str):Option (PVs [(.int .i64),(.int .i64),.bool]×PVs []):=(f_I_readEnds t0 1).bind fun r1=>some ((r1.1.1,r1.1.2.1,r1.1.2.2.1,()),())
noncomputable def ct_I_ReadEnd:Ct:=⟨[(.bor,.str)],[((.int .i64),.b),((.int .i64),.b),(.bool,.b)],fun x=>f_I_ReadEnd x.1⟩
noncomputable def cx_I_ReadEnd:Cx:=⟨tab,arrs,[(267,ct_I_readEnds)],[],gl,[]⟩
theorem ef_I_ReadEnd (t0:PV .str):denF cx_I_ReadEnd 0 pl_I_ReadEnd Tryz.f232.ntmps (bodyOf Tryz.f232) Tryz.f232.results.toList [(.bor,.str)] [((.int .i64),.b),((.int .i64),.b),(.bool,.b)] (t0,())=f_I_ReadEnd t0:=by kernel_rfl
theorem ok_I_ReadEnd:FnOk gl Tryz.prog 232 ct_I_ReadEnd:=
 fnOk (cx:=cx_I_ReadEnd) (pl:=pl_I_ReadEnd) (dp:=0) (ok0_of tabOk (by unfold ArrOk;kernel_rfl) mix ⟨ok_I_readEnds,trivial⟩ trivial) Tryz.func232 (by kernel_rfl) (by kernel_rfl) (by kernel_rfl)
  (by rw[show loopsOf (bodyOf Tryz.f232)=[] from by kernel_rfl];exact trivial) (fun x=>ef_I_ReadEnd x.1)
end R
