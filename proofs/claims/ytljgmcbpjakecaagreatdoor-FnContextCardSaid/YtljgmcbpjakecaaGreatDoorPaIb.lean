/- The functions, part 3. -/
import Derived.Test.YtljgmcbpjakecaaGreatDoorPaIb2
open Go Go.Dn Go.Proofs
namespace R
set_option linter.unusedVariables false
set_option maxRecDepth 20000
open Go.Shelf
noncomputable def pl_I_readHead:Plan:=⟨[],[],0,0⟩
noncomputable def f_I_readHead (t0:PV S_string)(t1:PV .str)(t2:PV .str):Option (PVs [(.int .i64),S_string,.bool]×PVs []):=bif ((t0.length:Int)==0) then some ((0,[],false,()),()) else bif inB 0 t0.length then(f_strings_CutPrefix (t0.getD ((0:Int).toNat) []) t1).bind fun r2=>(f_strings_CutSuffix r2.1.1 t2).bind fun r4=>(f_I_ReadEnd r4.1.1).bind fun r6=>bif cutB 1 (t0.length:Int) t0.length then bif r2.1.2.1 then bif r4.1.2.1 then some ((r6.1.1,(cutL 1 (t0.length:Int) t0),r6.1.2.2.1,()),()) else some ((r6.1.1,(cutL 1 (t0.length:Int) t0),false,()),()) else some ((r6.1.1,(cutL 1 (t0.length:Int) t0),false,()),()) else none else none
noncomputable def ct_I_readHead:Ct:=⟨[(.bor,S_string),(.bor,.str),(.bor,.str)],[((.int .i64),.b),(S_string,.b),(.bool,.b)],fun x=>f_I_readHead x.1 x.2.1 x.2.2.1⟩
noncomputable def cx_I_readHead:Cx:=⟨tab,arrs,[(218,ct_strings_CutPrefix),(219,ct_strings_CutSuffix),(232,ct_I_ReadEnd)],[],gl,[]⟩
theorem ef_I_readHead (t0:PV S_string)(t1:PV .str)(t2:PV .str):denF cx_I_readHead 0 pl_I_readHead Tryz.f170.ntmps (bodyOf Tryz.f170) Tryz.f170.results.toList [(.bor,S_string),(.bor,.str),(.bor,.str)] [((.int .i64),.b),(S_string,.b),(.bool,.b)] (t0,t1,t2,())=f_I_readHead t0 t1 t2:=by kernel_rfl
theorem ok_I_readHead:FnOk gl Tryz.prog 170 ct_I_readHead:=
 fnOk (cx:=cx_I_readHead) (pl:=pl_I_readHead) (dp:=0) (ok0_of tabOk (by unfold ArrOk;kernel_rfl) mix ⟨ok_strings_CutPrefix,ok_strings_CutSuffix,ok_I_ReadEnd,trivial⟩ trivial) Tryz.func170 (by kernel_rfl) (by kernel_rfl) (by kernel_rfl)
  (by rw[show loopsOf (bodyOf Tryz.f170)=[] from by kernel_rfl];exact trivial) (fun x=>ef_I_readHead x.1 x.2.1 x.2.2.1)
noncomputable def pl_internal_stringslite_TrimSuffix:Plan:=⟨[],[],0,0⟩
noncomputable def f_internal_stringslite_TrimSuffix (t0:PV .str)(t1:PV .str):Option (PVs [.str]×PVs []):=(f_internal_stringslite_HasSuffix t0 t1).bind fun r4=>bif r4.1.1 then bif cutB 0 (IntKind.wrap .i64 ((t0.length:Int) -(t1.length:Int))) t0.length then some (((cutL 0 (IntKind.wrap .i64 ((t0.length:Int) -(t1.length:Int))) t0),()),()) else none else some ((t0,()),())
noncomputable def ct_internal_stringslite_TrimSuffix:Ct:=⟨[(.bor,.str),(.bor,.str)],[(.str,.b)],fun x=>f_internal_stringslite_TrimSuffix x.1 x.2.1⟩
noncomputable def cx_internal_stringslite_TrimSuffix:Cx:=⟨tab,arrs,[(265,ct_internal_stringslite_HasSuffix)],[],gl,[]⟩
theorem ef_internal_stringslite_TrimSuffix (t0:PV .str)(t1:PV .str):denF cx_internal_stringslite_TrimSuffix 0 pl_internal_stringslite_TrimSuffix Tryz.f249.ntmps (bodyOf Tryz.f249) Tryz.f249.results.toList [(.bor,.str),(.bor,.str)] [(.str,.b)] (t0,t1,())=f_internal_stringslite_TrimSuffix t0 t1:=by kernel_rfl
theorem ok_internal_stringslite_TrimSuffix:FnOk gl Tryz.prog 249 ct_internal_stringslite_TrimSuffix:=
 fnOk (cx:=cx_internal_stringslite_TrimSuffix) (pl:=pl_internal_stringslite_TrimSuffix) (dp:=0) (ok0_of tabOk (by unfold ArrOk;kernel_rfl) mix ⟨ok_internal_stringslite_HasSuffix,trivial⟩ trivial) Tryz.func249 (by kernel_rfl) (by kernel_rfl) (by kernel_rfl)
  (by rw[show loopsOf (bodyOf Tryz.f249)=[] from by kernel_rfl];exact trivial) (fun x=>ef_internal_stringslite_TrimSuffix x.1 x.2.1)
noncomputable def pl_strings_TrimSuffix:Plan:=⟨[],[],0,0⟩
noncomputable def f_strings_TrimSuffix (t0:PV .str)(t1:PV .str):Option (PVs [.str]×PVs []):=(f_internal_stringslite_TrimSuffix t0 t1).bind fun r1=>some ((r1.1.1,()),())
noncomputable def ct_strings_TrimSuffix:Ct:=⟨[(.bor,.str),(.bor,.str)],[(.str,.b)],fun x=>f_strings_TrimSuffix x.1 x.2.1⟩
noncomputable def cx_strings_TrimSuffix:Cx:=⟨tab,arrs,[(249,ct_internal_stringslite_TrimSuffix)],[],gl,[]⟩
theorem ef_strings_TrimSuffix (t0:PV .str)(t1:PV .str):denF cx_strings_TrimSuffix 0 pl_strings_TrimSuffix Tryz.f206.ntmps (bodyOf Tryz.f206) Tryz.f206.results.toList [(.bor,.str),(.bor,.str)] [(.str,.b)] (t0,t1,())=f_strings_TrimSuffix t0 t1:=by kernel_rfl
theorem ok_strings_TrimSuffix:FnOk gl Tryz.prog 206 ct_strings_TrimSuffix:=
 fnOk (cx:=cx_strings_TrimSuffix) (pl:=pl_strings_TrimSuffix) (dp:=0) (ok0_of tabOk (by unfold ArrOk;kernel_rfl) mix ⟨ok_internal_stringslite_TrimSuffix,trivial⟩ trivial) Tryz.func206 (by kernel_rfl) (by kernel_rfl) (by kernel_rfl)
  (by rw[show loopsOf (bodyOf Tryz.f206)=[] from by kernel_rfl];exact trivial) (fun x=>ef_strings_TrimSuffix x.1 x.2.1)
noncomputable def pl_I_plain:Plan:=⟨[],[],0,0⟩
noncomputable def f_I_plain (t0:PV .str):Option (PVs [.str]×PVs []):=(f_strings_TrimSuffix t0 [10]).bind fun r1=>some ((r1.1.1,()),())
noncomputable def ct_I_plain:Ct:=⟨[(.bor,.str)],[(.str,.b)],fun x=>f_I_plain x.1⟩
noncomputable def cx_I_plain:Cx:=⟨tab,arrs,[(206,ct_strings_TrimSuffix)],[],gl,[]⟩
theorem ef_I_plain (t0:PV .str):denF cx_I_plain 0 pl_I_plain Tryz.f141.ntmps (bodyOf Tryz.f141) Tryz.f141.results.toList [(.bor,.str)] [(.str,.b)] (t0,())=f_I_plain t0:=by kernel_rfl
theorem ok_I_plain:FnOk gl Tryz.prog 141 ct_I_plain:=
 fnOk (cx:=cx_I_plain) (pl:=pl_I_plain) (dp:=0) (ok0_of tabOk (by unfold ArrOk;kernel_rfl) mix ⟨ok_strings_TrimSuffix,trivial⟩ trivial) Tryz.func141 (by kernel_rfl) (by kernel_rfl) (by kernel_rfl)
  (by rw[show loopsOf (bodyOf Tryz.f141)=[] from by kernel_rfl];exact trivial) (fun x=>ef_I_plain x.1)
noncomputable def o_I_takeHalf_6:List Out:=[⟨.normal,⟨[(9,.b)],[0,1,2,8,9,15,16,17,18,19,22,23,24,25,26,29,30,31,32,33,34,35,55,56,57,58],[]⟩,mkSh 72 [(0,.val S_string .b),(1,.val .str .b),(2,.val (.int .i64) .b),(8,.val S_impl_Row (.row (.pr .b (.pr .b .b)))),(9,.var Y_impl_Row .b),(15,.val S_string .b),(16,.bad .str),(17,.val .str .b),(18,.val (.int .i64) .b),(19,.val .bool .b),(22,.val S_string .b),(23,.bad .str),(24,.val .str .b),(25,.val (.int .u8) .b),(26,.val .bool .b),(29,.val .str .b),(30,.val .str .b),(31,.val S_string .b),(32,.bad .str),(33,.val .str .b),(34,.val .str .b),(35,.val .bool .b)]⟩]
noncomputable def o_I_takeHalf_8:List Out:=[⟨.normal,⟨[],[0,1,2,8,9,15,16,17,18,19,22,23,24,25,26,29,30,31,32,33,34,35,59],[]⟩,mkSh 72 [(0,.val S_string .b),(1,.val .str .b),(2,.val (.int .i64) .b),(8,.val S_impl_Row (.row (.pr .b (.pr .b .b)))),(9,.var Y_impl_Row .b),(15,.val S_string .b),(16,.bad .str),(17,.val .str .b),(18,.val (.int .i64) .b),(19,.val .bool .b),(22,.val S_string .b),(23,.bad .str),(24,.val .str .b),(25,.val (.int .u8) .b),(26,.val .bool .b),(29,.val .str .b),(30,.val .str .b),(31,.val S_string .b),(32,.bad .str),(33,.val .str .b),(34,.val .str .b),(35,.val .bool .b),(59,.val .bool .b)]⟩]
noncomputable def o_I_takeHalf_9:List Out:=[⟨.normal,⟨[(9,.b)],[0,1,2,8,9,15,16,17,18,19,22,23,24,25,26,29,30,31,32,33,34,35,55,56,57,58],[]⟩,mkSh 72 [(0,.val S_string .b),(1,.val .str .b),(2,.val (.int .i64) .b),(8,.val S_impl_Row (.row (.pr .b (.pr .b .b)))),(9,.var Y_impl_Row .b),(15,.val S_string .b),(16,.bad .str),(17,.val .str .b),(18,.val (.int .i64) .b),(19,.val .bool .b),(22,.val S_string .b),(23,.bad .str),(24,.val .str .b),(25,.val (.int .u8) .b),(26,.val .bool .b),(29,.val .str .b),(30,.val .str .b),(31,.val S_string .b),(32,.bad .str),(33,.val .str .b),(34,.val .str .b),(35,.val .bool .b)]⟩]
noncomputable def sh_I_takeHalf_2:List Sh:=mkSh 72 [(0,.val S_string .b),(1,.val .str .b),(2,.val (.int .i64) .b),(8,.val S_impl_Row (.row (.pr .b (.pr .b .b))))]
noncomputable def o_I_takeHalf_2:List Out:=[⟨.exit 0,⟨[],[0,8],[]⟩,mkSh 72 [(0,.val S_string .b),(8,.val S_impl_Row (.row (.pr .b (.pr .b .b))))]⟩]
noncomputable def b_I_takeHalf_2 (t0:PV S_string)(t1:PV .str)(t2:PV (.int .i64))(t8:PV S_impl_Row):Option ((PV S_string×PV .str×PV (.int .i64)×PV S_impl_Row×Unit)⊕((PV S_string×PV S_impl_Row×Unit))):=bif (decide ((t0.length:Int)>0)) then bif inB 0 t0.length then bif (decide (((t0.getD ((0:Int).toNat) []).length:Int)>1)) then bif inB 0 t0.length then bif inB 1 (t0.getD ((0:Int).toNat) []).length then bif ((((t0.getD ((0:Int).toNat) []).getD (1:Int).toNat 0).toNat:Int)==32) then bif decide ([32,33].length+t1.length≤1099511627776) then bif inB 0 t0.length then bif cutB 0 1 (t0.getD ((0:Int).toNat) []).length then(f_strings_Contains ([32,33]++t1) (cutL 0 1 (t0.getD ((0:Int).toNat) []))).bind fun r10=>bif r10.1.1 then bif inB 0 t0.length then bif cutB 2 ((t0.getD ((0:Int).toNat) []).length:Int) (t0.getD ((0:Int).toNat) []).length then((bif inB 0 t0.length then bif inB 0 (t0.getD ((0:Int).toNat) []).length then bif ((((t0.getD ((0:Int).toNat) []).getD (0:Int).toNat 0).toNat:Int)==32) then some (t0,t1,t2,t8,(1,((cutL 2 ((t0.getD ((0:Int).toNat) []).length:Int) (t0.getD ((0:Int).toNat) [])),())),t0,(t0.getD ((0:Int).toNat) []),(t0.getD ((0:Int).toNat) []),((t0.getD ((0:Int).toNat) []).length:Int),(decide (((t0.getD ((0:Int).toNat) []).length:Int)>1)),t0,(t0.getD ((0:Int).toNat) []),(t0.getD ((0:Int).toNat) []),(((t0.getD ((0:Int).toNat) []).getD (1:Int).toNat 0).toNat:Int),((((t0.getD ((0:Int).toNat) []).getD (1:Int).toNat 0).toNat:Int)==32),t1,([32,33]++t1),t0,(t0.getD ((0:Int).toNat) []),(t0.getD ((0:Int).toNat) []),(cutL 0 1 (t0.getD ((0:Int).toNat) [])),r10.1.1,()) else some (t0,t1,t2,t8,(t2,((cutL 2 ((t0.getD ((0:Int).toNat) []).length:Int) (t0.getD ((0:Int).toNat) [])),())),t0,(t0.getD ((0:Int).toNat) []),(t0.getD ((0:Int).toNat) []),((t0.getD ((0:Int).toNat) []).length:Int),(decide (((t0.getD ((0:Int).toNat) []).length:Int)>1)),t0,(t0.getD ((0:Int).toNat) []),(t0.getD ((0:Int).toNat) []),(((t0.getD ((0:Int).toNat) []).getD (1:Int).toNat 0).toNat:Int),((((t0.getD ((0:Int).toNat) []).getD (1:Int).toNat 0).toNat:Int)==32),t1,([32,33]++t1),t0,(t0.getD ((0:Int).toNat) []),(t0.getD ((0:Int).toNat) []),(cutL 0 1 (t0.getD ((0:Int).toNat) [])),r10.1.1,()) else none else none:Option ((PV S_string×PV .str×PV (.int .i64)×PV S_impl_Row×PV Y_impl_Row×PV S_string×PV .str×PV .str×PV (.int .i64)×PV .bool×PV S_string×PV .str×PV .str×PV (.int .u8)×PV .bool×PV .str×PV .str×PV S_string×PV .str×PV .str×PV .str×PV .bool×Unit)))).bind fun j11=>bif cutB 1 (j11.1.length:Int) j11.1.length then((((bif (decide (((cutL 1 (j11.1.length:Int) j11.1).length:Int)>0)) then bif inB 0 (cutL 1 (j11.1.length:Int) j11.1).length then some ((cutL 1 (j11.1.length:Int) j11.1),j11.2.1,j11.2.2.1,j11.2.2.2.1,j11.2.2.2.2.1,j11.2.2.2.2.2.1,j11.2.2.2.2.2.2.1,j11.2.2.2.2.2.2.2.1,j11.2.2.2.2.2.2.2.2.1,j11.2.2.2.2.2.2.2.2.2.1,j11.2.2.2.2.2.2.2.2.2.2.1,j11.2.2.2.2.2.2.2.2.2.2.2.1,j11.2.2.2.2.2.2.2.2.2.2.2.2.1,j11.2.2.2.2.2.2.2.2.2.2.2.2.2.1,j11.2.2.2.2.2.2.2.2.2.2.2.2.2.2.1,j11.2.2.2.2.2.2.2.2.2.2.2.2.2.2.2.1,j11.2.2.2.2.2.2.2.2.2.2.2.2.2.2.2.2.1,j11.2.2.2.2.2.2.2.2.2.2.2.2.2.2.2.2.2.1,j11.2.2.2.2.2.2.2.2.2.2.2.2.2.2.2.2.2.2.1,j11.2.2.2.2.2.2.2.2.2.2.2.2.2.2.2.2.2.2.2.1,j11.2.2.2.2.2.2.2.2.2.2.2.2.2.2.2.2.2.2.2.2.1,j11.2.2.2.2.2.2.2.2.2.2.2.2.2.2.2.2.2.2.2.2.2.1,(((cutL 1 (j11.1.length:Int) j11.1).getD ((0:Int).toNat) [])==[92,32,110,111,110,101,10]),()) else none else some ((cutL 1 (j11.1.length:Int) j11.1),j11.2.1,j11.2.2.1,j11.2.2.2.1,j11.2.2.2.2.1,j11.2.2.2.2.2.1,j11.2.2.2.2.2.2.1,j11.2.2.2.2.2.2.2.1,j11.2.2.2.2.2.2.2.2.1,j11.2.2.2.2.2.2.2.2.2.1,j11.2.2.2.2.2.2.2.2.2.2.1,j11.2.2.2.2.2.2.2.2.2.2.2.1,j11.2.2.2.2.2.2.2.2.2.2.2.2.1,j11.2.2.2.2.2.2.2.2.2.2.2.2.2.1,j11.2.2.2.2.2.2.2.2.2.2.2.2.2.2.1,j11.2.2.2.2.2.2.2.2.2.2.2.2.2.2.2.1,j11.2.2.2.2.2.2.2.2.2.2.2.2.2.2.2.2.1,j11.2.2.2.2.2.2.2.2.2.2.2.2.2.2.2.2.2.1,j11.2.2.2.2.2.2.2.2.2.2.2.2.2.2.2.2.2.2.1,j11.2.2.2.2.2.2.2.2.2.2.2.2.2.2.2.2.2.2.2.1,j11.2.2.2.2.2.2.2.2.2.2.2.2.2.2.2.2.2.2.2.2.1,j11.2.2.2.2.2.2.2.2.2.2.2.2.2.2.2.2.2.2.2.2.2.1,false,()):Option ((PV S_string×PV .str×PV (.int .i64)×PV S_impl_Row×PV Y_impl_Row×PV S_string×PV .str×PV .str×PV (.int .i64)×PV .bool×PV S_string×PV .str×PV .str×PV (.int .u8)×PV .bool×PV .str×PV .str×PV S_string×PV .str×PV .str×PV .str×PV .bool×PV .bool×Unit)))).bind fun j12=>bif j12.2.2.2.2.2.2.2.2.2.2.2.2.2.2.2.2.2.2.2.2.2.2.1 then(f_I_plain j12.2.2.2.2.1.2.1).bind fun r13=>bif cutB 1 (j12.1.length:Int) j12.1.length then some ((cutL 1 (j12.1.length:Int) j12.1),j12.2.1,j12.2.2.1,j12.2.2.2.1,(j12.2.2.2.2.1.1,(r13.1.1,j12.2.2.2.2.1.2.2)),j12.2.2.2.2.2.1,j12.2.2.2.2.2.2.1,j12.2.2.2.2.2.2.2.1,j12.2.2.2.2.2.2.2.2.1,j12.2.2.2.2.2.2.2.2.2.1,j12.2.2.2.2.2.2.2.2.2.2.1,j12.2.2.2.2.2.2.2.2.2.2.2.1,j12.2.2.2.2.2.2.2.2.2.2.2.2.1,j12.2.2.2.2.2.2.2.2.2.2.2.2.2.1,j12.2.2.2.2.2.2.2.2.2.2.2.2.2.2.1,j12.2.2.2.2.2.2.2.2.2.2.2.2.2.2.2.1,j12.2.2.2.2.2.2.2.2.2.2.2.2.2.2.2.2.1,j12.2.2.2.2.2.2.2.2.2.2.2.2.2.2.2.2.2.1,j12.2.2.2.2.2.2.2.2.2.2.2.2.2.2.2.2.2.2.1,j12.2.2.2.2.2.2.2.2.2.2.2.2.2.2.2.2.2.2.2.1,j12.2.2.2.2.2.2.2.2.2.2.2.2.2.2.2.2.2.2.2.2.1,j12.2.2.2.2.2.2.2.2.2.2.2.2.2.2.2.2.2.2.2.2.2.1,()) else none else some (j12.1,j12.2.1,j12.2.2.1,j12.2.2.2.1,j12.2.2.2.2.1,j12.2.2.2.2.2.1,j12.2.2.2.2.2.2.1,j12.2.2.2.2.2.2.2.1,j12.2.2.2.2.2.2.2.2.1,j12.2.2.2.2.2.2.2.2.2.1,j12.2.2.2.2.2.2.2.2.2.2.1,j12.2.2.2.2.2.2.2.2.2.2.2.1,j12.2.2.2.2.2.2.2.2.2.2.2.2.1,j12.2.2.2.2.2.2.2.2.2.2.2.2.2.1,j12.2.2.2.2.2.2.2.2.2.2.2.2.2.2.1,j12.2.2.2.2.2.2.2.2.2.2.2.2.2.2.2.1,j12.2.2.2.2.2.2.2.2.2.2.2.2.2.2.2.2.1,j12.2.2.2.2.2.2.2.2.2.2.2.2.2.2.2.2.2.1,j12.2.2.2.2.2.2.2.2.2.2.2.2.2.2.2.2.2.2.1,j12.2.2.2.2.2.2.2.2.2.2.2.2.2.2.2.2.2.2.2.1,j12.2.2.2.2.2.2.2.2.2.2.2.2.2.2.2.2.2.2.2.2.1,j12.2.2.2.2.2.2.2.2.2.2.2.2.2.2.2.2.2.2.2.2.2.1,()):Option ((PV S_string×PV .str×PV (.int .i64)×PV S_impl_Row×PV Y_impl_Row×PV S_string×PV .str×PV .str×PV (.int .i64)×PV .bool×PV S_string×PV .str×PV .str×PV (.int .u8)×PV .bool×PV .str×PV .str×PV S_string×PV .str×PV .str×PV .str×PV .bool×Unit)))).bind fun j14=>bif roomB (j14.2.2.2.1.length+[j14.2.2.2.2.1].length) then some (.inl (j14.1,j14.2.1,j14.2.2.1,(j14.2.2.2.1++[j14.2.2.2.2.1]),())) else none else none else none else none else some (.inr (t0,t8,())) else none else none else none else some (.inr (t0,t8,())) else none else none else some (.inr (t0,t8,())) else none else some (.inr (t0,t8,()))
noncomputable def w_I_takeHalf_2:PV S_string×PV .str×PV (.int .i64)×PV S_impl_Row×Unit→Option ((PV S_string×PV S_impl_Row×Unit)):=fix fun d=>b_I_takeHalf_2 d.1 d.2.1 d.2.2.1 d.2.2.2.1
noncomputable def lp_I_takeHalf_2:Lp:=⟨⟨[],[0,1,2,8,55,56,57,58],[]⟩,sh_I_takeHalf_2,o_I_takeHalf_2,fun d=>b_I_takeHalf_2 d.1 d.2.1 d.2.2.1 d.2.2.2.1⟩
noncomputable def pl_I_takeHalf:Plan:=⟨[(6,o_I_takeHalf_6),(8,o_I_takeHalf_8),(9,o_I_takeHalf_9)],[(2,lp_I_takeHalf_2)],0,0⟩
noncomputable def f_I_takeHalf (t0:PV S_string)(t1:PV .str)(t2:PV (.int .i64)):Option (PVs [S_impl_Row,S_string]×PVs []):=(w_I_takeHalf_2 (t0,t1,t2,([]:PV S_impl_Row),())).bind fun l16=>some ((l16.2.1,l16.1,()),())
noncomputable def ct_I_takeHalf:Ct:=⟨[(.bor,S_string),(.bor,.str),(.bor,(.int .i64))],[(S_impl_Row,(.row (.pr .b (.pr .b .b)))),(S_string,.b)],fun x=>f_I_takeHalf x.1 x.2.1 x.2.2.1⟩
noncomputable def cx_I_takeHalf:Cx:=⟨tab,arrs,[(141,ct_I_plain),(233,ct_strings_Contains)],[],gl,[]⟩
theorem eb_I_takeHalf_2 (t0:PV S_string)(t1:PV .str)(t2:PV (.int .i64))(t8:PV S_impl_Row):denK cx_I_takeHalf (rcN cx_I_takeHalf 0) pl_I_takeHalf 0 ((loopsOf (bodyOf Tryz.f171)).getD 0 .skip) (fillS sh_I_takeHalf_2 (t0,t1,t2,t8,())) (roundK 0 lp_I_takeHalf_2)=b_I_takeHalf_2 t0 t1 t2 t8:=by kernel_rfl
theorem ef_I_takeHalf (t0:PV S_string)(t1:PV .str)(t2:PV (.int .i64)):denF cx_I_takeHalf 0 pl_I_takeHalf Tryz.f171.ntmps (bodyOf Tryz.f171) Tryz.f171.results.toList [(.bor,S_string),(.bor,.str),(.bor,(.int .i64))] [(S_impl_Row,(.row (.pr .b (.pr .b .b)))),(S_string,.b)] (t0,t1,t2,())=f_I_takeHalf t0 t1 t2:=by kernel_rfl
theorem ok_I_takeHalf:FnOk gl Tryz.prog 171 ct_I_takeHalf:=
 fnOk (cx:=cx_I_takeHalf) (pl:=pl_I_takeHalf) (dp:=0) (ok0_of tabOk (by unfold ArrOk;kernel_rfl) mix ⟨ok_I_plain,ok_strings_Contains,trivial⟩ trivial) Tryz.func171 (by kernel_rfl) (by kernel_rfl) (by kernel_rfl)
  (by rw[show loopsOf (bodyOf Tryz.f171)=[((loopsOf (bodyOf Tryz.f171)).getD 0 .skip)] from by kernel_rfl];exact⟨(by rw[show lookup pl_I_takeHalf.loops (firstId ((loopsOf (bodyOf Tryz.f171)).getD 0 .skip))=some lp_I_takeHalf_2 from by kernel_rfl];exact fun d z h=>(eb_I_takeHalf_2 d.1 d.2.1 d.2.2.1 d.2.2.2.1).trans h),trivial⟩) (fun x=>ef_I_takeHalf x.1 x.2.1 x.2.2.1)
noncomputable def o_I_merged_5:List Out:=[⟨.normal,⟨[],[0,1,5,13,37,38,39,40,41,56,57,58],[]⟩,mkSh 71 [(0,.val S_impl_Row .b),(1,.val S_impl_Row .b),(5,.val S_impl_Row (.row (.pr .b (.pr .b .b)))),(13,.val .bool .b)]⟩]
noncomputable def o_I_merged_7:List Out:=[⟨.normal,⟨[],[0,1,5,18,19,20,21,22,32,56,57,58],[]⟩,mkSh 71 [(0,.val S_impl_Row .b),(1,.val S_impl_Row .b),(5,.val S_impl_Row (.row (.pr .b (.pr .b .b)))),(32,.val .bool .b)]⟩]
noncomputable def o_I_merged_9:List Out:=[⟨.normal,⟨[],[0,1,5,18,19,20,21,22,37,38,39,40,41,51],[]⟩,mkSh 71 [(0,.val S_impl_Row .b),(1,.val S_impl_Row .b),(5,.val S_impl_Row (.row (.pr .b (.pr .b .b)))),(51,.val .bool .b)]⟩]
noncomputable def sh_I_merged_2:List Sh:=mkSh 71 [(0,.val S_impl_Row .b),(1,.val S_impl_Row .b),(5,.val S_impl_Row (.row (.pr .b (.pr .b .b))))]
noncomputable def o_I_merged_2:List Out:=[⟨.exit 0,⟨[],[5],[]⟩,mkSh 71 [(5,.val S_impl_Row (.row (.pr .b (.pr .b .b))))]⟩,⟨.ret,⟨[],[4],[]⟩,mkSh 71 [(4,.val S_impl_Row (.row (.pr .b (.pr .b .b))))]⟩]
noncomputable def b_I_merged_2 (t0:PV S_impl_Row)(t1:PV S_impl_Row)(t5:PV S_impl_Row):Option ((PV S_impl_Row×PV S_impl_Row×PV S_impl_Row×Unit)⊕((PV S_impl_Row×Unit)⊕(PV S_impl_Row×Unit))):=bif (decide ((IntKind.wrap .i64 ((t0.length:Int)+(t1.length:Int)))>0)) then((bif (decide ((t0.length:Int)>0)) then bif inB 0 t0.length then some (t0,t1,t5,(!(((t0.getD ((0:Int).toNat) (dflt Y_impl_Row)).1)==1)),()) else none else some (t0,t1,t5,false,()):Option ((PV S_impl_Row×PV S_impl_Row×PV S_impl_Row×PV .bool×Unit)))).bind fun j1=>bif j1.2.2.2.1 then bif inB 0 j1.1.length then bif roomB (j1.2.2.1.length+[(j1.1.getD ((0:Int).toNat) (dflt Y_impl_Row))].length) then bif cutB 1 (j1.1.length:Int) j1.1.length then some (.inl ((cutL 1 (j1.1.length:Int) j1.1),j1.2.1,(j1.2.2.1++[(j1.1.getD ((0:Int).toNat) (dflt Y_impl_Row))]),())) else none else none else none else((bif (decide ((j1.2.1.length:Int)>0)) then bif inB 0 j1.2.1.length then some (j1.1,j1.2.1,j1.2.2.1,(!(((j1.2.1.getD ((0:Int).toNat) (dflt Y_impl_Row)).1)==1)),()) else none else some (j1.1,j1.2.1,j1.2.2.1,false,()):Option ((PV S_impl_Row×PV S_impl_Row×PV S_impl_Row×PV .bool×Unit)))).bind fun j2=>bif j2.2.2.2.1 then bif inB 0 j2.2.1.length then bif roomB (j2.2.2.1.length+[(j2.2.1.getD ((0:Int).toNat) (dflt Y_impl_Row))].length) then bif cutB 1 (j2.2.1.length:Int) j2.2.1.length then some (.inl (j2.1,(cutL 1 (j2.2.1.length:Int) j2.2.1),(j2.2.2.1++[(j2.2.1.getD ((0:Int).toNat) (dflt Y_impl_Row))]),())) else none else none else none else((bif (decide ((j2.1.length:Int)>0)) then some (j2.1,j2.2.1,j2.2.2.1,(decide ((j2.2.1.length:Int)>0)),()) else some (j2.1,j2.2.1,j2.2.2.1,false,()):Option ((PV S_impl_Row×PV S_impl_Row×PV S_impl_Row×PV .bool×Unit)))).bind fun j3=>bif j3.2.2.2.1 then bif inB 0 j3.1.length then bif roomB (j3.2.2.1.length+[(j3.1.getD ((0:Int).toNat) (dflt Y_impl_Row))].length) then bif cutB 1 (j3.1.length:Int) j3.1.length then bif cutB 1 (j3.2.1.length:Int) j3.2.1.length then some (.inl ((cutL 1 (j3.1.length:Int) j3.1),(cutL 1 (j3.2.1.length:Int) j3.2.1),(j3.2.2.1++[(j3.1.getD ((0:Int).toNat) (dflt Y_impl_Row))]),())) else none else none else none else none else some (.inr (.inr ([],()))) else some (.inr (.inl (t5,())))
noncomputable def w_I_merged_2:PV S_impl_Row×PV S_impl_Row×PV S_impl_Row×Unit→Option ((PV S_impl_Row×Unit)⊕(PV S_impl_Row×Unit)):=fix fun d=>b_I_merged_2 d.1 d.2.1 d.2.2.1
noncomputable def lp_I_merged_2:Lp:=⟨⟨[],[0,1,5,18,19,20,21,22,37,38,39,40,41,56,57,58],[]⟩,sh_I_merged_2,o_I_merged_2,fun d=>b_I_merged_2 d.1 d.2.1 d.2.2.1⟩
noncomputable def pl_I_merged:Plan:=⟨[(5,o_I_merged_5),(7,o_I_merged_7),(9,o_I_merged_9)],[(2,lp_I_merged_2)],0,0⟩
noncomputable def f_I_merged (t0:PV S_impl_Row)(t1:PV S_impl_Row):Option (PVs [S_impl_Row]×PVs []):=
 (w_I_merged_2 (t0,t1,([]:PV S_impl_Row),())).bind fun x8=>
   match x8 with
   | .inl l6=>
     some ((l6.1,()),())
   | .inr l7=>
     some ((l7.1,()),())
noncomputable def ct_I_merged:Ct:=⟨[(.bor,S_impl_Row),(.bor,S_impl_Row)],[(S_impl_Row,(.row (.pr .b (.pr .b .b))))],fun x=>f_I_merged x.1 x.2.1⟩
noncomputable def cx_I_merged:Cx:=⟨tab,arrs,[],[],gl,[]⟩
theorem eb_I_merged_2 (t0:PV S_impl_Row)(t1:PV S_impl_Row)(t5:PV S_impl_Row):denK cx_I_merged (rcN cx_I_merged 0) pl_I_merged 0 ((loopsOf (bodyOf Tryz.f173)).getD 0 .skip) (fillS sh_I_merged_2 (t0,t1,t5,())) (roundK 0 lp_I_merged_2)=b_I_merged_2 t0 t1 t5:=by kernel_rfl
theorem ef_I_merged (t0:PV S_impl_Row)(t1:PV S_impl_Row):denF cx_I_merged 0 pl_I_merged Tryz.f173.ntmps (bodyOf Tryz.f173) Tryz.f173.results.toList [(.bor,S_impl_Row),(.bor,S_impl_Row)] [(S_impl_Row,(.row (.pr .b (.pr .b .b))))] (t0,t1,())=f_I_merged t0 t1:=by kernel_rfl
theorem ok_I_merged:FnOk gl Tryz.prog 173 ct_I_merged:=
 fnOk (cx:=cx_I_merged) (pl:=pl_I_merged) (dp:=0) (ok0_of tabOk (by unfold ArrOk;kernel_rfl) mix trivial trivial) Tryz.func173 (by kernel_rfl) (by kernel_rfl) (by kernel_rfl)
  (by rw[show loopsOf (bodyOf Tryz.f173)=[((loopsOf (bodyOf Tryz.f173)).getD 0 .skip)] from by kernel_rfl];exact⟨(by rw[show lookup pl_I_merged.loops (firstId ((loopsOf (bodyOf Tryz.f173)).getD 0 .skip))=some lp_I_merged_2 from by kernel_rfl];exact fun d z h=>(eb_I_merged_2 d.1 d.2.1 d.2.2.1).trans h),trivial⟩) (fun x=>ef_I_merged x.1 x.2.1)
noncomputable def o_I_readSides_4:List Out:=[⟨.normal,⟨[],[0,4,24],[]⟩,mkSh 90 [(0,.val S_string .b),(4,.val S_impl_Group (.row (.pr .b (.pr .b (.pr (.row (.pr .b (.pr .b .b))) .b))))),(24,.val .bool .b)]⟩]
noncomputable def o_I_readSides_17:List Out:=[⟨.normal,⟨[],[4,5,6,8,9,10,21,22,23],[]⟩,mkSh 90 [(4,.val S_impl_Group (.row (.pr .b (.pr .b (.pr (.row (.pr .b (.pr .b .b))) .b))))),(5,.val (.int .i64) .b),(6,.val S_string .b),(8,.val S_impl_Row (.row (.pr .b (.pr .b .b)))),(9,.val (.int .i64) .b),(10,.val S_impl_Row (.row (.pr .b (.pr .b .b))))]⟩]
noncomputable def o_I_readSides_20:List Out:=[⟨.normal,⟨[],[4,6,10,11,21,22,23],[]⟩,mkSh 90 [(4,.val S_impl_Group (.row (.pr .b (.pr .b (.pr (.row (.pr .b (.pr .b .b))) .b))))),(6,.val S_string .b),(10,.val S_impl_Row (.row (.pr .b (.pr .b .b)))),(11,.var Y_impl_Group (.pr .b (.pr .b (.pr (.row (.pr .b (.pr .b .b))) .b))))]⟩]
noncomputable def o_I_readSides_22:List Out:=[⟨.normal,⟨[],[4,6,11,21,22,23],[]⟩,mkSh 90 [(4,.val S_impl_Group (.row (.pr .b (.pr .b (.pr (.row (.pr .b (.pr .b .b))) .b))))),(6,.val S_string .b),(11,.var Y_impl_Group (.pr .b (.pr .b (.pr (.row (.pr .b (.pr .b .b))) .b))))]⟩]
noncomputable def sh_I_readSides_2:List Sh:=mkSh 90 [(0,.val S_string .b),(4,.val S_impl_Group (.row (.pr .b (.pr .b (.pr (.row (.pr .b (.pr .b .b))) .b)))))]
noncomputable def o_I_readSides_2:List Out:=[⟨.exit 0,⟨[],[4],[]⟩,mkSh 90 [(4,.val S_impl_Group (.row (.pr .b (.pr .b (.pr (.row (.pr .b (.pr .b .b))) .b)))))]⟩,⟨.ret,⟨[],[2,3],[]⟩,mkSh 90 [(2,.val S_impl_Group (.row (.pr .b (.pr .b (.pr (.row (.pr .b (.pr .b .b))) .b))))),(3,.val .bool .b)]⟩]
noncomputable def b_I_readSides_2 (t0:PV S_string)(t4:PV S_impl_Group):Option ((PV S_string×PV S_impl_Group×Unit)⊕((PV S_impl_Group×Unit)⊕(PV S_impl_Group×PV .bool×Unit))):=bif (decide ((t0.length:Int)>0)) then((bif inB 0 t0.length then bif (!((t0.getD ((0:Int).toNat) [])==[42,42,42,42,42,42,42,42,42,42,42,42,42,42,42,10])) then some (t0,t4,true,()) else some (t0,t4,((t4.length:Int)==20),()) else none:Option ((PV S_string×PV S_impl_Group×PV .bool×Unit)))).bind fun j2=>bif j2.2.2.1 then some (.inr (.inr ([],false,()))) else bif cutB 1 (j2.1.length:Int) j2.1.length then(f_I_readHead (cutL 1 (j2.1.length:Int) j2.1) [42,42,42,32] [32,42,42,42,42,10]).bind fun r4=>bif (!r4.1.2.2.1) then some (.inr (.inr ([],false,()))) else(f_I_takeHalf r4.1.2.1 [45] 2).bind fun r6=>(f_I_readHead r6.1.2.1 [45,45,45,32] [32,45,45,45,45,10]).bind fun r8=>bif (!r8.1.2.2.1) then some (.inr (.inr ([],false,()))) else(f_I_takeHalf r8.1.2.1 [43] 3).bind fun r10=>((bif ((r6.1.1.length:Int)==0) then(f_I_keeps r10.1.1).bind fun r11=>some (j2.2.1,r4.1.1,r10.1.2.1,r11.1.1,r8.1.1,r10.1.1,()) else bif ((r10.1.1.length:Int)==0) then(f_I_keeps r6.1.1).bind fun r12=>some (j2.2.1,r4.1.1,r10.1.2.1,r6.1.1,r8.1.1,r12.1.1,()) else some (j2.2.1,r4.1.1,r10.1.2.1,r6.1.1,r8.1.1,r10.1.1,()):Option ((PV S_impl_Group×PV (.int .i64)×PV S_string×PV S_impl_Row×PV (.int .i64)×PV S_impl_Row×Unit)))).bind fun j13=>(f_I_merged j13.2.2.2.1 j13.2.2.2.2.2.1).bind fun r15=>((bif (decide ((j13.2.2.2.1.length:Int)>0)) then some (j13.1,j13.2.2.1,j13.2.2.2.2.2.1,((IntKind.wrap .i64 (j13.2.1 -1)),(j13.2.2.2.2.1,(r15.1.1,()))),()) else some (j13.1,j13.2.2.1,j13.2.2.2.2.2.1,(j13.2.1,(j13.2.2.2.2.1,(r15.1.1,()))),()):Option ((PV S_impl_Group×PV S_string×PV S_impl_Row×PV Y_impl_Group×Unit)))).bind fun j16=>((bif (decide ((j16.2.2.1.length:Int)>0)) then some (j16.1,j16.2.1,(j16.2.2.2.1.1,((IntKind.wrap .i64 (j16.2.2.2.1.2.1 -1)),j16.2.2.2.1.2.2)),()) else some (j16.1,j16.2.1,j16.2.2.2.1,()):Option ((PV S_impl_Group×PV S_string×PV Y_impl_Group×Unit)))).bind fun j17=>bif roomB (j17.1.length+[j17.2.2.1].length) then some (.inl (j17.2.1,(j17.1++[j17.2.2.1]),())) else none else none else some (.inr (.inl (t4,())))
noncomputable def w_I_readSides_2:PV S_string×PV S_impl_Group×Unit→Option ((PV S_impl_Group×Unit)⊕(PV S_impl_Group×PV .bool×Unit)):=fix fun d=>b_I_readSides_2 d.1 d.2.1
noncomputable def lp_I_readSides_2:Lp:=⟨⟨[],[0,4,21,22,23],[]⟩,sh_I_readSides_2,o_I_readSides_2,fun d=>b_I_readSides_2 d.1 d.2.1⟩
noncomputable def pl_I_readSides:Plan:=⟨[(4,o_I_readSides_4),(17,o_I_readSides_17),(20,o_I_readSides_20),(22,o_I_readSides_22)],[(2,lp_I_readSides_2)],0,0⟩
noncomputable def f_I_readSides (t0:PV S_string):Option (PVs [S_impl_Group,.bool]×PVs []):=
 (w_I_readSides_2 (t0,([]:PV S_impl_Group),())).bind fun x22=>
   match x22 with
   | .inl l20=>
     some ((l20.1,true,()),())
   | .inr l21=>
     some ((l21.1,l21.2.1,()),())
noncomputable def ct_I_readSides:Ct:=⟨[(.bor,S_string)],[(S_impl_Group,(.row (.pr .b (.pr .b (.pr (.row (.pr .b (.pr .b .b))) .b))))),(.bool,.b)],fun x=>f_I_readSides x.1⟩
noncomputable def cx_I_readSides:Cx:=⟨tab,arrs,[(170,ct_I_readHead),(171,ct_I_takeHalf),(172,ct_I_keeps),(173,ct_I_merged)],[],gl,[]⟩
theorem eb_I_readSides_2 (t0:PV S_string)(t4:PV S_impl_Group):denK cx_I_readSides (rcN cx_I_readSides 0) pl_I_readSides 0 ((loopsOf (bodyOf Tryz.f101)).getD 0 .skip) (fillS sh_I_readSides_2 (t0,t4,())) (roundK 0 lp_I_readSides_2)=b_I_readSides_2 t0 t4:=by kernel_rfl
theorem ef_I_readSides (t0:PV S_string):denF cx_I_readSides 0 pl_I_readSides Tryz.f101.ntmps (bodyOf Tryz.f101) Tryz.f101.results.toList [(.bor,S_string)] [(S_impl_Group,(.row (.pr .b (.pr .b (.pr (.row (.pr .b (.pr .b .b))) .b))))),(.bool,.b)] (t0,())=f_I_readSides t0:=by kernel_rfl
theorem ok_I_readSides:FnOk gl Tryz.prog 101 ct_I_readSides:=
 fnOk (cx:=cx_I_readSides) (pl:=pl_I_readSides) (dp:=0) (ok0_of tabOk (by unfold ArrOk;kernel_rfl) mix ⟨ok_I_readHead,ok_I_takeHalf,ok_I_keeps,ok_I_merged,trivial⟩ trivial) Tryz.func101 (by kernel_rfl) (by kernel_rfl) (by kernel_rfl)
  (by rw[show loopsOf (bodyOf Tryz.f101)=[((loopsOf (bodyOf Tryz.f101)).getD 0 .skip)] from by kernel_rfl];exact⟨(by rw[show lookup pl_I_readSides.loops (firstId ((loopsOf (bodyOf Tryz.f101)).getD 0 .skip))=some lp_I_readSides_2 from by kernel_rfl];exact fun d z h=>(eb_I_readSides_2 d.1 d.2.1).trans h),trivial⟩) (fun x=>ef_I_readSides x.1)
noncomputable def o_I_ReadContext_5:List Out:=[⟨.normal,⟨[],[5,31],[]⟩,mkSh 33 [(5,.val S_impl_Group (.row (.pr .b (.pr .b (.pr (.row (.pr .b (.pr .b .b))) .b))))),(31,.val .bool .b)]⟩]
noncomputable def o_I_ReadContext_6:List Out:=[⟨.normal,⟨[],[],[]⟩,mkSh 33 []⟩,⟨.ret,⟨[],[2,3,4],[]⟩,mkSh 33 [(2,.val S_impl_Group (.row (.pr .b (.pr .b (.pr (.row (.pr .b (.pr .b .b))) .b))))),(3,.val (.int .i64) .b),(4,.val .bool .b)]⟩]
noncomputable def pl_I_ReadContext:Plan:=⟨[(5,o_I_ReadContext_5),(6,o_I_ReadContext_6)],[],0,0⟩
noncomputable def f_I_ReadContext (t0:PV .str):Option (PVs [S_impl_Group,(.int .i64),.bool]×PVs []):=
 ((
   bif (decide ((t0.length:Int)≤3000)) then
    (f_I_linesOf t0).bind fun r10=>
      (f_I_readSides r10.1.1).bind fun r11=>
        (f_I_SidesText r11.1.1).bind fun r13=>
          ((
            bif r11.1.2.1 then
             bif r13.1.2.1 then
              some (r11.1.1,(r13.1.1==t0),())
             else
              some (r11.1.1,false,())
            else
             some (r11.1.1,false,()):Option ((PV S_impl_Group×PV .bool×Unit)))).bind fun j14=>
            bif j14.2.1 then
             some (.inr (j14.1,0,true,()))
            else
             some (.inl ())
   else
    some (.inl ()):Option ((Unit)⊕(PV S_impl_Group×PV (.int .i64)×PV .bool×Unit)))).bind fun x17=>
   match x17 with
   | .inl j15=>
     some (([],1,false,()),())
   | .inr j16=>
     some ((j16.1,j16.2.1,j16.2.2.1,()),())
noncomputable def ct_I_ReadContext:Ct:=⟨[(.bor,.str)],[(S_impl_Group,(.row (.pr .b (.pr .b (.pr (.row (.pr .b (.pr .b .b))) .b))))),((.int .i64),.b),(.bool,.b)],fun x=>f_I_ReadContext x.1⟩
noncomputable def cx_I_ReadContext:Cx:=⟨tab,arrs,[(46,ct_I_SidesText),(75,ct_I_linesOf),(101,ct_I_readSides)],[],gl,[]⟩
theorem ef_I_ReadContext (t0:PV .str):denF cx_I_ReadContext 0 pl_I_ReadContext Tryz.f48.ntmps (bodyOf Tryz.f48) Tryz.f48.results.toList [(.bor,.str)] [(S_impl_Group,(.row (.pr .b (.pr .b (.pr (.row (.pr .b (.pr .b .b))) .b))))),((.int .i64),.b),(.bool,.b)] (t0,())=f_I_ReadContext t0:=by kernel_rfl
theorem ok_I_ReadContext:FnOk gl Tryz.prog 48 ct_I_ReadContext:=
 fnOk (cx:=cx_I_ReadContext) (pl:=pl_I_ReadContext) (dp:=0) (ok0_of tabOk (by unfold ArrOk;kernel_rfl) mix ⟨ok_I_SidesText,ok_I_linesOf,ok_I_readSides,trivial⟩ trivial) Tryz.func48 (by kernel_rfl) (by kernel_rfl) (by kernel_rfl)
  (by rw[show loopsOf (bodyOf Tryz.f48)=[] from by kernel_rfl];exact trivial) (fun x=>ef_I_ReadContext x.1)
noncomputable def o_L_sameGroup_2:List Out:=[⟨.normal,⟨[],[2,3,26],[]⟩,mkSh 45 [(2,.var Y_impl_Group .b),(3,.var Y_impl_Group .b),(26,.val .bool .b)]⟩]
noncomputable def sh_L_sameGroup_4:List Sh:=mkSh 45 [(2,.var Y_impl_Group .b),(3,.var Y_impl_Group .b),(29,.val (.int .i64) .b),(30,.val (.int .i64) .b)]
noncomputable def o_L_sameGroup_4:List Out:=[⟨.exit 0,⟨[],[],[]⟩,mkSh 45 []⟩,⟨.ret,⟨[],[4],[]⟩,mkSh 45 [(4,.val .bool .b)]⟩]
noncomputable def b_L_sameGroup_4 (t2:PV Y_impl_Group)(t3:PV Y_impl_Group)(t29:PV (.int .i64))(t30:PV (.int .i64)):Option ((PV Y_impl_Group×PV Y_impl_Group×PV (.int .i64)×PV (.int .i64)×Unit)⊕((Unit)⊕(PV .bool×Unit))):=bif (decide (t30<t29)) then bif inB t30 t2.2.2.1.length then bif inB t30 t3.2.2.1.length then bif (!((t2.2.2.1.getD t30.toNat (dflt Y_impl_Row)).1==(t3.2.2.1.getD t30.toNat (dflt Y_impl_Row)).1&&(t2.2.2.1.getD t30.toNat (dflt Y_impl_Row)).2.1==(t3.2.2.1.getD t30.toNat (dflt Y_impl_Row)).2.1)) then some (.inr (.inr (false,()))) else some (.inl (t2,t3,t29,(IntKind.wrap .i64 (t30+1)),())) else none else none else some (.inr (.inl ()))
noncomputable def w_L_sameGroup_4:PV Y_impl_Group×PV Y_impl_Group×PV (.int .i64)×PV (.int .i64)×Unit→Option ((Unit)⊕(PV .bool×Unit)):=fix fun d=>b_L_sameGroup_4 d.1 d.2.1 d.2.2.1 d.2.2.2.1
noncomputable def lp_L_sameGroup_4:Lp:=⟨⟨[],[2,3,29,30],[]⟩,sh_L_sameGroup_4,o_L_sameGroup_4,fun d=>b_L_sameGroup_4 d.1 d.2.1 d.2.2.1 d.2.2.2.1⟩
noncomputable def pl_L_sameGroup:Plan:=⟨[(2,o_L_sameGroup_2)],[(4,lp_L_sameGroup_4)],0,0⟩
noncomputable def f_L_sameGroup (t0:PV Y_impl_Group)(t1:PV Y_impl_Group):Option (PVs [.bool]×PVs []):=
 ((
   bif (!(t0.1==t1.1)) then
    some (t0,t1,true,())
   else
    bif (!(t0.2.1==t1.2.1)) then
     some (t0,t1,true,())
    else
     some (t0,t1,(!((t0.2.2.1.length:Int)==(t1.2.2.1.length:Int))),()):Option ((PV Y_impl_Group×PV Y_impl_Group×PV .bool×Unit)))).bind fun j2=>
   bif j2.2.2.1 then
    some ((false,()),())
   else
    (w_L_sameGroup_4 (j2.1,j2.2.1,(j2.1.2.2.1.length:Int),0,())).bind fun x7=>
      match x7 with
      | .inl l5=>
        some ((true,()),())
      | .inr l6=>
        some ((l6.1,()),())
noncomputable def ct_L_sameGroup:Ct:=⟨[(.bor,Y_impl_Group),(.bor,Y_impl_Group)],[(.bool,.b)],fun x=>f_L_sameGroup x.1 x.2.1⟩
noncomputable def cx_L_sameGroup:Cx:=⟨tab,arrs,[],[],gl,[]⟩
theorem eb_L_sameGroup_4 (t2:PV Y_impl_Group)(t3:PV Y_impl_Group)(t29:PV (.int .i64))(t30:PV (.int .i64)):denK cx_L_sameGroup (rcN cx_L_sameGroup 0) pl_L_sameGroup 0 ((loopsOf (bodyOf Tryz.f97)).getD 0 .skip) (fillS sh_L_sameGroup_4 (t2,t3,t29,t30,())) (roundK 0 lp_L_sameGroup_4)=b_L_sameGroup_4 t2 t3 t29 t30:=by kernel_rfl
theorem ef_L_sameGroup (t0:PV Y_impl_Group)(t1:PV Y_impl_Group):denF cx_L_sameGroup 0 pl_L_sameGroup Tryz.f97.ntmps (bodyOf Tryz.f97) Tryz.f97.results.toList [(.bor,Y_impl_Group),(.bor,Y_impl_Group)] [(.bool,.b)] (t0,t1,())=f_L_sameGroup t0 t1:=by kernel_rfl
theorem ok_L_sameGroup:FnOk gl Tryz.prog 97 ct_L_sameGroup:=
 fnOk (cx:=cx_L_sameGroup) (pl:=pl_L_sameGroup) (dp:=0) (ok0_of tabOk (by unfold ArrOk;kernel_rfl) mix trivial trivial) Tryz.func97 (by kernel_rfl) (by kernel_rfl) (by kernel_rfl)
  (by rw[show loopsOf (bodyOf Tryz.f97)=[((loopsOf (bodyOf Tryz.f97)).getD 0 .skip)] from by kernel_rfl];exact⟨(by rw[show lookup pl_L_sameGroup.loops (firstId ((loopsOf (bodyOf Tryz.f97)).getD 0 .skip))=some lp_L_sameGroup_4 from by kernel_rfl];exact fun d z h=>(eb_L_sameGroup_4 d.1 d.2.1 d.2.2.1 d.2.2.2.1).trans h),trivial⟩) (fun x=>ef_L_sameGroup x.1 x.2.1)
noncomputable def sh_L_sameGroups_4:List Sh:=mkSh 27 [(0,.val S_impl_Group .b),(1,.val S_impl_Group .b),(12,.val (.int .i64) .b),(13,.val (.int .i64) .b)]
noncomputable def o_L_sameGroups_4:List Out:=[⟨.exit 0,⟨[],[],[]⟩,mkSh 27 []⟩,⟨.ret,⟨[],[4],[]⟩,mkSh 27 [(4,.val .bool .b)]⟩]
noncomputable def b_L_sameGroups_4 (t0:PV S_impl_Group)(t1:PV S_impl_Group)(t12:PV (.int .i64))(t13:PV (.int .i64)):Option ((PV S_impl_Group×PV S_impl_Group×PV (.int .i64)×PV (.int .i64)×Unit)⊕((Unit)⊕(PV .bool×Unit))):=bif (decide (t13<t12)) then bif inB t13 t0.length then bif inB t13 t1.length then(f_L_sameGroup (t0.getD t13.toNat (dflt Y_impl_Group)) (t1.getD t13.toNat (dflt Y_impl_Group))).bind fun r4=>bif (!r4.1.1) then some (.inr (.inr (false,()))) else some (.inl (t0,t1,t12,(IntKind.wrap .i64 (t13+1)),())) else none else none else some (.inr (.inl ()))
noncomputable def w_L_sameGroups_4:PV S_impl_Group×PV S_impl_Group×PV (.int .i64)×PV (.int .i64)×Unit→Option ((Unit)⊕(PV .bool×Unit)):=fix fun d=>b_L_sameGroups_4 d.1 d.2.1 d.2.2.1 d.2.2.2.1
noncomputable def lp_L_sameGroups_4:Lp:=⟨⟨[],[0,1,12,13],[]⟩,sh_L_sameGroups_4,o_L_sameGroups_4,fun d=>b_L_sameGroups_4 d.1 d.2.1 d.2.2.1 d.2.2.2.1⟩
noncomputable def pl_L_sameGroups:Plan:=⟨[],[(4,lp_L_sameGroups_4)],0,0⟩
noncomputable def f_L_sameGroups (t0:PV S_impl_Group)(t1:PV S_impl_Group):Option (PVs [.bool]×PVs []):=
 bif (!((t0.length:Int)==(t1.length:Int))) then
  some ((false,()),())
 else
  (w_L_sameGroups_4 (t0,t1,(t0.length:Int),0,())).bind fun x9=>
    match x9 with
    | .inl l7=>
      some ((true,()),())
    | .inr l8=>
      some ((l8.1,()),())
noncomputable def ct_L_sameGroups:Ct:=⟨[(.bor,S_impl_Group),(.bor,S_impl_Group)],[(.bool,.b)],fun x=>f_L_sameGroups x.1 x.2.1⟩
noncomputable def cx_L_sameGroups:Cx:=⟨tab,arrs,[(97,ct_L_sameGroup)],[],gl,[]⟩
theorem eb_L_sameGroups_4 (t0:PV S_impl_Group)(t1:PV S_impl_Group)(t12:PV (.int .i64))(t13:PV (.int .i64)):denK cx_L_sameGroups (rcN cx_L_sameGroups 0) pl_L_sameGroups 0 ((loopsOf (bodyOf Tryz.f44)).getD 0 .skip) (fillS sh_L_sameGroups_4 (t0,t1,t12,t13,())) (roundK 0 lp_L_sameGroups_4)=b_L_sameGroups_4 t0 t1 t12 t13:=by kernel_rfl
theorem ef_L_sameGroups (t0:PV S_impl_Group)(t1:PV S_impl_Group):denF cx_L_sameGroups 0 pl_L_sameGroups Tryz.f44.ntmps (bodyOf Tryz.f44) Tryz.f44.results.toList [(.bor,S_impl_Group),(.bor,S_impl_Group)] [(.bool,.b)] (t0,t1,())=f_L_sameGroups t0 t1:=by kernel_rfl
theorem ok_L_sameGroups:FnOk gl Tryz.prog 44 ct_L_sameGroups:=
 fnOk (cx:=cx_L_sameGroups) (pl:=pl_L_sameGroups) (dp:=0) (ok0_of tabOk (by unfold ArrOk;kernel_rfl) mix ⟨ok_L_sameGroup,trivial⟩ trivial) Tryz.func44 (by kernel_rfl) (by kernel_rfl) (by kernel_rfl)
  (by rw[show loopsOf (bodyOf Tryz.f44)=[((loopsOf (bodyOf Tryz.f44)).getD 0 .skip)] from by kernel_rfl];exact⟨(by rw[show lookup pl_L_sameGroups.loops (firstId ((loopsOf (bodyOf Tryz.f44)).getD 0 .skip))=some lp_L_sameGroups_4 from by kernel_rfl];exact fun d z h=>(eb_L_sameGroups_4 d.1 d.2.1 d.2.2.1 d.2.2.2.1).trans h),trivial⟩) (fun x=>ef_L_sameGroups x.1 x.2.1)
noncomputable def o_S_l1Cur_spoilt_3:List Out:=[⟨.normal,⟨[],[0,1,2,7,16,17,18],[]⟩,mkSh 69 [(0,.var Y_spec_l1Cur .b),(1,.addr ⟨0,[],0,0⟩),(2,.val .str .b),(3,.val .str .b),(8,.val (.int .i64) .b),(17,.val .str .b),(18,.val (.int .i64) .b),(19,.val .bool .b)]⟩]
noncomputable def sh_S_l1Cur_spoilt_2:List Sh:=mkSh 69 [(0,.var Y_spec_l1Cur .b),(1,.addr ⟨0,[],0,0⟩),(2,.val .str .b),(3,.val .str .b),(8,.val (.int .i64) .b)]
noncomputable def o_S_l1Cur_spoilt_2:List Out:=[⟨.exit 0,⟨[],[1],[]⟩,mkSh 69 [(0,.var Y_spec_l1Cur .b),(2,.val .str .b)]⟩]
noncomputable def b_S_l1Cur_spoilt_2 (t0:PV Y_spec_l1Cur)(t2:PV .str)(t3:PV .str)(t8:PV (.int .i64)):Option ((PV Y_spec_l1Cur×PV .str×PV .str×PV (.int .i64)×Unit)⊕((PV Y_spec_l1Cur×PV .str×Unit))):=bif (decide (t8>0)) then bif (decide ((t2.length:Int)>0)) then(((f_S_l1Cur_pick t0 (t2.length:Int)).bind fun r17=>(f_S_l1Cur_pick r17.2.1 (t3.length:Int)).bind fun r19=>bif inB r19.1.1 t3.length then(f_S_l1Cur_pick r19.2.1 3).bind fun r21=>bif (r21.1.1==0) then bif cutB 0 r17.1.1 t2.length then bif decide ((cutL 0 r17.1.1 t2).length+(bytesOfInts [((t3.getD r19.1.1.toNat 0).toNat:Int)]).length≤1099511627776) then bif cutB r17.1.1 (t2.length:Int) t2.length then bif decide (((cutL 0 r17.1.1 t2)++(bytesOfInts [((t3.getD r19.1.1.toNat 0).toNat:Int)])).length+(cutL r17.1.1 (t2.length:Int) t2).length≤1099511627776) then some (r21.2.1,(((cutL 0 r17.1.1 t2)++(bytesOfInts [((t3.getD r19.1.1.toNat 0).toNat:Int)]))++(cutL r17.1.1 (t2.length:Int) t2)),t3,t8,t2,(t2.length:Int),(decide ((t2.length:Int)>0)),()) else none else none else none else none else bif (r21.1.1==1) then bif cutB 0 r17.1.1 t2.length then bif decide ((cutL 0 r17.1.1 t2).length+(bytesOfInts [((t3.getD r19.1.1.toNat 0).toNat:Int)]).length≤1099511627776) then bif cutB (IntKind.wrap .i64 (r17.1.1+1)) (t2.length:Int) t2.length then bif decide (((cutL 0 r17.1.1 t2)++(bytesOfInts [((t3.getD r19.1.1.toNat 0).toNat:Int)])).length+(cutL (IntKind.wrap .i64 (r17.1.1+1)) (t2.length:Int) t2).length≤1099511627776) then some (r21.2.1,(((cutL 0 r17.1.1 t2)++(bytesOfInts [((t3.getD r19.1.1.toNat 0).toNat:Int)]))++(cutL (IntKind.wrap .i64 (r17.1.1+1)) (t2.length:Int) t2)),t3,t8,t2,(t2.length:Int),(decide ((t2.length:Int)>0)),()) else none else none else none else none else bif cutB 0 r17.1.1 t2.length then bif cutB (IntKind.wrap .i64 (r17.1.1+1)) (t2.length:Int) t2.length then bif decide ((cutL 0 r17.1.1 t2).length+(cutL (IntKind.wrap .i64 (r17.1.1+1)) (t2.length:Int) t2).length≤1099511627776) then some (r21.2.1,((cutL 0 r17.1.1 t2)++(cutL (IntKind.wrap .i64 (r17.1.1+1)) (t2.length:Int) t2)),t3,t8,t2,(t2.length:Int),(decide ((t2.length:Int)>0)),()) else none else none else none else none:Option ((PV Y_spec_l1Cur×PV .str×PV .str×PV (.int .i64)×PV .str×PV (.int .i64)×PV .bool×Unit)))).bind fun j22=>some (.inl (j22.1,j22.2.1,j22.2.2.1,(IntKind.wrap .i64 (j22.2.2.2.1 -1)),())) else some (.inr (t0,t2,())) else some (.inr (t0,t2,()))
noncomputable def w_S_l1Cur_spoilt_2:PV Y_spec_l1Cur×PV .str×PV .str×PV (.int .i64)×Unit→Option ((PV Y_spec_l1Cur×PV .str×Unit)):=fix fun d=>b_S_l1Cur_spoilt_2 d.1 d.2.1 d.2.2.1 d.2.2.2.1
noncomputable def lp_S_l1Cur_spoilt_2:Lp:=⟨⟨[],[0,1,2,7],[]⟩,sh_S_l1Cur_spoilt_2,o_S_l1Cur_spoilt_2,fun d=>b_S_l1Cur_spoilt_2 d.1 d.2.1 d.2.2.1 d.2.2.2.1⟩
noncomputable def pl_S_l1Cur_spoilt:Plan:=⟨[(3,o_S_l1Cur_spoilt_3)],[(2,lp_S_l1Cur_spoilt_2)],0,1⟩
noncomputable def f_S_l1Cur_spoilt (t0:PV Y_spec_l1Cur)(t1:PV .str)(t2:PV .str):Option (PVs [.str]×PVs [Y_spec_l1Cur]):=(f_S_l1Cur_pick t0 2).bind fun r25=>(w_S_l1Cur_spoilt_2 (r25.2.1,t1,t2,(IntKind.wrap .i64 (1+r25.1.1)),())).bind fun l26=>some ((l26.2.1,()),(l26.1,()))
noncomputable def ct_S_l1Cur_spoilt:Ct:=⟨[(.ptr,Y_spec_l1Cur),(.bor,.str),(.bor,.str)],[(.str,.b)],fun x=>f_S_l1Cur_spoilt x.1 x.2.1 x.2.2.1⟩
noncomputable def cx_S_l1Cur_spoilt:Cx:=⟨tab,arrs,[(61,ct_S_l1Cur_pick)],[],gl,[]⟩
theorem eb_S_l1Cur_spoilt_2 (t0:PV Y_spec_l1Cur)(t2:PV .str)(t3:PV .str)(t8:PV (.int .i64)):denK cx_S_l1Cur_spoilt (rcN cx_S_l1Cur_spoilt 0) pl_S_l1Cur_spoilt 1 ((loopsOf (bodyOf Tryz.f77)).getD 0 .skip) (fillS sh_S_l1Cur_spoilt_2 (t0,t2,t3,t8,())) (roundK 1 lp_S_l1Cur_spoilt_2)=b_S_l1Cur_spoilt_2 t0 t2 t3 t8:=by kernel_rfl
theorem ef_S_l1Cur_spoilt (t0:PV Y_spec_l1Cur)(t1:PV .str)(t2:PV .str):denF cx_S_l1Cur_spoilt 0 pl_S_l1Cur_spoilt Tryz.f77.ntmps (bodyOf Tryz.f77) Tryz.f77.results.toList [(.ptr,Y_spec_l1Cur),(.bor,.str),(.bor,.str)] [(.str,.b)] (t0,t1,t2,())=f_S_l1Cur_spoilt t0 t1 t2:=by kernel_rfl
theorem ok_S_l1Cur_spoilt:FnOk gl Tryz.prog 77 ct_S_l1Cur_spoilt:=
 fnOk (cx:=cx_S_l1Cur_spoilt) (pl:=pl_S_l1Cur_spoilt) (dp:=0) (ok0_of tabOk (by unfold ArrOk;kernel_rfl) mix ⟨ok_S_l1Cur_pick,trivial⟩ trivial) Tryz.func77 (by kernel_rfl) (by kernel_rfl) (by kernel_rfl)
  (by rw[show loopsOf (bodyOf Tryz.f77)=[((loopsOf (bodyOf Tryz.f77)).getD 0 .skip)] from by kernel_rfl];exact⟨(by rw[show lookup pl_S_l1Cur_spoilt.loops (firstId ((loopsOf (bodyOf Tryz.f77)).getD 0 .skip))=some lp_S_l1Cur_spoilt_2 from by kernel_rfl];exact fun d z h=>(eb_S_l1Cur_spoilt_2 d.1 d.2.1 d.2.2.1 d.2.2.2.1).trans h),trivial⟩) (fun x=>ef_S_l1Cur_spoilt x.1 x.2.1 x.2.2.1)
noncomputable def o_S_DrawReadContext_9:List Out:=[⟨.normal,⟨[],[6],[]⟩,mkSh 34 [(6,.val .str .b)]⟩]
noncomputable def pl_S_DrawReadContext_78:Plan:=⟨[],[],0,34⟩
noncomputable def pl_S_DrawReadContext:Plan:=⟨[(9,o_S_DrawReadContext_9)],[],1,0⟩
noncomputable def f_S_DrawReadContext (t0:PV S_uint8):Option (PVs [.str]×PVs []):=(f_S_l1Cur_groups (t0,(0,(0,())))).bind fun r2=>(f_S_SidesText r2.1.2.1).bind fun r4=>(((f_S_l1Cur_pick r2.2.1 4).bind fun r10=>bif (r10.1.1==0) then(f_S_l1Cur_spoilt r10.2.1 r4.1.1 [42,45,43,33,32,44,49,10]).bind fun r11=>some (r11.1.1,()) else bif (r10.1.1==1) then(f_S_l1Cur_pick r10.2.1 ([[],[42,42,42,42,42,42,42,42,42,42,42,42,42,42,42,10,42,42,42,32,49,32,42,42,42,42,10,45,32,97,10,45,45,45,32,48,32,45,45,45,45,10],[42,42,42,42,42,42,42,42,42,42,42,42,42,42,42,10,42,42,42,32,49,32,42,42,42,42,10,33,32,97,10,45,45,45,32,49,32,45,45,45,45,10,33,32,98,10],[42,42,42,42,42,42,42,42,42,42,42,42,42,42,42,10,42,42,42,32,48,32,42,42,42,42,10,45,45,45,32,49,32,45,45,45,45,10,43,32,97,10,92,32,110,111,110,101,10],[42,42,42,42,42,42,42,42,42,42,42,42,42,42,42,10,42,42,42,32,49,32,42,42,42,42,10,45,45,45,32,49,32,45,45,45,45,10]].length:Int)).bind fun r12=>bif inB r12.1.1 [[],[42,42,42,42,42,42,42,42,42,42,42,42,42,42,42,10,42,42,42,32,49,32,42,42,42,42,10,45,32,97,10,45,45,45,32,48,32,45,45,45,45,10],[42,42,42,42,42,42,42,42,42,42,42,42,42,42,42,10,42,42,42,32,49,32,42,42,42,42,10,33,32,97,10,45,45,45,32,49,32,45,45,45,45,10,33,32,98,10],[42,42,42,42,42,42,42,42,42,42,42,42,42,42,42,10,42,42,42,32,48,32,42,42,42,42,10,45,45,45,32,49,32,45,45,45,45,10,43,32,97,10,92,32,110,111,110,101,10],[42,42,42,42,42,42,42,42,42,42,42,42,42,42,42,10,42,42,42,32,49,32,42,42,42,42,10,45,45,45,32,49,32,45,45,45,45,10]].length then some (([[],[42,42,42,42,42,42,42,42,42,42,42,42,42,42,42,10,42,42,42,32,49,32,42,42,42,42,10,45,32,97,10,45,45,45,32,48,32,45,45,45,45,10],[42,42,42,42,42,42,42,42,42,42,42,42,42,42,42,10,42,42,42,32,49,32,42,42,42,42,10,33,32,97,10,45,45,45,32,49,32,45,45,45,45,10,33,32,98,10],[42,42,42,42,42,42,42,42,42,42,42,42,42,42,42,10,42,42,42,32,48,32,42,42,42,42,10,45,45,45,32,49,32,45,45,45,45,10,43,32,97,10,92,32,110,111,110,101,10],[42,42,42,42,42,42,42,42,42,42,42,42,42,42,42,10,42,42,42,32,49,32,42,42,42,42,10,45,45,45,32,49,32,45,45,45,45,10]].getD r12.1.1.toNat []),()) else none else some (r4.1.1,()):Option ((PV .str×Unit)))).bind fun j13=>some ((j13.1,()),())
noncomputable def ct_S_DrawReadContext:Ct:=⟨[(.bor,S_uint8)],[(.str,.b)],fun x=>f_S_DrawReadContext x.1⟩
noncomputable def cx_S_DrawReadContext:Cx:=⟨tab,arrs,[(47,ct_S_SidesText),(61,ct_S_l1Cur_pick),(77,ct_S_l1Cur_spoilt),(102,ct_S_l1Cur_groups)],[(78,Tryz.f78,pl_S_DrawReadContext_78)],gl,[]⟩
theorem ef_S_DrawReadContext (t0:PV S_uint8):denF cx_S_DrawReadContext 1 pl_S_DrawReadContext Tryz.f49.ntmps (bodyOf Tryz.f49) Tryz.f49.results.toList [(.bor,S_uint8)] [(.str,.b)] (t0,())=f_S_DrawReadContext t0:=by kernel_rfl
theorem ok_S_DrawReadContext:FnOk gl Tryz.prog 49 ct_S_DrawReadContext:=
 fnOk (cx:=cx_S_DrawReadContext) (pl:=pl_S_DrawReadContext) (dp:=1) (ok0_of tabOk (by unfold ArrOk;kernel_rfl) mix ⟨ok_S_SidesText,ok_S_l1Cur_pick,ok_S_l1Cur_spoilt,ok_S_l1Cur_groups,trivial⟩ ⟨⟨Tryz.func78,by kernel_rfl,(by rw[show loopsOf (bodyOf Tryz.f78)=[] from by kernel_rfl];exact trivial)⟩,trivial⟩) Tryz.func49 (by kernel_rfl) (by kernel_rfl) (by kernel_rfl)
  (by rw[show loopsOf (bodyOf Tryz.f49)=[] from by kernel_rfl];exact trivial) (fun x=>ef_S_DrawReadContext x.1)
noncomputable def o_S_l1Cut_5:List Out:=[⟨.normal,⟨[],[0,3,4,5],[]⟩,mkSh 37 [(0,.val .str .b),(3,.val S_string (.row .b)),(4,.val (.int .i64) .b),(5,.val (.int .i64) .b)]⟩]
noncomputable def o_S_l1Cut_11:List Out:=[⟨.normal,⟨[],[3],[]⟩,mkSh 37 [(3,.val S_string (.row .b))]⟩]
noncomputable def sh_S_l1Cut_4:List Sh:=mkSh 37 [(0,.val .str .b),(3,.val S_string (.row .b)),(4,.val (.int .i64) .b),(5,.val (.int .i64) .b)]
noncomputable def o_S_l1Cut_4:List Out:=[⟨.exit 0,⟨[],[0,3,4],[]⟩,mkSh 37 [(0,.val .str .b),(3,.val S_string (.row .b)),(4,.val (.int .i64) .b)]⟩]
noncomputable def b_S_l1Cut_4 (t0:PV .str)(t3:PV S_string)(t4:PV (.int .i64))(t5:PV (.int .i64)):Option ((PV .str×PV S_string×PV (.int .i64)×PV (.int .i64)×Unit)⊕((PV .str×PV S_string×PV (.int .i64)×Unit))):=bif (decide (t5<(t0.length:Int))) then((bif inB t5 t0.length then bif (((t0.getD t5.toNat 0).toNat:Int)==10) then bif cutB t4 (IntKind.wrap .i64 (t5+1)) t0.length then bif roomB (t3.length+[(cutL t4 (IntKind.wrap .i64 (t5+1)) t0)].length) then some (t0,(t3++[(cutL t4 (IntKind.wrap .i64 (t5+1)) t0)]),(IntKind.wrap .i64 (t5+1)),t5,()) else none else none else some (t0,t3,t4,t5,()) else none:Option ((PV .str×PV S_string×PV (.int .i64)×PV (.int .i64)×Unit)))).bind fun j1=>some (.inl (j1.1,j1.2.1,j1.2.2.1,(IntKind.wrap .i64 (j1.2.2.2.1+1)),())) else some (.inr (t0,t3,t4,()))
noncomputable def w_S_l1Cut_4:PV .str×PV S_string×PV (.int .i64)×PV (.int .i64)×Unit→Option ((PV .str×PV S_string×PV (.int .i64)×Unit)):=fix fun d=>b_S_l1Cut_4 d.1 d.2.1 d.2.2.1 d.2.2.2.1
noncomputable def lp_S_l1Cut_4:Lp:=⟨⟨[],[0,3,4,5],[]⟩,sh_S_l1Cut_4,o_S_l1Cut_4,fun d=>b_S_l1Cut_4 d.1 d.2.1 d.2.2.1 d.2.2.2.1⟩
noncomputable def pl_S_l1Cut:Plan:=⟨[(5,o_S_l1Cut_5),(11,o_S_l1Cut_11)],[(4,lp_S_l1Cut_4)],0,0⟩
noncomputable def f_S_l1Cut (t0:PV .str):Option (PVs [S_string]×PVs []):=(w_S_l1Cut_4 (t0,[],0,0,())).bind fun l3=>((bif (decide (l3.2.2.1<(l3.1.length:Int))) then bif cutB l3.2.2.1 (l3.1.length:Int) l3.1.length then bif roomB (l3.2.1.length+[(cutL l3.2.2.1 (l3.1.length:Int) l3.1)].length) then some ((l3.2.1++[(cutL l3.2.2.1 (l3.1.length:Int) l3.1)]),()) else none else none else some (l3.2.1,()):Option ((PV S_string×Unit)))).bind fun j4=>some ((j4.1,()),())
noncomputable def ct_S_l1Cut:Ct:=⟨[(.bor,.str)],[(S_string,.b)],fun x=>f_S_l1Cut x.1⟩
noncomputable def cx_S_l1Cut:Cx:=⟨tab,arrs,[],[],gl,[]⟩
theorem eb_S_l1Cut_4 (t0:PV .str)(t3:PV S_string)(t4:PV (.int .i64))(t5:PV (.int .i64)):denK cx_S_l1Cut (rcN cx_S_l1Cut 0) pl_S_l1Cut 0 ((loopsOf (bodyOf Tryz.f79)).getD 0 .skip) (fillS sh_S_l1Cut_4 (t0,t3,t4,t5,())) (roundK 0 lp_S_l1Cut_4)=b_S_l1Cut_4 t0 t3 t4 t5:=by kernel_rfl
theorem ef_S_l1Cut (t0:PV .str):denF cx_S_l1Cut 0 pl_S_l1Cut Tryz.f79.ntmps (bodyOf Tryz.f79) Tryz.f79.results.toList [(.bor,.str)] [(S_string,.b)] (t0,())=f_S_l1Cut t0:=by kernel_rfl
theorem ok_S_l1Cut:FnOk gl Tryz.prog 79 ct_S_l1Cut:=
 fnOk (cx:=cx_S_l1Cut) (pl:=pl_S_l1Cut) (dp:=0) (ok0_of tabOk (by unfold ArrOk;kernel_rfl) mix trivial trivial) Tryz.func79 (by kernel_rfl) (by kernel_rfl) (by kernel_rfl)
  (by rw[show loopsOf (bodyOf Tryz.f79)=[((loopsOf (bodyOf Tryz.f79)).getD 0 .skip)] from by kernel_rfl];exact⟨(by rw[show lookup pl_S_l1Cut.loops (firstId ((loopsOf (bodyOf Tryz.f79)).getD 0 .skip))=some lp_S_l1Cut_4 from by kernel_rfl];exact fun d z h=>(eb_S_l1Cut_4 d.1 d.2.1 d.2.2.1 d.2.2.2.1).trans h),trivial⟩) (fun x=>ef_S_l1Cut x.1)
noncomputable def o_S_l8Range_2:List Out:=[⟨.normal,⟨[],[0,1,2,35],[]⟩,mkSh 49 [(0,.val .str .b),(1,.val .str .b),(2,.val .str .b),(35,.val .bool .b)]⟩]
noncomputable def pl_S_l8Range:Plan:=⟨[(2,o_S_l8Range_2)],[],0,0⟩
noncomputable def f_S_l8Range (t0:PV .str)(t1:PV .str)(t2:PV .str):Option (PVs [(.int .i64),(.int .i64),.bool]×PVs []):=((bif (decide ((t0.length:Int)<(IntKind.wrap .i64 ((t1.length:Int)+(t2.length:Int))))) then some (t0,t1,t2,true,()) else bif cutB 0 (t1.length:Int) t0.length then bif (!((cutL 0 (t1.length:Int) t0)==t1)) then some (t0,t1,t2,true,()) else bif cutB (IntKind.wrap .i64 ((t0.length:Int) -(t2.length:Int))) (t0.length:Int) t0.length then some (t0,t1,t2,(!((cutL (IntKind.wrap .i64 ((t0.length:Int) -(t2.length:Int))) (t0.length:Int) t0)==t2)),()) else none else none:Option ((PV .str×PV .str×PV .str×PV .bool×Unit)))).bind fun j2=>bif j2.2.2.2.1 then some ((0,0,false,()),()) else bif cutB (j2.2.1.length:Int) (IntKind.wrap .i64 ((j2.1.length:Int) -(j2.2.2.1.length:Int))) j2.1.length then(f_S_ReadPair (cutL (j2.2.1.length:Int) (IntKind.wrap .i64 ((j2.1.length:Int) -(j2.2.2.1.length:Int))) j2.1)).bind fun r3=>some ((r3.1.1,r3.1.2.1,r3.1.2.2.1,()),()) else none
noncomputable def ct_S_l8Range:Ct:=⟨[(.bor,.str),(.bor,.str),(.bor,.str)],[((.int .i64),.b),((.int .i64),.b),(.bool,.b)],fun x=>f_S_l8Range x.1 x.2.1 x.2.2.1⟩
noncomputable def cx_S_l8Range:Cx:=⟨tab,arrs,[(148,ct_S_ReadPair)],[],gl,[]⟩
theorem ef_S_l8Range (t0:PV .str)(t1:PV .str)(t2:PV .str):denF cx_S_l8Range 0 pl_S_l8Range Tryz.f175.ntmps (bodyOf Tryz.f175) Tryz.f175.results.toList [(.bor,.str),(.bor,.str),(.bor,.str)] [((.int .i64),.b),((.int .i64),.b),(.bool,.b)] (t0,t1,t2,())=f_S_l8Range t0 t1 t2:=by kernel_rfl
theorem ok_S_l8Range:FnOk gl Tryz.prog 175 ct_S_l8Range:=
 fnOk (cx:=cx_S_l8Range) (pl:=pl_S_l8Range) (dp:=0) (ok0_of tabOk (by unfold ArrOk;kernel_rfl) mix ⟨ok_S_ReadPair,trivial⟩ trivial) Tryz.func175 (by kernel_rfl) (by kernel_rfl) (by kernel_rfl)
  (by rw[show loopsOf (bodyOf Tryz.f175)=[] from by kernel_rfl];exact trivial) (fun x=>ef_S_l8Range x.1 x.2.1 x.2.2.1)
noncomputable def o_S_l8Take_12:List Out:=[⟨.normal,⟨[],[0,1,6,7,10,24,25,26,27,28,29,38,39,40,43,44,45,64],[]⟩,mkSh 81 [(0,.val S_string .b),(1,.val .str .b),(6,.val S_spec_l8Line (.row (.pr .b (.pr .b .b)))),(7,.val (.int .i64) .b),(10,.var Y_spec_l8Line .b),(38,.val .str .b),(39,.val (.int .i64) .b),(40,.val .bool .b),(43,.val .str .b),(44,.val (.int .u8) .b),(45,.val .bool .b),(64,.val .bool .b)]⟩]
noncomputable def o_S_l8Take_14:List Out:=[⟨.normal,⟨[(10,.b)],[0,1,6,7,10,24,25,26,27,28,29,38,39,40,43,44,45,59,60,61,62,63],[]⟩,mkSh 81 [(0,.val S_string .b),(1,.val .str .b),(6,.val S_spec_l8Line (.row (.pr .b (.pr .b .b)))),(7,.val (.int .i64) .b),(10,.var Y_spec_l8Line .b),(38,.val .str .b),(39,.val (.int .i64) .b),(40,.val .bool .b),(43,.val .str .b),(44,.val (.int .u8) .b),(45,.val .bool .b)]⟩]
noncomputable def sh_S_l8Take_6:List Sh:=mkSh 81 [(0,.val S_string .b),(1,.val .str .b),(6,.val S_spec_l8Line (.row (.pr .b (.pr .b .b)))),(7,.val (.int .i64) .b),(8,.val .str .b),(9,.val (.int .i64) .b)]
noncomputable def o_S_l8Take_6:List Out:=[⟨.exit 2,⟨[],[0,1,6,7,8,9,38,39,40,43,44,45,59,60,61,62,63],[]⟩,mkSh 81 [(0,.val S_string .b),(1,.val .str .b),(6,.val S_spec_l8Line (.row (.pr .b (.pr .b .b)))),(7,.val (.int .i64) .b),(8,.val .str .b),(9,.val (.int .i64) .b)]⟩]
noncomputable def b_S_l8Take_6 (t0:PV S_string)(t1:PV .str)(t6:PV S_spec_l8Line)(t7:PV (.int .i64))(t8:PV .str)(t9:PV (.int .i64)):Option ((PV S_string×PV .str×PV S_spec_l8Line×PV (.int .i64)×PV .str×PV (.int .i64)×Unit)⊕((PV S_string×PV .str×PV S_spec_l8Line×PV (.int .i64)×PV .str×PV (.int .i64)×Unit))):=bif (decide (t9<(t1.length:Int))) then bif inB t9 t1.length then bif inB 0 t8.length then bif (!(((t1.getD t9.toNat 0).toNat:Int)==((t8.getD (0:Int).toNat 0).toNat:Int))) then some (.inl (t0,t1,t6,t7,t8,(IntKind.wrap .i64 (t9+1)),())) else some (.inr (t0,t1,t6,t7,t8,t9,())) else none else none else some (.inr (t0,t1,t6,t7,t8,t9,()))
noncomputable def w_S_l8Take_6:PV S_string×PV .str×PV S_spec_l8Line×PV (.int .i64)×PV .str×PV (.int .i64)×Unit→Option ((PV S_string×PV .str×PV S_spec_l8Line×PV (.int .i64)×PV .str×PV (.int .i64)×Unit)):=fix fun d=>b_S_l8Take_6 d.1 d.2.1 d.2.2.1 d.2.2.2.1 d.2.2.2.2.1 d.2.2.2.2.2.1
noncomputable def lp_S_l8Take_6:Lp:=⟨⟨[],[0,1,6,7,8,9,38,39,40,43,44,45,59,60,61,62,63],[]⟩,sh_S_l8Take_6,o_S_l8Take_6,fun d=>b_S_l8Take_6 d.1 d.2.1 d.2.2.1 d.2.2.2.1 d.2.2.2.2.1 d.2.2.2.2.2.1⟩
noncomputable def sh_S_l8Take_3:List Sh:=mkSh 81 [(0,.val S_string .b),(1,.val .str .b),(6,.val S_spec_l8Line (.row (.pr .b (.pr .b .b)))),(7,.val (.int .i64) .b)]
noncomputable def o_S_l8Take_3:List Out:=[⟨.exit 0,⟨[],[6,7],[]⟩,mkSh 81 [(6,.val S_spec_l8Line (.row (.pr .b (.pr .b .b)))),(7,.val (.int .i64) .b)]⟩]
noncomputable def b_S_l8Take_3 (t0:PV S_string)(t1:PV .str)(t6:PV S_spec_l8Line)(t7:PV (.int .i64)):Option ((PV S_string×PV .str×PV S_spec_l8Line×PV (.int .i64)×Unit)⊕((PV S_spec_l8Line×PV (.int .i64)×Unit))):=bif (decide (t7<(t0.length:Int))) then bif inB t7 t0.length then(w_S_l8Take_6 (t0,t1,t6,t7,(t0.getD t7.toNat []),0,())).bind fun l7=>bif (l7.2.2.2.2.2.1==(l7.2.1.length:Int)) then some (.inr (l7.2.2.1,l7.2.2.2.1,())) else bif (decide ((l7.2.2.2.2.1.length:Int)<3)) then some (.inr (l7.2.2.1,l7.2.2.2.1,())) else bif inB 1 l7.2.2.2.2.1.length then bif (!(((l7.2.2.2.2.1.getD (1:Int).toNat 0).toNat:Int)==32)) then some (.inr (l7.2.2.1,l7.2.2.2.1,())) else bif inB 0 l7.2.2.2.2.1.length then bif cutB 2 (l7.2.2.2.2.1.length:Int) l7.2.2.2.2.1.length then((((bif (decide ((IntKind.wrap .i64 (l7.2.2.2.1+1))<(l7.1.length:Int))) then bif inB (IntKind.wrap .i64 (l7.2.2.2.1+1)) l7.1.length then some (l7.1,l7.2.1,l7.2.2.1,(IntKind.wrap .i64 (l7.2.2.2.1+1)),(((l7.2.2.2.2.1.getD (0:Int).toNat 0).toNat:Int),((cutL 2 (l7.2.2.2.2.1.length:Int) l7.2.2.2.2.1),())),l7.2.2.2.2.1,(l7.2.2.2.2.1.length:Int),(decide ((l7.2.2.2.2.1.length:Int)<3)),l7.2.2.2.2.1,((l7.2.2.2.2.1.getD (1:Int).toNat 0).toNat:Int),(!(((l7.2.2.2.2.1.getD (1:Int).toNat 0).toNat:Int)==32)),((l7.1.getD ((IntKind.wrap .i64 (l7.2.2.2.1+1)).toNat) [])==[92,32,110,111,110,101,10]),()) else none else some (l7.1,l7.2.1,l7.2.2.1,(IntKind.wrap .i64 (l7.2.2.2.1+1)),(((l7.2.2.2.2.1.getD (0:Int).toNat 0).toNat:Int),((cutL 2 (l7.2.2.2.2.1.length:Int) l7.2.2.2.2.1),())),l7.2.2.2.2.1,(l7.2.2.2.2.1.length:Int),(decide ((l7.2.2.2.2.1.length:Int)<3)),l7.2.2.2.2.1,((l7.2.2.2.2.1.getD (1:Int).toNat 0).toNat:Int),(!(((l7.2.2.2.2.1.getD (1:Int).toNat 0).toNat:Int)==32)),false,()):Option ((PV S_string×PV .str×PV S_spec_l8Line×PV (.int .i64)×PV Y_spec_l8Line×PV .str×PV (.int .i64)×PV .bool×PV .str×PV (.int .u8)×PV .bool×PV .bool×Unit)))).bind fun j8=>bif j8.2.2.2.2.2.2.2.2.2.2.2.1 then bif cutB 0 (IntKind.wrap .i64 ((j8.2.2.2.2.1.2.1.length:Int) -1)) j8.2.2.2.2.1.2.1.length then some (j8.1,j8.2.1,j8.2.2.1,(IntKind.wrap .i64 (j8.2.2.2.1+1)),(j8.2.2.2.2.1.1,((cutL 0 (IntKind.wrap .i64 ((j8.2.2.2.2.1.2.1.length:Int) -1)) j8.2.2.2.2.1.2.1),j8.2.2.2.2.1.2.2)),j8.2.2.2.2.2.1,j8.2.2.2.2.2.2.1,j8.2.2.2.2.2.2.2.1,j8.2.2.2.2.2.2.2.2.1,j8.2.2.2.2.2.2.2.2.2.1,j8.2.2.2.2.2.2.2.2.2.2.1,()) else none else some (j8.1,j8.2.1,j8.2.2.1,j8.2.2.2.1,j8.2.2.2.2.1,j8.2.2.2.2.2.1,j8.2.2.2.2.2.2.1,j8.2.2.2.2.2.2.2.1,j8.2.2.2.2.2.2.2.2.1,j8.2.2.2.2.2.2.2.2.2.1,j8.2.2.2.2.2.2.2.2.2.2.1,()):Option ((PV S_string×PV .str×PV S_spec_l8Line×PV (.int .i64)×PV Y_spec_l8Line×PV .str×PV (.int .i64)×PV .bool×PV .str×PV (.int .u8)×PV .bool×Unit)))).bind fun j9=>bif roomB (j9.2.2.1.length+[j9.2.2.2.2.1].length) then some (.inl (j9.1,j9.2.1,(j9.2.2.1++[j9.2.2.2.2.1]),j9.2.2.2.1,())) else none else none else none else none else none else some (.inr (t6,t7,()))
noncomputable def w_S_l8Take_3:PV S_string×PV .str×PV S_spec_l8Line×PV (.int .i64)×Unit→Option ((PV S_spec_l8Line×PV (.int .i64)×Unit)):=fix fun d=>b_S_l8Take_3 d.1 d.2.1 d.2.2.1 d.2.2.2.1
noncomputable def lp_S_l8Take_3:Lp:=⟨⟨[],[0,1,6,7,24,25,26,27,28,29,59,60,61,62,63],[]⟩,sh_S_l8Take_3,o_S_l8Take_3,fun d=>b_S_l8Take_3 d.1 d.2.1 d.2.2.1 d.2.2.2.1⟩
noncomputable def pl_S_l8Take:Plan:=⟨[(12,o_S_l8Take_12),(14,o_S_l8Take_14)],[(6,lp_S_l8Take_6),(3,lp_S_l8Take_3)],0,0⟩
noncomputable def f_S_l8Take (t0:PV S_string)(t1:PV .str):Option (PVs [S_spec_l8Line,(.int .i64)]×PVs []):=(w_S_l8Take_3 (t0,t1,[],0,())).bind fun l11=>some ((l11.1,l11.2.1,()),())
noncomputable def ct_S_l8Take:Ct:=⟨[(.bor,S_string),(.bor,.str)],[(S_spec_l8Line,(.row (.pr .b (.pr .b .b)))),((.int .i64),.b)],fun x=>f_S_l8Take x.1 x.2.1⟩
noncomputable def cx_S_l8Take:Cx:=⟨tab,arrs,[],[],gl,[]⟩
theorem eb_S_l8Take_3 (t0:PV S_string)(t1:PV .str)(t6:PV S_spec_l8Line)(t7:PV (.int .i64)):denK cx_S_l8Take (rcN cx_S_l8Take 0) pl_S_l8Take 0 ((loopsOf (bodyOf Tryz.f176)).getD 0 .skip) (fillS sh_S_l8Take_3 (t0,t1,t6,t7,())) (roundK 0 lp_S_l8Take_3)=b_S_l8Take_3 t0 t1 t6 t7:=by kernel_rfl
theorem eb_S_l8Take_6 (t0:PV S_string)(t1:PV .str)(t6:PV S_spec_l8Line)(t7:PV (.int .i64))(t8:PV .str)(t9:PV (.int .i64)):denK cx_S_l8Take (rcN cx_S_l8Take 0) pl_S_l8Take 0 ((loopsOf (bodyOf Tryz.f176)).getD 1 .skip) (fillS sh_S_l8Take_6 (t0,t1,t6,t7,t8,t9,())) (roundK 0 lp_S_l8Take_6)=b_S_l8Take_6 t0 t1 t6 t7 t8 t9:=by kernel_rfl
theorem ef_S_l8Take (t0:PV S_string)(t1:PV .str):denF cx_S_l8Take 0 pl_S_l8Take Tryz.f176.ntmps (bodyOf Tryz.f176) Tryz.f176.results.toList [(.bor,S_string),(.bor,.str)] [(S_spec_l8Line,(.row (.pr .b (.pr .b .b)))),((.int .i64),.b)] (t0,t1,())=f_S_l8Take t0 t1:=by kernel_rfl
theorem ok_S_l8Take:FnOk gl Tryz.prog 176 ct_S_l8Take:=
 fnOk (cx:=cx_S_l8Take) (pl:=pl_S_l8Take) (dp:=0) (ok0_of tabOk (by unfold ArrOk;kernel_rfl) mix trivial trivial) Tryz.func176 (by kernel_rfl) (by kernel_rfl) (by kernel_rfl)
  (by rw[show loopsOf (bodyOf Tryz.f176)=[((loopsOf (bodyOf Tryz.f176)).getD 0 .skip),((loopsOf (bodyOf Tryz.f176)).getD 1 .skip)] from by kernel_rfl];exact⟨(by rw[show lookup pl_S_l8Take.loops (firstId ((loopsOf (bodyOf Tryz.f176)).getD 0 .skip))=some lp_S_l8Take_3 from by kernel_rfl];exact fun d z h=>(eb_S_l8Take_3 d.1 d.2.1 d.2.2.1 d.2.2.2.1).trans h),(by rw[show lookup pl_S_l8Take.loops (firstId ((loopsOf (bodyOf Tryz.f176)).getD 1 .skip))=some lp_S_l8Take_6 from by kernel_rfl];exact fun d z h=>(eb_S_l8Take_6 d.1 d.2.1 d.2.2.1 d.2.2.2.1 d.2.2.2.2.1 d.2.2.2.2.2.1).trans h),trivial⟩) (fun x=>ef_S_l8Take x.1 x.2.1)
noncomputable def o_S_l8Rows_8:List Out:=[⟨.normal,⟨[],[0,1,3,17,18,19,51,52,53,54,79,80,81,82,83,84,103,104,105,106,107,108],[]⟩,mkSh 122 [(0,.val S_spec_l8Line (.row (.pr .b (.pr .b .b)))),(1,.val S_spec_l8Line .b),(3,.val .bool .b),(17,.val S_spec_l8Line .b),(18,.val (.int .i64) .b),(19,.val (.int .i64) .b)]⟩]
noncomputable def o_S_l8Rows_9:List Out:=[⟨.normal,⟨[(0,.b)],[0,1,3,51,52,53,54,79,80,81,82,83,84,103,104,105,106,107,108],[]⟩,mkSh 122 [(0,.val S_spec_l8Line .b),(1,.val S_spec_l8Line .b),(3,.val .bool .b)]⟩]
noncomputable def o_S_l8Rows_16:List Out:=[⟨.normal,⟨[],[0,1,32,33,34,51,52,53,54,79,80,81,82,83,84,103,104,105,106,107,108],[]⟩,mkSh 122 [(0,.val S_spec_l8Line .b),(1,.val S_spec_l8Line (.row (.pr .b (.pr .b .b)))),(32,.val S_spec_l8Line .b),(33,.val (.int .i64) .b),(34,.val (.int .i64) .b)]⟩]
noncomputable def o_S_l8Rows_17:List Out:=[⟨.normal,⟨[(1,.b)],[0,1,51,52,53,54,79,80,81,82,83,84,103,104,105,106,107,108],[]⟩,mkSh 122 [(0,.val S_spec_l8Line .b),(1,.val S_spec_l8Line .b)]⟩]
noncomputable def o_S_l8Rows_24:List Out:=[⟨.exit 4,⟨[],[13],[]⟩,mkSh 122 [(13,.val S_impl_Row (.row (.pr .b (.pr .b .b))))]⟩,⟨.normal,⟨[],[0,1,13,14,15,79,80,81,82,83,84,103,104,105,106,107,108],[]⟩,mkSh 122 [(0,.val S_spec_l8Line .b),(1,.val S_spec_l8Line .b),(13,.val S_impl_Row (.row (.pr .b (.pr .b .b)))),(14,.val (.int .i64) .b),(15,.val (.int .i64) .b)]⟩]
noncomputable def o_S_l8Rows_25:List Out:=[⟨.normal,⟨[],[0,1,13,14,15,51,52,53,54,73,103,104,105,106,107,108],[]⟩,mkSh 122 [(0,.val S_spec_l8Line .b),(1,.val S_spec_l8Line .b),(13,.val S_impl_Row (.row (.pr .b (.pr .b .b)))),(14,.val (.int .i64) .b),(15,.val (.int .i64) .b),(73,.val .bool .b)]⟩]
noncomputable def o_S_l8Rows_28:List Out:=[⟨.normal,⟨[],[0,1,13,14,15,51,52,53,54,79,80,81,82,83,84,97],[]⟩,mkSh 122 [(0,.val S_spec_l8Line .b),(1,.val S_spec_l8Line .b),(13,.val S_impl_Row (.row (.pr .b (.pr .b .b)))),(14,.val (.int .i64) .b),(15,.val (.int .i64) .b),(97,.val .bool .b)]⟩]
noncomputable def o_S_l8Rows_22:List Out:=[⟨.normal,⟨[],[0,1,13,14,15,51,52,53,54,79,80,81,82,83,84,103,104,105,106,107,108],[]⟩,mkSh 122 [(0,.val S_spec_l8Line .b),(1,.val S_spec_l8Line .b),(13,.val S_impl_Row (.row (.pr .b (.pr .b .b)))),(14,.val (.int .i64) .b),(15,.val (.int .i64) .b)]⟩]
noncomputable def sh_S_l8Rows_4:List Sh:=mkSh 122 [(0,.val S_spec_l8Line (.row (.pr .b (.pr .b .b)))),(1,.val S_spec_l8Line .b),(3,.val .bool .b),(17,.val S_spec_l8Line .b),(18,.val (.int .i64) .b),(19,.val (.int .i64) .b)]
noncomputable def o_S_l8Rows_4:List Out:=[⟨.exit 0,⟨[],[0,1,3,51,52,53,54,79,80,81,82,83,84,103,104,105,106,107,108],[]⟩,mkSh 122 [(0,.val S_spec_l8Line (.row (.pr .b (.pr .b .b)))),(1,.val S_spec_l8Line .b),(3,.val .bool .b)]⟩]
noncomputable def b_S_l8Rows_4 (t0:PV S_spec_l8Line)(t1:PV S_spec_l8Line)(t3:PV .bool)(t17:PV S_spec_l8Line)(t18:PV (.int .i64))(t19:PV (.int .i64)):Option ((PV S_spec_l8Line×PV S_spec_l8Line×PV .bool×PV S_spec_l8Line×PV (.int .i64)×PV (.int .i64)×Unit)⊕((PV S_spec_l8Line×PV S_spec_l8Line×PV .bool×Unit))):=bif (decide (t19<t18)) then((bif inB t19 t17.length then bif (((t17.getD t19.toNat (dflt Y_spec_l8Line)).1)==32) then bif roomB (t0.length+[(t17.getD t19.toNat (dflt Y_spec_l8Line))].length) then some ((t0++[(t17.getD t19.toNat (dflt Y_spec_l8Line))]),t1,t3,t17,t18,t19,()) else none else some (t0,t1,t3,t17,t18,t19,()) else none:Option ((PV S_spec_l8Line×PV S_spec_l8Line×PV .bool×PV S_spec_l8Line×PV (.int .i64)×PV (.int .i64)×Unit)))).bind fun j1=>some (.inl (j1.1,j1.2.1,j1.2.2.1,j1.2.2.2.1,j1.2.2.2.2.1,(IntKind.wrap .i64 (j1.2.2.2.2.2.1+1)),())) else some (.inr (t0,t1,t3,()))
noncomputable def w_S_l8Rows_4:PV S_spec_l8Line×PV S_spec_l8Line×PV .bool×PV S_spec_l8Line×PV (.int .i64)×PV (.int .i64)×Unit→Option ((PV S_spec_l8Line×PV S_spec_l8Line×PV .bool×Unit)):=fix fun d=>b_S_l8Rows_4 d.1 d.2.1 d.2.2.1 d.2.2.2.1 d.2.2.2.2.1 d.2.2.2.2.2.1
noncomputable def lp_S_l8Rows_4:Lp:=⟨⟨[],[0,1,3,17,18,19,51,52,53,54,79,80,81,82,83,84,103,104,105,106,107,108],[]⟩,sh_S_l8Rows_4,o_S_l8Rows_4,fun d=>b_S_l8Rows_4 d.1 d.2.1 d.2.2.1 d.2.2.2.1 d.2.2.2.2.1 d.2.2.2.2.2.1⟩
noncomputable def sh_S_l8Rows_12:List Sh:=mkSh 122 [(0,.val S_spec_l8Line .b),(1,.val S_spec_l8Line (.row (.pr .b (.pr .b .b)))),(32,.val S_spec_l8Line .b),(33,.val (.int .i64) .b),(34,.val (.int .i64) .b)]
noncomputable def o_S_l8Rows_12:List Out:=[⟨.exit 2,⟨[],[0,1,51,52,53,54,79,80,81,82,83,84,103,104,105,106,107,108],[]⟩,mkSh 122 [(0,.val S_spec_l8Line .b),(1,.val S_spec_l8Line (.row (.pr .b (.pr .b .b))))]⟩]
noncomputable def b_S_l8Rows_12 (t0:PV S_spec_l8Line)(t1:PV S_spec_l8Line)(t32:PV S_spec_l8Line)(t33:PV (.int .i64))(t34:PV (.int .i64)):Option ((PV S_spec_l8Line×PV S_spec_l8Line×PV S_spec_l8Line×PV (.int .i64)×PV (.int .i64)×Unit)⊕((PV S_spec_l8Line×PV S_spec_l8Line×Unit))):=bif (decide (t34<t33)) then((bif inB t34 t32.length then bif (((t32.getD t34.toNat (dflt Y_spec_l8Line)).1)==32) then bif roomB (t1.length+[(t32.getD t34.toNat (dflt Y_spec_l8Line))].length) then some (t0,(t1++[(t32.getD t34.toNat (dflt Y_spec_l8Line))]),t32,t33,t34,()) else none else some (t0,t1,t32,t33,t34,()) else none:Option ((PV S_spec_l8Line×PV S_spec_l8Line×PV S_spec_l8Line×PV (.int .i64)×PV (.int .i64)×Unit)))).bind fun j5=>some (.inl (j5.1,j5.2.1,j5.2.2.1,j5.2.2.2.1,(IntKind.wrap .i64 (j5.2.2.2.2.1+1)),())) else some (.inr (t0,t1,()))
noncomputable def w_S_l8Rows_12:PV S_spec_l8Line×PV S_spec_l8Line×PV S_spec_l8Line×PV (.int .i64)×PV (.int .i64)×Unit→Option ((PV S_spec_l8Line×PV S_spec_l8Line×Unit)):=fix fun d=>b_S_l8Rows_12 d.1 d.2.1 d.2.2.1 d.2.2.2.1 d.2.2.2.2.1
noncomputable def lp_S_l8Rows_12:Lp:=⟨⟨[],[0,1,32,33,34,51,52,53,54,79,80,81,82,83,84,103,104,105,106,107,108],[]⟩,sh_S_l8Rows_12,o_S_l8Rows_12,fun d=>b_S_l8Rows_12 d.1 d.2.1 d.2.2.1 d.2.2.2.1 d.2.2.2.2.1⟩
noncomputable def sh_S_l8Rows_19:List Sh:=mkSh 122 [(0,.val S_spec_l8Line .b),(1,.val S_spec_l8Line .b),(13,.val S_impl_Row (.row (.pr .b (.pr .b .b)))),(14,.val (.int .i64) .b),(15,.val (.int .i64) .b)]
noncomputable def o_S_l8Rows_19:List Out:=[⟨.exit 4,⟨[],[13],[]⟩,mkSh 122 [(13,.val S_impl_Row (.row (.pr .b (.pr .b .b))))]⟩]
noncomputable def b_S_l8Rows_19 (t0:PV S_spec_l8Line)(t1:PV S_spec_l8Line)(t13:PV S_impl_Row)(t14:PV (.int .i64))(t15:PV (.int .i64)):Option ((PV S_spec_l8Line×PV S_spec_l8Line×PV S_impl_Row×PV (.int .i64)×PV (.int .i64)×Unit)⊕((PV S_impl_Row×Unit))):=
 ((
   bif (decide (t14<(t0.length:Int))) then
    some (.inr (t0,t1,t13,t14,t15,()))
   else
    bif (decide (t15<(t1.length:Int))) then
     some (.inr (t0,t1,t13,t14,t15,()))
    else
     some (.inl (t13,())):Option ((PV S_impl_Row×Unit)⊕(PV S_spec_l8Line×PV S_spec_l8Line×PV S_impl_Row×PV (.int .i64)×PV (.int .i64)×Unit)))).bind fun x16=>
   match x16 with
   | .inl j9=>
     some (.inr (j9.1,()))
   | .inr j10=>
     ((
       bif (decide (j10.2.2.2.1<(j10.1.length:Int))) then
        bif inB j10.2.2.2.1 j10.1.length then
         some (j10.1,j10.2.1,j10.2.2.1,j10.2.2.2.1,j10.2.2.2.2.1,(!(((j10.1.getD j10.2.2.2.1.toNat (dflt Y_spec_l8Line)).1)==32)),())
        else
         none
       else
        some (j10.1,j10.2.1,j10.2.2.1,j10.2.2.2.1,j10.2.2.2.2.1,false,()):Option ((PV S_spec_l8Line×PV S_spec_l8Line×PV S_impl_Row×PV (.int .i64)×PV (.int .i64)×PV .bool×Unit)))).bind fun j11=>
       bif j11.2.2.2.2.2.1 then
        bif inB j11.2.2.2.1 j11.1.length then
         bif roomB (j11.2.2.1.length+[(2,(((j11.1.getD j11.2.2.2.1.toNat (dflt Y_spec_l8Line)).2).1,()))].length) then
          some (.inl (j11.1,j11.2.1,(j11.2.2.1++[(2,(((j11.1.getD j11.2.2.2.1.toNat (dflt Y_spec_l8Line)).2).1,()))]),(IntKind.wrap .i64 (j11.2.2.2.1+1)),j11.2.2.2.2.1,()))
         else
          none
        else
         none
       else
        ((
          bif (decide (j11.2.2.2.2.1<(j11.2.1.length:Int))) then
           bif inB j11.2.2.2.2.1 j11.2.1.length then
            some (j11.1,j11.2.1,j11.2.2.1,j11.2.2.2.1,j11.2.2.2.2.1,(!(((j11.2.1.getD j11.2.2.2.2.1.toNat (dflt Y_spec_l8Line)).1)==32)),())
           else
            none
          else
           some (j11.1,j11.2.1,j11.2.2.1,j11.2.2.2.1,j11.2.2.2.2.1,false,()):Option ((PV S_spec_l8Line×PV S_spec_l8Line×PV S_impl_Row×PV (.int .i64)×PV (.int .i64)×PV .bool×Unit)))).bind fun j12=>
          bif j12.2.2.2.2.2.1 then
           bif inB j12.2.2.2.2.1 j12.2.1.length then
            bif roomB (j12.2.2.1.length+[(3,(((j12.2.1.getD j12.2.2.2.2.1.toNat (dflt Y_spec_l8Line)).2).1,()))].length) then
             some (.inl (j12.1,j12.2.1,(j12.2.2.1++[(3,(((j12.2.1.getD j12.2.2.2.2.1.toNat (dflt Y_spec_l8Line)).2).1,()))]),j12.2.2.2.1,(IntKind.wrap .i64 (j12.2.2.2.2.1+1)),()))
            else
             none
           else
            none
          else
           ((
             bif (decide (j12.2.2.2.1<(j12.1.length:Int))) then
              bif inB j12.2.2.2.1 j12.1.length then
               bif roomB (j12.2.2.1.length+[(1,(((j12.1.getD j12.2.2.2.1.toNat (dflt Y_spec_l8Line)).2).1,()))].length) then
                some (j12.1,j12.2.1,(j12.2.2.1++[(1,(((j12.1.getD j12.2.2.2.1.toNat (dflt Y_spec_l8Line)).2).1,()))]),j12.2.2.2.1,j12.2.2.2.2.1,())
               else
                none
              else
               none
             else
              some (j12.1,j12.2.1,j12.2.2.1,j12.2.2.2.1,j12.2.2.2.2.1,()):Option ((PV S_spec_l8Line×PV S_spec_l8Line×PV S_impl_Row×PV (.int .i64)×PV (.int .i64)×Unit)))).bind fun j13=>
             some (.inl (j13.1,j13.2.1,j13.2.2.1,(IntKind.wrap .i64 (j13.2.2.2.1+1)),(IntKind.wrap .i64 (j13.2.2.2.2.1+1)),()))
noncomputable def w_S_l8Rows_19:PV S_spec_l8Line×PV S_spec_l8Line×PV S_impl_Row×PV (.int .i64)×PV (.int .i64)×Unit→Option ((PV S_impl_Row×Unit)):=fix fun d=>b_S_l8Rows_19 d.1 d.2.1 d.2.2.1 d.2.2.2.1 d.2.2.2.2.1
noncomputable def lp_S_l8Rows_19:Lp:=⟨⟨[],[0,1,13,14,15,51,52,53,54,79,80,81,82,83,84,103,104,105,106,107,108],[]⟩,sh_S_l8Rows_19,o_S_l8Rows_19,fun d=>b_S_l8Rows_19 d.1 d.2.1 d.2.2.1 d.2.2.2.1 d.2.2.2.2.1⟩
noncomputable def pl_S_l8Rows:Plan:=⟨[(8,o_S_l8Rows_8),(9,o_S_l8Rows_9),(16,o_S_l8Rows_16),(17,o_S_l8Rows_17),(24,o_S_l8Rows_24),(25,o_S_l8Rows_25),(28,o_S_l8Rows_28),(22,o_S_l8Rows_22)],[(4,lp_S_l8Rows_4),(12,lp_S_l8Rows_12),(19,lp_S_l8Rows_19)],0,0⟩
noncomputable def f_S_l8Rows (t0:PV S_spec_l8Line)(t1:PV S_spec_l8Line)(t2:PV .bool)(t3:PV .bool):Option (PVs [S_impl_Row]×PVs []):=((bif t2 then(w_S_l8Rows_4 ([],t1,t3,t1,(t1.length:Int),0,())).bind fun l3=>some (l3.1,l3.2.1,l3.2.2.1,()) else some (t0,t1,t3,()):Option ((PV S_spec_l8Line×PV S_spec_l8Line×PV .bool×Unit)))).bind fun j4=>((bif j4.2.2.1 then(w_S_l8Rows_12 (j4.1,[],j4.1,(j4.1.length:Int),0,())).bind fun l7=>some (l7.1,l7.2.1,()) else some (j4.1,j4.2.1,()):Option ((PV S_spec_l8Line×PV S_spec_l8Line×Unit)))).bind fun j8=>(w_S_l8Rows_19 (j8.1,j8.2.1,[],0,0,())).bind fun l15=>some ((l15.1,()),())
noncomputable def ct_S_l8Rows:Ct:=⟨[(.bor,S_spec_l8Line),(.bor,S_spec_l8Line),(.bor,.bool),(.bor,.bool)],[(S_impl_Row,(.row (.pr .b (.pr .b .b))))],fun x=>f_S_l8Rows x.1 x.2.1 x.2.2.1 x.2.2.2.1⟩
noncomputable def cx_S_l8Rows:Cx:=⟨tab,arrs,[],[],gl,[]⟩
theorem eb_S_l8Rows_4 (t0:PV S_spec_l8Line)(t1:PV S_spec_l8Line)(t3:PV .bool)(t17:PV S_spec_l8Line)(t18:PV (.int .i64))(t19:PV (.int .i64)):denK cx_S_l8Rows (rcN cx_S_l8Rows 0) pl_S_l8Rows 0 ((loopsOf (bodyOf Tryz.f177)).getD 0 .skip) (fillS sh_S_l8Rows_4 (t0,t1,t3,t17,t18,t19,())) (roundK 0 lp_S_l8Rows_4)=b_S_l8Rows_4 t0 t1 t3 t17 t18 t19:=by kernel_rfl
theorem eb_S_l8Rows_12 (t0:PV S_spec_l8Line)(t1:PV S_spec_l8Line)(t32:PV S_spec_l8Line)(t33:PV (.int .i64))(t34:PV (.int .i64)):denK cx_S_l8Rows (rcN cx_S_l8Rows 0) pl_S_l8Rows 0 ((loopsOf (bodyOf Tryz.f177)).getD 1 .skip) (fillS sh_S_l8Rows_12 (t0,t1,t32,t33,t34,())) (roundK 0 lp_S_l8Rows_12)=b_S_l8Rows_12 t0 t1 t32 t33 t34:=by kernel_rfl
theorem eb_S_l8Rows_19 (t0:PV S_spec_l8Line)(t1:PV S_spec_l8Line)(t13:PV S_impl_Row)(t14:PV (.int .i64))(t15:PV (.int .i64)):denK cx_S_l8Rows (rcN cx_S_l8Rows 0) pl_S_l8Rows 0 ((loopsOf (bodyOf Tryz.f177)).getD 2 .skip) (fillS sh_S_l8Rows_19 (t0,t1,t13,t14,t15,())) (roundK 0 lp_S_l8Rows_19)=b_S_l8Rows_19 t0 t1 t13 t14 t15:=by kernel_rfl
theorem ef_S_l8Rows (t0:PV S_spec_l8Line)(t1:PV S_spec_l8Line)(t2:PV .bool)(t3:PV .bool):denF cx_S_l8Rows 0 pl_S_l8Rows Tryz.f177.ntmps (bodyOf Tryz.f177) Tryz.f177.results.toList [(.bor,S_spec_l8Line),(.bor,S_spec_l8Line),(.bor,.bool),(.bor,.bool)] [(S_impl_Row,(.row (.pr .b (.pr .b .b))))] (t0,t1,t2,t3,())=f_S_l8Rows t0 t1 t2 t3:=by kernel_rfl
theorem ok_S_l8Rows:FnOk gl Tryz.prog 177 ct_S_l8Rows:=
 fnOk (cx:=cx_S_l8Rows) (pl:=pl_S_l8Rows) (dp:=0) (ok0_of tabOk (by unfold ArrOk;kernel_rfl) mix trivial trivial) Tryz.func177 (by kernel_rfl) (by kernel_rfl) (by kernel_rfl)
  (by rw[show loopsOf (bodyOf Tryz.f177)=[((loopsOf (bodyOf Tryz.f177)).getD 0 .skip),((loopsOf (bodyOf Tryz.f177)).getD 1 .skip),((loopsOf (bodyOf Tryz.f177)).getD 2 .skip)] from by kernel_rfl];exact⟨(by rw[show lookup pl_S_l8Rows.loops (firstId ((loopsOf (bodyOf Tryz.f177)).getD 0 .skip))=some lp_S_l8Rows_4 from by kernel_rfl];exact fun d z h=>(eb_S_l8Rows_4 d.1 d.2.1 d.2.2.1 d.2.2.2.1 d.2.2.2.2.1 d.2.2.2.2.2.1).trans h),(by rw[show lookup pl_S_l8Rows.loops (firstId ((loopsOf (bodyOf Tryz.f177)).getD 1 .skip))=some lp_S_l8Rows_12 from by kernel_rfl];exact fun d z h=>(eb_S_l8Rows_12 d.1 d.2.1 d.2.2.1 d.2.2.2.1 d.2.2.2.2.1).trans h),(by rw[show lookup pl_S_l8Rows.loops (firstId ((loopsOf (bodyOf Tryz.f177)).getD 2 .skip))=some lp_S_l8Rows_19 from by kernel_rfl];exact fun d z h=>(eb_S_l8Rows_19 d.1 d.2.1 d.2.2.1 d.2.2.2.1 d.2.2.2.2.1).trans h),trivial⟩) (fun x=>ef_S_l8Rows x.1 x.2.1 x.2.2.1 x.2.2.2.1)
noncomputable def pl_S_l8At:Plan:=⟨[],[],0,0⟩
noncomputable def f_S_l8At (t0:PV (.int .i64))(t1:PV (.int .i64)):Option (PVs [(.int .i64)]×PVs []):=bif (decide (t1>0)) then some (((IntKind.wrap .i64 (t0 -1)),()),()) else some ((t0,()),())
noncomputable def ct_S_l8At:Ct:=⟨[(.bor,(.int .i64)),(.bor,(.int .i64))],[((.int .i64),.b)],fun x=>f_S_l8At x.1 x.2.1⟩
noncomputable def cx_S_l8At:Cx:=⟨tab,arrs,[],[],gl,[]⟩
theorem ef_S_l8At (t0:PV (.int .i64))(t1:PV (.int .i64)):denF cx_S_l8At 0 pl_S_l8At Tryz.f178.ntmps (bodyOf Tryz.f178) Tryz.f178.results.toList [(.bor,(.int .i64)),(.bor,(.int .i64))] [((.int .i64),.b)] (t0,t1,())=f_S_l8At t0 t1:=by kernel_rfl
theorem ok_S_l8At:FnOk gl Tryz.prog 178 ct_S_l8At:=
 fnOk (cx:=cx_S_l8At) (pl:=pl_S_l8At) (dp:=0) (ok0_of tabOk (by unfold ArrOk;kernel_rfl) mix trivial trivial) Tryz.func178 (by kernel_rfl) (by kernel_rfl) (by kernel_rfl)
  (by rw[show loopsOf (bodyOf Tryz.f178)=[] from by kernel_rfl];exact trivial) (fun x=>ef_S_l8At x.1 x.2.1)
noncomputable def o_S_l8One_2:List Out:=[⟨.normal,⟨[],[0,2,23,42,43,44,45,46],[]⟩,mkSh 95 [(0,.val S_string .b),(2,.var Y_impl_Group (.pr .b (.pr .b (.pr (.row (.pr .b (.pr .b .b))) .b)))),(23,.val .bool .b)]⟩]
noncomputable def o_S_l8One_6:List Out:=[⟨.normal,⟨[],[0,2,4,7,8,47],[]⟩,mkSh 95 [(0,.val S_string .b),(2,.var Y_impl_Group (.pr .b (.pr .b (.pr (.row (.pr .b (.pr .b .b))) .b)))),(4,.val (.int .i64) .b),(7,.val S_spec_l8Line (.row (.pr .b (.pr .b .b)))),(8,.val (.int .i64) .b),(47,.val .bool .b)]⟩]
noncomputable def pl_S_l8One:Plan:=⟨[(2,o_S_l8One_2),(6,o_S_l8One_6)],[],0,0⟩
noncomputable def f_S_l8One (t0:PV S_string):Option (PVs [Y_impl_Group,(.int .i64)]×PVs []):=((bif (decide ((t0.length:Int)<3)) then some (t0,(0,(0,(([]:PV S_impl_Row),()))),true,()) else bif inB 0 t0.length then some (t0,(0,(0,(([]:PV S_impl_Row),()))),(!((t0.getD ((0:Int).toNat) [])==[42,42,42,42,42,42,42,42,42,42,42,42,42,42,42,10])),()) else none:Option ((PV S_string×PV Y_impl_Group×PV .bool×Unit)))).bind fun j2=>bif j2.2.2.1 then some (((0,(0,(([]:PV S_impl_Row),()))),0,()),()) else bif inB 1 j2.1.length then(f_S_l8Range (j2.1.getD ((1:Int).toNat) []) [42,42,42,32] [32,42,42,42,42,10]).bind fun r4=>bif cutB 2 (j2.1.length:Int) j2.1.length then(f_S_l8Take (cutL 2 (j2.1.length:Int) j2.1) [32,45,33]).bind fun r6=>((bif (!r4.1.2.2.1) then some (j2.1,j2.2.1,r4.1.1,r6.1.1,r6.1.2.1,true,()) else some (j2.1,j2.2.1,r4.1.1,r6.1.1,r6.1.2.1,(decide ((IntKind.wrap .i64 (2+r6.1.2.1))≥(j2.1.length:Int))),()):Option ((PV S_string×PV Y_impl_Group×PV (.int .i64)×PV S_spec_l8Line×PV (.int .i64)×PV .bool×Unit)))).bind fun j8=>bif j8.2.2.2.2.2.1 then some (((0,(0,(([]:PV S_impl_Row),()))),0,()),()) else bif inB (IntKind.wrap .i64 (2+j8.2.2.2.2.1)) j8.1.length then(f_S_l8Range (j8.1.getD ((IntKind.wrap .i64 (2+j8.2.2.2.2.1)).toNat) []) [45,45,45,32] [32,45,45,45,45,10]).bind fun r10=>bif cutB (IntKind.wrap .i64 (3+j8.2.2.2.2.1)) (j8.1.length:Int) j8.1.length then(f_S_l8Take (cutL (IntKind.wrap .i64 (3+j8.2.2.2.2.1)) (j8.1.length:Int) j8.1) [32,43,33]).bind fun r12=>bif (!r10.1.2.2.1) then some (((0,(0,(([]:PV S_impl_Row),()))),0,()),()) else(f_S_l8Rows j8.2.2.2.1 r12.1.1 (j8.2.2.2.2.1==0) (r12.1.2.1==0)).bind fun r14=>(f_S_l6Old (0,(0,(r14.1.1,())))).bind fun r17=>(f_S_l8At j8.2.2.1 (r17.1.1.length:Int)).bind fun r18=>(f_S_l6New (r18.1.1,(0,(r14.1.1,())))).bind fun r21=>(f_S_l8At r10.1.1 (r21.1.1.length:Int)).bind fun r22=>some (((r18.1.1,(r22.1.1,(r14.1.1,()))),(IntKind.wrap .i64 ((IntKind.wrap .i64 (3+j8.2.2.2.2.1))+r12.1.2.1)),()),()) else none else none else none else none
noncomputable def ct_S_l8One:Ct:=⟨[(.bor,S_string)],[(Y_impl_Group,(.pr .b (.pr .b (.pr (.row (.pr .b (.pr .b .b))) .b)))),((.int .i64),.b)],fun x=>f_S_l8One x.1⟩
noncomputable def cx_S_l8One:Cx:=⟨tab,arrs,[(163,ct_S_l6Old),(164,ct_S_l6New),(175,ct_S_l8Range),(176,ct_S_l8Take),(177,ct_S_l8Rows),(178,ct_S_l8At)],[],gl,[]⟩
theorem ef_S_l8One (t0:PV S_string):denF cx_S_l8One 0 pl_S_l8One Tryz.f103.ntmps (bodyOf Tryz.f103) Tryz.f103.results.toList [(.bor,S_string)] [(Y_impl_Group,(.pr .b (.pr .b (.pr (.row (.pr .b (.pr .b .b))) .b)))),((.int .i64),.b)] (t0,())=f_S_l8One t0:=by kernel_rfl
theorem ok_S_l8One:FnOk gl Tryz.prog 103 ct_S_l8One:=
 fnOk (cx:=cx_S_l8One) (pl:=pl_S_l8One) (dp:=0) (ok0_of tabOk (by unfold ArrOk;kernel_rfl) mix ⟨ok_S_l6Old,ok_S_l6New,ok_S_l8Range,ok_S_l8Take,ok_S_l8Rows,ok_S_l8At,trivial⟩ trivial) Tryz.func103 (by kernel_rfl) (by kernel_rfl) (by kernel_rfl)
  (by rw[show loopsOf (bodyOf Tryz.f103)=[] from by kernel_rfl];exact trivial) (fun x=>ef_S_l8One x.1)
noncomputable def o_S_ReadContext_12:List Out:=[⟨.normal,⟨[],[6,39],[]⟩,mkSh 41 [(6,.val S_impl_Group (.row (.pr .b (.pr .b (.pr (.row (.pr .b (.pr .b .b))) .b))))),(39,.val .bool .b)]⟩]
noncomputable def sh_S_ReadContext_5:List Sh:=mkSh 41 [(0,.val .str .b),(5,.val S_string .b),(6,.val S_impl_Group (.row (.pr .b (.pr .b (.pr (.row (.pr .b (.pr .b .b))) .b)))))]
noncomputable def o_S_ReadContext_5:List Out:=[⟨.exit 0,⟨[],[0,6,35,36,37,38],[]⟩,mkSh 41 [(0,.val .str .b),(6,.val S_impl_Group (.row (.pr .b (.pr .b (.pr (.row (.pr .b (.pr .b .b))) .b)))))]⟩,⟨.ret,⟨[],[2,3,4],[]⟩,mkSh 41 [(2,.val S_impl_Group (.row (.pr .b (.pr .b (.pr (.row (.pr .b (.pr .b .b))) .b))))),(3,.val (.int .i64) .b),(4,.val .bool .b)]⟩]
noncomputable def b_S_ReadContext_5 (t0:PV .str)(t5:PV S_string)(t6:PV S_impl_Group):Option ((PV .str×PV S_string×PV S_impl_Group×Unit)⊕((PV .str×PV S_impl_Group×Unit)⊕(PV S_impl_Group×PV (.int .i64)×PV .bool×Unit))):=bif (decide ((t5.length:Int)>0)) then(f_S_l8One t5).bind fun r4=>bif (r4.1.2.1==0) then some (.inr (.inr ([],1,false,()))) else bif roomB (t6.length+[r4.1.1].length) then bif cutB r4.1.2.1 (t5.length:Int) t5.length then some (.inl (t0,(cutL r4.1.2.1 (t5.length:Int) t5),(t6++[r4.1.1]),())) else none else none else some (.inr (.inl (t0,t6,())))
noncomputable def w_S_ReadContext_5:PV .str×PV S_string×PV S_impl_Group×Unit→Option ((PV .str×PV S_impl_Group×Unit)⊕(PV S_impl_Group×PV (.int .i64)×PV .bool×Unit)):=fix fun d=>b_S_ReadContext_5 d.1 d.2.1 d.2.2.1
noncomputable def lp_S_ReadContext_5:Lp:=⟨⟨[],[0,5,6,35,36,37,38],[]⟩,sh_S_ReadContext_5,o_S_ReadContext_5,fun d=>b_S_ReadContext_5 d.1 d.2.1 d.2.2.1⟩
noncomputable def pl_S_ReadContext:Plan:=⟨[(12,o_S_ReadContext_12)],[(5,lp_S_ReadContext_5)],0,0⟩
noncomputable def f_S_ReadContext (t0:PV .str):Option (PVs [S_impl_Group,(.int .i64),.bool]×PVs []):=
 bif (decide ((t0.length:Int)>3000)) then
  some (([],1,false,()),())
 else
  (f_S_l1Cut t0).bind fun r2=>
    (w_S_ReadContext_5 (t0,r2.1.1,[],())).bind fun x17=>
      match x17 with
      | .inl l7=>
        ((
          (f_S_l6Good l7.2.1).bind fun r13=>
            bif (!r13.1.1) then
             some (l7.2.1,true,())
            else
             (f_S_l8Text l7.2.1).bind fun r14=>
               some (l7.2.1,(!(r14.1.1==l7.1)),()):Option ((PV S_impl_Group×PV .bool×Unit)))).bind fun j15=>
          bif j15.2.1 then
           some (([],1,false,()),())
          else
           some ((j15.1,0,true,()),())
      | .inr l16=>
        some ((l16.1,l16.2.1,l16.2.2.1,()),())
noncomputable def ct_S_ReadContext:Ct:=⟨[(.bor,.str)],[(S_impl_Group,(.row (.pr .b (.pr .b (.pr (.row (.pr .b (.pr .b .b))) .b))))),((.int .i64),.b),(.bool,.b)],fun x=>f_S_ReadContext x.1⟩
noncomputable def cx_S_ReadContext:Cx:=⟨tab,arrs,[(79,ct_S_l1Cut),(95,ct_S_l6Good),(100,ct_S_l8Text),(103,ct_S_l8One)],[],gl,[]⟩
theorem eb_S_ReadContext_5 (t0:PV .str)(t5:PV S_string)(t6:PV S_impl_Group):denK cx_S_ReadContext (rcN cx_S_ReadContext 0) pl_S_ReadContext 0 ((loopsOf (bodyOf Tryz.f50)).getD 0 .skip) (fillS sh_S_ReadContext_5 (t0,t5,t6,())) (roundK 0 lp_S_ReadContext_5)=b_S_ReadContext_5 t0 t5 t6:=by kernel_rfl
theorem ef_S_ReadContext (t0:PV .str):denF cx_S_ReadContext 0 pl_S_ReadContext Tryz.f50.ntmps (bodyOf Tryz.f50) Tryz.f50.results.toList [(.bor,.str)] [(S_impl_Group,(.row (.pr .b (.pr .b (.pr (.row (.pr .b (.pr .b .b))) .b))))),((.int .i64),.b),(.bool,.b)] (t0,())=f_S_ReadContext t0:=by kernel_rfl
theorem ok_S_ReadContext:FnOk gl Tryz.prog 50 ct_S_ReadContext:=
 fnOk (cx:=cx_S_ReadContext) (pl:=pl_S_ReadContext) (dp:=0) (ok0_of tabOk (by unfold ArrOk;kernel_rfl) mix ⟨ok_S_l1Cut,ok_S_l6Good,ok_S_l8Text,ok_S_l8One,trivial⟩ trivial) Tryz.func50 (by kernel_rfl) (by kernel_rfl) (by kernel_rfl)
  (by rw[show loopsOf (bodyOf Tryz.f50)=[((loopsOf (bodyOf Tryz.f50)).getD 0 .skip)] from by kernel_rfl];exact⟨(by rw[show lookup pl_S_ReadContext.loops (firstId ((loopsOf (bodyOf Tryz.f50)).getD 0 .skip))=some lp_S_ReadContext_5 from by kernel_rfl];exact fun d z h=>(eb_S_ReadContext_5 d.1 d.2.1 d.2.2.1).trans h),trivial⟩) (fun x=>ef_S_ReadContext x.1)
noncomputable def pl_S_DrawOldOf:Plan:=⟨[],[],0,0⟩
noncomputable def f_S_DrawOldOf (t0:PV S_uint8):Option (PVs [Y_impl_Group]×PVs []):=(f_S_DrawGoodGroups t0).bind fun r2=>bif ((r2.1.1.length:Int)==0) then some (((0,(0,([(3,([97,10],()))],()))),()),()) else bif inB 0 r2.1.1.length then some (((r2.1.1.getD ((0:Int).toNat) (dflt Y_impl_Group)),()),()) else none
noncomputable def ct_S_DrawOldOf:Ct:=⟨[(.bor,S_uint8)],[(Y_impl_Group,(.pr .b (.pr .b (.pr (.row (.pr .b (.pr .b .b))) .b))))],fun x=>f_S_DrawOldOf x.1⟩
noncomputable def cx_S_DrawOldOf:Cx:=⟨tab,arrs,[(98,ct_S_DrawGoodGroups)],[],gl,[]⟩
theorem ef_S_DrawOldOf (t0:PV S_uint8):denF cx_S_DrawOldOf 0 pl_S_DrawOldOf Tryz.f104.ntmps (bodyOf Tryz.f104) Tryz.f104.results.toList [(.bor,S_uint8)] [(Y_impl_Group,(.pr .b (.pr .b (.pr (.row (.pr .b (.pr .b .b))) .b))))] (t0,())=f_S_DrawOldOf t0:=by kernel_rfl
theorem ok_S_DrawOldOf:FnOk gl Tryz.prog 104 ct_S_DrawOldOf:=
 fnOk (cx:=cx_S_DrawOldOf) (pl:=pl_S_DrawOldOf) (dp:=0) (ok0_of tabOk (by unfold ArrOk;kernel_rfl) mix ⟨ok_S_DrawGoodGroups,trivial⟩ trivial) Tryz.func104 (by kernel_rfl) (by kernel_rfl) (by kernel_rfl)
  (by rw[show loopsOf (bodyOf Tryz.f104)=[] from by kernel_rfl];exact trivial) (fun x=>ef_S_DrawOldOf x.1)
noncomputable def pl_S_DrawHalfText:Plan:=⟨[],[],0,0⟩
noncomputable def f_S_DrawHalfText (t0:PV S_uint8):Option (PVs [Y_impl_Group,.bool]×PVs []):=(f_S_DrawOldOf t0).bind fun r1=>(f_S_l1Cur_one (t0,(0,(0,()))) 2).bind fun r2=>some ((r1.1.1,r2.1.1,()),())
noncomputable def ct_S_DrawHalfText:Ct:=⟨[(.bor,S_uint8)],[(Y_impl_Group,(.pr .b (.pr .b (.pr (.row (.pr .b (.pr .b .b))) .b)))),(.bool,.b)],fun x=>f_S_DrawHalfText x.1⟩
noncomputable def cx_S_DrawHalfText:Cx:=⟨tab,arrs,[(104,ct_S_DrawOldOf),(105,ct_S_l1Cur_one)],[],gl,[]⟩
theorem ef_S_DrawHalfText (t0:PV S_uint8):denF cx_S_DrawHalfText 0 pl_S_DrawHalfText Tryz.f51.ntmps (bodyOf Tryz.f51) Tryz.f51.results.toList [(.bor,S_uint8)] [(Y_impl_Group,(.pr .b (.pr .b (.pr (.row (.pr .b (.pr .b .b))) .b)))),(.bool,.b)] (t0,())=f_S_DrawHalfText t0:=by kernel_rfl
theorem ok_S_DrawHalfText:FnOk gl Tryz.prog 51 ct_S_DrawHalfText:=
 fnOk (cx:=cx_S_DrawHalfText) (pl:=pl_S_DrawHalfText) (dp:=0) (ok0_of tabOk (by unfold ArrOk;kernel_rfl) mix ⟨ok_S_DrawOldOf,ok_S_l1Cur_one,trivial⟩ trivial) Tryz.func51 (by kernel_rfl) (by kernel_rfl) (by kernel_rfl)
  (by rw[show loopsOf (bodyOf Tryz.f51)=[] from by kernel_rfl];exact trivial) (fun x=>ef_S_DrawHalfText x.1)
noncomputable def pl_I_HalfText:Plan:=⟨[],[],0,0⟩
noncomputable def f_I_HalfText (t0:PV Y_impl_Group)(t1:PV .bool):Option (PVs [.str,.bool]×PVs []):=(f_I_goodGroup t0).bind fun r4=>bif (!r4.1.1) then some (([],false,()),()) else bif t1 then(f_I_Group_half t0 3).bind fun r6=>some ((r6.1.1,true,()),()) else(f_I_Group_half t0 2).bind fun r7=>some ((r7.1.1,true,()),())
noncomputable def ct_I_HalfText:Ct:=⟨[(.bor,Y_impl_Group),(.bor,.bool)],[(.str,.b),(.bool,.b)],fun x=>f_I_HalfText x.1 x.2.1⟩
noncomputable def cx_I_HalfText:Cx:=⟨tab,arrs,[(106,ct_I_goodGroup),(107,ct_I_Group_half)],[],gl,[]⟩
theorem ef_I_HalfText (t0:PV Y_impl_Group)(t1:PV .bool):denF cx_I_HalfText 0 pl_I_HalfText Tryz.f52.ntmps (bodyOf Tryz.f52) Tryz.f52.results.toList [(.bor,Y_impl_Group),(.bor,.bool)] [(.str,.b),(.bool,.b)] (t0,t1,())=f_I_HalfText t0 t1:=by kernel_rfl
theorem ok_I_HalfText:FnOk gl Tryz.prog 52 ct_I_HalfText:=
 fnOk (cx:=cx_I_HalfText) (pl:=pl_I_HalfText) (dp:=0) (ok0_of tabOk (by unfold ArrOk;kernel_rfl) mix ⟨ok_I_goodGroup,ok_I_Group_half,trivial⟩ trivial) Tryz.func52 (by kernel_rfl) (by kernel_rfl) (by kernel_rfl)
  (by rw[show loopsOf (bodyOf Tryz.f52)=[] from by kernel_rfl];exact trivial) (fun x=>ef_I_HalfText x.1 x.2.1)
noncomputable def pl_S_HalfText:Plan:=⟨[],[],0,0⟩
noncomputable def f_S_HalfText (t0:PV Y_impl_Group)(t1:PV .bool):Option (PVs [.str,.bool]×PVs []):=(f_S_l6Group t0).bind fun r4=>bif (!r4.1.1) then some (([],false,()),()) else(f_S_l8Half t0 t1).bind fun r5=>some ((r5.1.1,true,()),())
noncomputable def ct_S_HalfText:Ct:=⟨[(.bor,Y_impl_Group),(.bor,.bool)],[(.str,.b),(.bool,.b)],fun x=>f_S_HalfText x.1 x.2.1⟩
noncomputable def cx_S_HalfText:Cx:=⟨tab,arrs,[(108,ct_S_l6Group),(109,ct_S_l8Half)],[],gl,[]⟩
theorem ef_S_HalfText (t0:PV Y_impl_Group)(t1:PV .bool):denF cx_S_HalfText 0 pl_S_HalfText Tryz.f53.ntmps (bodyOf Tryz.f53) Tryz.f53.results.toList [(.bor,Y_impl_Group),(.bor,.bool)] [(.str,.b),(.bool,.b)] (t0,t1,())=f_S_HalfText t0 t1:=by kernel_rfl
theorem ok_S_HalfText:FnOk gl Tryz.prog 53 ct_S_HalfText:=
 fnOk (cx:=cx_S_HalfText) (pl:=pl_S_HalfText) (dp:=0) (ok0_of tabOk (by unfold ArrOk;kernel_rfl) mix ⟨ok_S_l6Group,ok_S_l8Half,trivial⟩ trivial) Tryz.func53 (by kernel_rfl) (by kernel_rfl) (by kernel_rfl)
  (by rw[show loopsOf (bodyOf Tryz.f53)=[] from by kernel_rfl];exact trivial) (fun x=>ef_S_HalfText x.1 x.2.1)
noncomputable def o_L_FnContext_7:List Out:=[⟨.normal,⟨[],[1,5,6,7,50,61,62,65,66,67,68,88,89,90,93,94,95,96,107,108,109,132,133,134],[]⟩,mkSh 136 [(1,.val S_uint8 .b),(5,.val S_impl_Group (.row (.pr .b (.pr .b (.pr (.row (.pr .b (.pr .b .b))) .b))))),(6,.val .str .b),(7,.val .bool .b),(50,.val .bool .b)]⟩]
noncomputable def o_L_FnContext_11:List Out:=[⟨.normal,⟨[],[1,69,88,89,90,93,94,95,96,107,108,109,132,133,134],[]⟩,mkSh 136 [(1,.val S_uint8 .b),(69,.val .bool .b)]⟩]
noncomputable def o_L_FnContext_12:List Out:=[⟨.normal,⟨[],[1,88,89,90,93,94,95,96,107,108,109,132,133,134],[]⟩,mkSh 136 [(1,.val S_uint8 .b)]⟩,⟨.ret,⟨[],[4],[]⟩,mkSh 136 [(4,.val .bool .b)]⟩]
noncomputable def o_L_FnContext_16:List Out:=[⟨.normal,⟨[],[1,13,14,16,97,107,108,109,132,133,134],[]⟩,mkSh 136 [(1,.val S_uint8 .b),(13,.val .str .b),(14,.val S_impl_Group (.row (.pr .b (.pr .b (.pr (.row (.pr .b (.pr .b .b))) .b))))),(16,.val .bool .b),(97,.val .bool .b)]⟩]
noncomputable def o_L_FnContext_20:List Out:=[⟨.normal,⟨[],[1,110,132,133,134],[]⟩,mkSh 136 [(1,.val S_uint8 .b),(110,.val .bool .b)]⟩]
noncomputable def o_L_FnContext_21:List Out:=[⟨.normal,⟨[],[1,132,133,134],[]⟩,mkSh 136 [(1,.val S_uint8 .b)]⟩,⟨.ret,⟨[],[4],[]⟩,mkSh 136 [(4,.val .bool .b)]⟩]
noncomputable def pl_L_FnContext:Plan:=⟨[(7,o_L_FnContext_7),(11,o_L_FnContext_11),(12,o_L_FnContext_12),(16,o_L_FnContext_16),(20,o_L_FnContext_20),(21,o_L_FnContext_21)],[],0,0⟩
noncomputable def f_L_FnContext (t0:PV S_uint8)(t1:PV S_uint8):Option (PVs [.bool]×PVs []):=
 (f_L_big t0 t1).bind fun r4=>
   bif r4.1.1 then
    some ((true,()),())
   else
    (f_S_DrawSidesText t0).bind fun r6=>
      (f_I_SidesText r6.1.1).bind fun r8=>
        (f_S_SidesText r6.1.1).bind fun r10=>
          ((
            bif (!(r8.1.2.1==r10.1.2.1)) then
             some (t1,r6.1.1,r8.1.1,r8.1.2.1,true,())
            else
             some (t1,r6.1.1,r8.1.1,r8.1.2.1,(!(r8.1.1==r10.1.1)),()):Option ((PV S_uint8×PV S_impl_Group×PV .str×PV .bool×PV .bool×Unit)))).bind fun j12=>
            bif j12.2.2.2.2.1 then
             some ((false,()),())
            else
             ((
               bif j12.2.2.2.1 then
                (f_I_ReadContext j12.2.2.1).bind fun r19=>
                  ((
                    bif (!r19.1.2.2.1) then
                     some (j12.1,true,())
                    else
                     bif (!(r19.1.2.1==0)) then
                      some (j12.1,true,())
                     else
                      (f_L_sameGroups r19.1.1 j12.2.1).bind fun r20=>
                        some (j12.1,(!r20.1.1),()):Option ((PV S_uint8×PV .bool×Unit)))).bind fun j21=>
                    bif j21.2.1 then
                     some (.inr (false,()))
                    else
                     some (.inl (j21.1,()))
               else
                some (.inl (j12.1,())):Option ((PV S_uint8×Unit)⊕(PV .bool×Unit)))).bind fun x49=>
               match x49 with
               | .inl j22=>
                 (f_S_DrawReadContext j22.1).bind fun r24=>
                   (f_I_ReadContext r24.1.1).bind fun r26=>
                     (f_S_ReadContext r24.1.1).bind fun r28=>
                       ((
                         bif (!(r26.1.2.2.1==r28.1.2.2.1)) then
                          some (j22.1,r24.1.1,r26.1.1,r26.1.2.2.1,true,())
                         else
                          bif (!(r26.1.2.1==r28.1.2.1)) then
                           some (j22.1,r24.1.1,r26.1.1,r26.1.2.2.1,true,())
                          else
                           (f_L_sameGroups r26.1.1 r28.1.1).bind fun r32=>
                             some (j22.1,r24.1.1,r26.1.1,r26.1.2.2.1,(!r32.1.1),()):Option ((PV S_uint8×PV .str×PV S_impl_Group×PV .bool×PV .bool×Unit)))).bind fun j33=>
                         bif j33.2.2.2.2.1 then
                          some ((false,()),())
                         else
                          ((
                            bif j33.2.2.2.1 then
                             (f_I_SidesText j33.2.2.1).bind fun r38=>
                               ((
                                 bif (!r38.1.2.1) then
                                  some (j33.1,true,())
                                 else
                                  some (j33.1,(!(r38.1.1==j33.2.1)),()):Option ((PV S_uint8×PV .bool×Unit)))).bind fun j39=>
                                 bif j39.2.1 then
                                  some (.inr (false,()))
                                 else
                                  some (.inl (j39.1,()))
                            else
                             some (.inl (j33.1,())):Option ((PV S_uint8×Unit)⊕(PV .bool×Unit)))).bind fun x50=>
                            match x50 with
                            | .inl j40=>
                              (f_S_DrawHalfText j40.1).bind fun r42=>
                                (f_I_HalfText r42.1.1 r42.1.2.1).bind fun r44=>
                                  (f_S_HalfText r42.1.1 r42.1.2.1).bind fun r46=>
                                    bif (r44.1.2.1==r46.1.2.1) then
                                     some (((r44.1.1==r46.1.1),()),())
                                    else
                                     some ((false,()),())
                            | .inr j47=>
                              some ((j47.1,()),())
               | .inr j48=>
                 some ((j48.1,()),())
noncomputable def ct_L_FnContext:Ct:=⟨[(.bor,S_uint8),(.bor,S_uint8)],[(.bool,.b)],fun x=>f_L_FnContext x.1 x.2.1⟩
noncomputable def cx_L_FnContext:Cx:=⟨tab,arrs,[(10,ct_L_big),(44,ct_L_sameGroups),(45,ct_S_DrawSidesText),(46,ct_I_SidesText),(47,ct_S_SidesText),(48,ct_I_ReadContext),(49,ct_S_DrawReadContext),(50,ct_S_ReadContext),(51,ct_S_DrawHalfText),(52,ct_I_HalfText),(53,ct_S_HalfText)],[],gl,[]⟩
theorem ef_L_FnContext (t0:PV S_uint8)(t1:PV S_uint8):denF cx_L_FnContext 0 pl_L_FnContext Tryz.f9.ntmps (bodyOf Tryz.f9) Tryz.f9.results.toList [(.bor,S_uint8),(.bor,S_uint8)] [(.bool,.b)] (t0,t1,())=f_L_FnContext t0 t1:=by kernel_rfl
theorem ok_L_FnContext:FnOk gl Tryz.prog 9 ct_L_FnContext:=
 fnOk (cx:=cx_L_FnContext) (pl:=pl_L_FnContext) (dp:=0) (ok0_of tabOk (by unfold ArrOk;kernel_rfl) mix ⟨ok_L_big,ok_L_sameGroups,ok_S_DrawSidesText,ok_I_SidesText,ok_S_SidesText,ok_I_ReadContext,ok_S_DrawReadContext,ok_S_ReadContext,ok_S_DrawHalfText,ok_I_HalfText,ok_S_HalfText,trivial⟩ trivial) Tryz.func9 (by kernel_rfl) (by kernel_rfl) (by kernel_rfl)
  (by rw[show loopsOf (bodyOf Tryz.f9)=[] from by kernel_rfl];exact trivial) (fun x=>ef_L_FnContext x.1 x.2.1)
end R
