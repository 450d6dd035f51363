/- The functions, part 2. -/
import Derived.Test.YtljgmcbpjakecaaGreatDoorPaIa1
open Go Go.Dn Go.Proofs
namespace R
set_option linter.unusedVariables false
set_option maxRecDepth 20000
open Go.Shelf
noncomputable def o_S_l8Half_8:List Out:=[⟨.normal,⟨[],[1,5,6,7,8,9,10,17,18,19,24,45,46,47,48,51,52,53,54],[]⟩,mkSh 72 [(1,.val .bool .b),(5,.val S_bool (.row .b)),(6,.val S_bool (.row .b)),(7,.val .str .b),(8,.val (.int .i64) .b),(9,.var Y_impl_Row .b),(10,.val .str .b),(17,.val S_impl_Row .b),(18,.val (.int .i64) .b),(19,.val (.int .i64) .b),(24,.val .bool .b)]⟩]
noncomputable def o_S_l8Half_9:List Out:=[⟨.normal,⟨[],[1,5,6,7,9,10,17,18,19,29,30,33,34,35,36,37,38,40],[]⟩,mkSh 72 [(1,.val .bool .b),(5,.val S_bool (.row .b)),(6,.val S_bool (.row .b)),(7,.val .str .b),(9,.var Y_impl_Row .b),(10,.val .str .b),(17,.val S_impl_Row .b),(18,.val (.int .i64) .b),(19,.val (.int .i64) .b),(40,.val .bool .b)]⟩]
noncomputable def o_S_l8Half_14:List Out:=[⟨.exit 1,⟨[],[1,5,6,7,17,18,19,29,30,33,34,35,36,37,38,45,46,47,48,51,52,53,54],[]⟩,mkSh 72 [(1,.val .bool .b),(5,.val S_bool (.row .b)),(6,.val S_bool (.row .b)),(7,.val .str .b),(17,.val S_impl_Row .b),(18,.val (.int .i64) .b),(19,.val (.int .i64) .b)]⟩,⟨.normal,⟨[],[1,5,6,7,9,10,17,18,19,29,30,33,34,35,36,37,38,45,46,47,48,51,52,53,54],[]⟩,mkSh 72 [(1,.val .bool .b),(5,.val S_bool (.row .b)),(6,.val S_bool (.row .b)),(7,.val .str .b),(9,.var Y_impl_Row .b),(10,.val .str .b),(17,.val S_impl_Row .b),(18,.val (.int .i64) .b),(19,.val (.int .i64) .b)]⟩]
noncomputable def o_S_l8Half_15:List Out:=[⟨.normal,⟨[],[1,5,6,7,17,18,19,29,30,33,34,35,36,37,38,45,46,47,48,51,52,53,54],[]⟩,mkSh 72 [(1,.val .bool .b),(5,.val S_bool (.row .b)),(6,.val S_bool (.row .b)),(7,.val .str .b),(17,.val S_impl_Row .b),(18,.val (.int .i64) .b),(19,.val (.int .i64) .b)]⟩]
noncomputable def sh_S_l8Half_4:List Sh:=mkSh 72 [(1,.val .bool .b),(5,.val S_bool (.row .b)),(6,.val S_bool (.row .b)),(7,.val .str .b),(17,.val S_impl_Row .b),(18,.val (.int .i64) .b),(19,.val (.int .i64) .b)]
noncomputable def o_S_l8Half_4:List Out:=[⟨.exit 0,⟨[],[7],[]⟩,mkSh 72 [(7,.val .str .b)]⟩]
noncomputable def b_S_l8Half_4 (t1:PV .bool)(t5:PV S_bool)(t6:PV S_bool)(t7:PV .str)(t17:PV S_impl_Row)(t18:PV (.int .i64))(t19:PV (.int .i64)):Option ((PV .bool×PV S_bool×PV S_bool×PV .str×PV S_impl_Row×PV (.int .i64)×PV (.int .i64)×Unit)⊕((PV .str×Unit))):=
 bif (decide (t19<t18)) then
  ((
    bif inB t19 t17.length then
     ((
       ((
         bif (((t17.getD t19.toNat (dflt Y_impl_Row)).1)==2) then
          bif (!t1) then
           some (t1,t5,t6,t7,t19,(t17.getD t19.toNat (dflt Y_impl_Row)),[32,32],t17,t18,t19,true,())
          else
           bif (((t17.getD t19.toNat (dflt Y_impl_Row)).1)==3) then
            some (t1,t5,t6,t7,t19,(t17.getD t19.toNat (dflt Y_impl_Row)),[32,32],t17,t18,t19,t1,())
           else
            some (t1,t5,t6,t7,t19,(t17.getD t19.toNat (dflt Y_impl_Row)),[32,32],t17,t18,t19,false,())
         else
          bif (((t17.getD t19.toNat (dflt Y_impl_Row)).1)==3) then
           some (t1,t5,t6,t7,t19,(t17.getD t19.toNat (dflt Y_impl_Row)),[32,32],t17,t18,t19,t1,())
          else
           some (t1,t5,t6,t7,t19,(t17.getD t19.toNat (dflt Y_impl_Row)),[32,32],t17,t18,t19,false,()):Option ((PV .bool×PV S_bool×PV S_bool×PV .str×PV (.int .i64)×PV Y_impl_Row×PV .str×PV S_impl_Row×PV (.int .i64)×PV (.int .i64)×PV .bool×Unit)))).bind fun j3=>
         bif j3.2.2.2.2.2.2.2.2.2.2.1 then
          some (.inl (j3.1,j3.2.1,j3.2.2.1,j3.2.2.2.1,j3.2.2.2.2.2.2.2.1,j3.2.2.2.2.2.2.2.2.1,j3.2.2.2.2.2.2.2.2.2.1,()))
         else
          ((
            bif (!(j3.2.2.2.2.2.1.1==1)) then
             bif inB j3.2.2.2.2.1 j3.2.1.length then
              bif (j3.2.1.getD j3.2.2.2.2.1.toNat false) then
               bif inB j3.2.2.2.2.1 j3.2.2.1.length then
                some (j3.1,j3.2.1,j3.2.2.1,j3.2.2.2.1,j3.2.2.2.2.2.1,j3.2.2.2.2.2.2.1,j3.2.2.2.2.2.2.2.1,j3.2.2.2.2.2.2.2.2.1,j3.2.2.2.2.2.2.2.2.2.1,(j3.2.2.1.getD j3.2.2.2.2.1.toNat false),())
               else
                none
              else
               some (j3.1,j3.2.1,j3.2.2.1,j3.2.2.2.1,j3.2.2.2.2.2.1,j3.2.2.2.2.2.2.1,j3.2.2.2.2.2.2.2.1,j3.2.2.2.2.2.2.2.2.1,j3.2.2.2.2.2.2.2.2.2.1,false,())
             else
              none
            else
             some (j3.1,j3.2.1,j3.2.2.1,j3.2.2.2.1,j3.2.2.2.2.2.1,j3.2.2.2.2.2.2.1,j3.2.2.2.2.2.2.2.1,j3.2.2.2.2.2.2.2.2.1,j3.2.2.2.2.2.2.2.2.2.1,false,()):Option ((PV .bool×PV S_bool×PV S_bool×PV .str×PV Y_impl_Row×PV .str×PV S_impl_Row×PV (.int .i64)×PV (.int .i64)×PV .bool×Unit)))).bind fun j4=>
            bif j4.2.2.2.2.2.2.2.2.2.1 then
             some (.inr (j4.1,j4.2.1,j4.2.2.1,j4.2.2.2.1,j4.2.2.2.2.1,[33,32],j4.2.2.2.2.2.2.1,j4.2.2.2.2.2.2.2.1,j4.2.2.2.2.2.2.2.2.1,()))
            else
             bif (j4.2.2.2.2.1.1==2) then
              some (.inr (j4.1,j4.2.1,j4.2.2.1,j4.2.2.2.1,j4.2.2.2.2.1,[45,32],j4.2.2.2.2.2.2.1,j4.2.2.2.2.2.2.2.1,j4.2.2.2.2.2.2.2.2.1,()))
             else
              bif (j4.2.2.2.2.1.1==3) then
               some (.inr (j4.1,j4.2.1,j4.2.2.1,j4.2.2.2.1,j4.2.2.2.2.1,[43,32],j4.2.2.2.2.2.2.1,j4.2.2.2.2.2.2.2.1,j4.2.2.2.2.2.2.2.2.1,()))
              else
               some (.inr (j4.1,j4.2.1,j4.2.2.1,j4.2.2.2.1,j4.2.2.2.2.1,j4.2.2.2.2.2.1,j4.2.2.2.2.2.2.1,j4.2.2.2.2.2.2.2.1,j4.2.2.2.2.2.2.2.2.1,())):Option ((PV .bool×PV S_bool×PV S_bool×PV .str×PV S_impl_Row×PV (.int .i64)×PV (.int .i64)×Unit)⊕(PV .bool×PV S_bool×PV S_bool×PV .str×PV Y_impl_Row×PV .str×PV S_impl_Row×PV (.int .i64)×PV (.int .i64)×Unit)))).bind fun x11=>
       match x11 with
       | .inl j5=>
         some (j5.1,j5.2.1,j5.2.2.1,j5.2.2.2.1,j5.2.2.2.2.1,j5.2.2.2.2.2.1,j5.2.2.2.2.2.2.1,())
       | .inr j6=>
         (f_S_l5Shown j6.2.2.2.2.2.1 j6.2.2.2.2.1.2.1).bind fun r7=>
           bif decide (j6.2.2.2.1.length+r7.1.1.length≤1099511627776) then
            some (j6.1,j6.2.1,j6.2.2.1,(j6.2.2.2.1++r7.1.1),j6.2.2.2.2.2.2.1,j6.2.2.2.2.2.2.2.1,j6.2.2.2.2.2.2.2.2.1,())
           else
            none
    else
     none:Option ((PV .bool×PV S_bool×PV S_bool×PV .str×PV S_impl_Row×PV (.int .i64)×PV (.int .i64)×Unit)))).bind fun j8=>
    some (.inl (j8.1,j8.2.1,j8.2.2.1,j8.2.2.2.1,j8.2.2.2.2.1,j8.2.2.2.2.2.1,(IntKind.wrap .i64 (j8.2.2.2.2.2.2.1+1)),()))
 else
  some (.inr (t7,()))
noncomputable def w_S_l8Half_4:PV .bool×PV S_bool×PV S_bool×PV .str×PV S_impl_Row×PV (.int .i64)×PV (.int .i64)×Unit→Option ((PV .str×Unit)):=fix fun d=>b_S_l8Half_4 d.1 d.2.1 d.2.2.1 d.2.2.2.1 d.2.2.2.2.1 d.2.2.2.2.2.1 d.2.2.2.2.2.2.1
noncomputable def lp_S_l8Half_4:Lp:=⟨⟨[],[1,5,6,7,17,18,19,29,30,33,34,35,36,37,38,45,46,47,48,51,52,53,54],[]⟩,sh_S_l8Half_4,o_S_l8Half_4,fun d=>b_S_l8Half_4 d.1 d.2.1 d.2.2.1 d.2.2.2.1 d.2.2.2.2.1 d.2.2.2.2.2.1 d.2.2.2.2.2.2.1⟩
noncomputable def pl_S_l8Half:Plan:=⟨[(8,o_S_l8Half_8),(9,o_S_l8Half_9),(14,o_S_l8Half_14),(15,o_S_l8Half_15)],[(4,lp_S_l8Half_4)],0,0⟩
noncomputable def f_S_l8Half (t0:PV Y_impl_Group)(t1:PV .bool):Option (PVs [.str]×PVs []):=(f_S_l8Runs t0).bind fun r2=>(w_S_l8Half_4 (t1,r2.1.1,r2.1.2.1,[],t0.2.2.1,(t0.2.2.1.length:Int),0,())).bind fun l10=>some ((l10.1,()),())
noncomputable def ct_S_l8Half:Ct:=⟨[(.bor,Y_impl_Group),(.bor,.bool)],[(.str,.b)],fun x=>f_S_l8Half x.1 x.2.1⟩
noncomputable def cx_S_l8Half:Cx:=⟨tab,arrs,[(139,ct_S_l5Shown),(185,ct_S_l8Runs)],[],gl,[]⟩
theorem eb_S_l8Half_4 (t1:PV .bool)(t5:PV S_bool)(t6:PV S_bool)(t7:PV .str)(t17:PV S_impl_Row)(t18:PV (.int .i64))(t19:PV (.int .i64)):denK cx_S_l8Half (rcN cx_S_l8Half 0) pl_S_l8Half 0 ((loopsOf (bodyOf Tryz.f109)).getD 0 .skip) (fillS sh_S_l8Half_4 (t1,t5,t6,t7,t17,t18,t19,())) (roundK 0 lp_S_l8Half_4)=b_S_l8Half_4 t1 t5 t6 t7 t17 t18 t19:=by kernel_rfl
theorem ef_S_l8Half (t0:PV Y_impl_Group)(t1:PV .bool):denF cx_S_l8Half 0 pl_S_l8Half Tryz.f109.ntmps (bodyOf Tryz.f109) Tryz.f109.results.toList [(.bor,Y_impl_Group),(.bor,.bool)] [(.str,.b)] (t0,t1,())=f_S_l8Half t0 t1:=by kernel_rfl
theorem ok_S_l8Half:FnOk gl Tryz.prog 109 ct_S_l8Half:=
 fnOk (cx:=cx_S_l8Half) (pl:=pl_S_l8Half) (dp:=0) (ok0_of tabOk (by unfold ArrOk;kernel_rfl) mix ⟨ok_S_l5Shown,ok_S_l8Runs,trivial⟩ trivial) Tryz.func109 (by kernel_rfl) (by kernel_rfl) (by kernel_rfl)
  (by rw[show loopsOf (bodyOf Tryz.f109)=[((loopsOf (bodyOf Tryz.f109)).getD 0 .skip)] from by kernel_rfl];exact⟨(by rw[show lookup pl_S_l8Half.loops (firstId ((loopsOf (bodyOf Tryz.f109)).getD 0 .skip))=some lp_S_l8Half_4 from by kernel_rfl];exact fun d z h=>(eb_S_l8Half_4 d.1 d.2.1 d.2.2.1 d.2.2.2.1 d.2.2.2.2.1 d.2.2.2.2.2.1 d.2.2.2.2.2.2.1).trans h),trivial⟩) (fun x=>ef_S_l8Half x.1 x.2.1)
noncomputable def o_S_l8Text_8:List Out:=[⟨.normal,⟨[],[3,5,6,7,8],[]⟩,mkSh 46 [(3,.val .str .b),(5,.var Y_impl_Group .b),(6,.val S_impl_Group .b),(7,.val (.int .i64) .b),(8,.val (.int .i64) .b)]⟩]
noncomputable def o_S_l8Text_11:List Out:=[⟨.normal,⟨[],[3,6,7,8],[]⟩,mkSh 46 [(3,.val .str .b),(6,.val S_impl_Group .b),(7,.val (.int .i64) .b),(8,.val (.int .i64) .b)]⟩]
noncomputable def sh_S_l8Text_3:List Sh:=mkSh 46 [(3,.val .str .b),(6,.val S_impl_Group .b),(7,.val (.int .i64) .b),(8,.val (.int .i64) .b)]
noncomputable def o_S_l8Text_3:List Out:=[⟨.exit 0,⟨[],[3],[]⟩,mkSh 46 [(3,.val .str .b)]⟩]
noncomputable def b_S_l8Text_3 (t3:PV .str)(t6:PV S_impl_Group)(t7:PV (.int .i64))(t8:PV (.int .i64)):Option ((PV .str×PV S_impl_Group×PV (.int .i64)×PV (.int .i64)×Unit)⊕((PV .str×Unit))):=bif (decide (t8<t7)) then((bif inB t8 t6.length then(f_S_l6Old (t6.getD t8.toNat (dflt Y_impl_Group))).bind fun r3=>(f_S_l4Pair ((t6.getD t8.toNat (dflt Y_impl_Group)).1) (r3.1.1.length:Int)).bind fun r4=>bif decide ([42,42,42,42,42,42,42,42,42,42,42,42,42,42,42,10,42,42,42,32].length+r4.1.1.length≤1099511627776) then bif decide (([42,42,42,42,42,42,42,42,42,42,42,42,42,42,42,10,42,42,42,32]++r4.1.1).length+[32,42,42,42,42,10].length≤1099511627776) then bif decide (t3.length+(([42,42,42,42,42,42,42,42,42,42,42,42,42,42,42,10,42,42,42,32]++r4.1.1)++[32,42,42,42,42,10]).length≤1099511627776) then(((f_S_l8Some (t6.getD t8.toNat (dflt Y_impl_Group)) 2).bind fun r6=>bif r6.1.1 then(f_S_l8Half (t6.getD t8.toNat (dflt Y_impl_Group)) true).bind fun r7=>bif decide ((t3++(([42,42,42,42,42,42,42,42,42,42,42,42,42,42,42,10,42,42,42,32]++r4.1.1)++[32,42,42,42,42,10])).length+r7.1.1.length≤1099511627776) then some (((t3++(([42,42,42,42,42,42,42,42,42,42,42,42,42,42,42,10,42,42,42,32]++r4.1.1)++[32,42,42,42,42,10]))++r7.1.1),(t6.getD t8.toNat (dflt Y_impl_Group)),t6,t7,t8,()) else none else some ((t3++(([42,42,42,42,42,42,42,42,42,42,42,42,42,42,42,10,42,42,42,32]++r4.1.1)++[32,42,42,42,42,10])),(t6.getD t8.toNat (dflt Y_impl_Group)),t6,t7,t8,()):Option ((PV .str×PV Y_impl_Group×PV S_impl_Group×PV (.int .i64)×PV (.int .i64)×Unit)))).bind fun j8=>(f_S_l6New j8.2.1).bind fun r11=>(f_S_l4Pair j8.2.1.2.1 (r11.1.1.length:Int)).bind fun r12=>bif decide ([45,45,45,32].length+r12.1.1.length≤1099511627776) then bif decide (([45,45,45,32]++r12.1.1).length+[32,45,45,45,45,10].length≤1099511627776) then bif decide (j8.1.length+(([45,45,45,32]++r12.1.1)++[32,45,45,45,45,10]).length≤1099511627776) then(f_S_l8Some j8.2.1 3).bind fun r14=>bif r14.1.1 then(f_S_l8Half j8.2.1 false).bind fun r15=>bif decide ((j8.1++(([45,45,45,32]++r12.1.1)++[32,45,45,45,45,10])).length+r15.1.1.length≤1099511627776) then some (((j8.1++(([45,45,45,32]++r12.1.1)++[32,45,45,45,45,10]))++r15.1.1),j8.2.2.1,j8.2.2.2.1,j8.2.2.2.2.1,()) else none else some ((j8.1++(([45,45,45,32]++r12.1.1)++[32,45,45,45,45,10])),j8.2.2.1,j8.2.2.2.1,j8.2.2.2.2.1,()) else none else none else none else none else none else none else none:Option ((PV .str×PV S_impl_Group×PV (.int .i64)×PV (.int .i64)×Unit)))).bind fun j16=>some (.inl (j16.1,j16.2.1,j16.2.2.1,(IntKind.wrap .i64 (j16.2.2.2.1+1)),())) else some (.inr (t3,()))
noncomputable def w_S_l8Text_3:PV .str×PV S_impl_Group×PV (.int .i64)×PV (.int .i64)×Unit→Option ((PV .str×Unit)):=fix fun d=>b_S_l8Text_3 d.1 d.2.1 d.2.2.1 d.2.2.2.1
noncomputable def lp_S_l8Text_3:Lp:=⟨⟨[],[3,6,7,8],[]⟩,sh_S_l8Text_3,o_S_l8Text_3,fun d=>b_S_l8Text_3 d.1 d.2.1 d.2.2.1 d.2.2.2.1⟩
noncomputable def pl_S_l8Text:Plan:=⟨[(8,o_S_l8Text_8),(11,o_S_l8Text_11)],[(3,lp_S_l8Text_3)],0,0⟩
noncomputable def f_S_l8Text (t0:PV S_impl_Group):Option (PVs [.str]×PVs []):=(w_S_l8Text_3 ([],t0,(t0.length:Int),0,())).bind fun l18=>some ((l18.1,()),())
noncomputable def ct_S_l8Text:Ct:=⟨[(.bor,S_impl_Group)],[(.str,.b)],fun x=>f_S_l8Text x.1⟩
noncomputable def cx_S_l8Text:Cx:=⟨tab,arrs,[(109,ct_S_l8Half),(163,ct_S_l6Old),(164,ct_S_l6New),(168,ct_S_l4Pair),(169,ct_S_l8Some)],[],gl,[]⟩
theorem eb_S_l8Text_3 (t3:PV .str)(t6:PV S_impl_Group)(t7:PV (.int .i64))(t8:PV (.int .i64)):denK cx_S_l8Text (rcN cx_S_l8Text 0) pl_S_l8Text 0 ((loopsOf (bodyOf Tryz.f100)).getD 0 .skip) (fillS sh_S_l8Text_3 (t3,t6,t7,t8,())) (roundK 0 lp_S_l8Text_3)=b_S_l8Text_3 t3 t6 t7 t8:=by kernel_rfl
theorem ef_S_l8Text (t0:PV S_impl_Group):denF cx_S_l8Text 0 pl_S_l8Text Tryz.f100.ntmps (bodyOf Tryz.f100) Tryz.f100.results.toList [(.bor,S_impl_Group)] [(.str,.b)] (t0,())=f_S_l8Text t0:=by kernel_rfl
theorem ok_S_l8Text:FnOk gl Tryz.prog 100 ct_S_l8Text:=
 fnOk (cx:=cx_S_l8Text) (pl:=pl_S_l8Text) (dp:=0) (ok0_of tabOk (by unfold ArrOk;kernel_rfl) mix ⟨ok_S_l8Half,ok_S_l6Old,ok_S_l6New,ok_S_l4Pair,ok_S_l8Some,trivial⟩ trivial) Tryz.func100 (by kernel_rfl) (by kernel_rfl) (by kernel_rfl)
  (by rw[show loopsOf (bodyOf Tryz.f100)=[((loopsOf (bodyOf Tryz.f100)).getD 0 .skip)] from by kernel_rfl];exact⟨(by rw[show lookup pl_S_l8Text.loops (firstId ((loopsOf (bodyOf Tryz.f100)).getD 0 .skip))=some lp_S_l8Text_3 from by kernel_rfl];exact fun d z h=>(eb_S_l8Text_3 d.1 d.2.1 d.2.2.1 d.2.2.2.1).trans h),trivial⟩) (fun x=>ef_S_l8Text x.1)
noncomputable def o_S_ReadContext_12:List Out:=[⟨.normal,⟨[],[6,39],[]⟩,mkSh 41 [(6,.val S_impl_Group (.row (.pr .b (.pr .b (.pr (.row (.pr .b (.pr .b .b))) .b))))),(39,.val .bool .b)]⟩]
noncomputable def sh_S_ReadContext_5:List Sh:=mkSh 41 [(0,.val .str .b),(5,.val S_string .b),(6,.val S_impl_Group (.row (.pr .b (.pr .b (.pr (.row (.pr .b (.pr .b .b))) .b)))))]
noncomputable def o_S_ReadContext_5:List Out:=[⟨.exit 0,⟨[],[0,6,35,36,37,38],[]⟩,mkSh 41 [(0,.val .str .b),(6,.val S_impl_Group (.row (.pr .b (.pr .b (.pr (.row (.pr .b (.pr .b .b))) .b)))))]⟩,⟨.ret,⟨[],[2,3,4],[]⟩,mkSh 41 [(2,.val S_impl_Group (.row (.pr .b (.pr .b (.pr (.row (.pr .b (.pr .b .b))) .b))))),(3,.val (.int .i64) .b),(4,.val .bool .b)]⟩]
noncomputable def b_S_ReadContext_5 (t0:PV .str)(t5:PV S_string)(t6:PV S_impl_Group):Option ((PV .str×PV S_string×PV S_impl_Group×Unit)⊕((PV .str×PV S_impl_Group×Unit)⊕(PV S_impl_Group×PV (.int .i64)×PV .bool×Unit))):=bif (decide ((t5.length:Int)>0)) then(f_S_l8One t5).bind fun r4=>bif (r4.1.2.1==0) then some (.inr (.inr ([],1,false,()))) else bif roomB (t6.length+[r4.1.1].length) then bif cutB r4.1.2.1 (t5.length:Int) t5.length then some (.inl (t0,(cutL r4.1.2.1 (t5.length:Int) t5),(t6++[r4.1.1]),())) else none else none else some (.inr (.inl (t0,t6,())))
noncomputable def w_S_ReadContext_5:PV .str×PV S_string×PV S_impl_Group×Unit→Option ((PV .str×PV S_impl_Group×Unit)⊕(PV S_impl_Group×PV (.int .i64)×PV .bool×Unit)):=fix fun d=>b_S_ReadContext_5 d.1 d.2.1 d.2.2.1
noncomputable def lp_S_ReadContext_5:Lp:=⟨⟨[],[0,5,6,35,36,37,38],[]⟩,sh_S_ReadContext_5,o_S_ReadContext_5,fun d=>b_S_ReadContext_5 d.1 d.2.1 d.2.2.1⟩
noncomputable def pl_S_ReadContext:Plan:=⟨[(12,o_S_ReadContext_12)],[(5,lp_S_ReadContext_5)],0,0⟩
noncomputable def f_S_ReadContext (t0:PV .str):Option (PVs [S_impl_Group,(.int .i64),.bool]×PVs []):=
 bif (decide ((t0.length:Int)>3000)) then
  some (([],1,false,()),())
 else
  (f_S_l1Cut t0).bind fun r2=>
    (w_S_ReadContext_5 (t0,r2.1.1,[],())).bind fun x17=>
      match x17 with
      | .inl l7=>
        ((
          (f_S_l6Good l7.2.1).bind fun r13=>
            bif (!r13.1.1) then
             some (l7.2.1,true,())
            else
             (f_S_l8Text l7.2.1).bind fun r14=>
               some (l7.2.1,(!(r14.1.1==l7.1)),()):Option ((PV S_impl_Group×PV .bool×Unit)))).bind fun j15=>
          bif j15.2.1 then
           some (([],1,false,()),())
          else
           some ((j15.1,0,true,()),())
      | .inr l16=>
        some ((l16.1,l16.2.1,l16.2.2.1,()),())
noncomputable def ct_S_ReadContext:Ct:=⟨[(.bor,.str)],[(S_impl_Group,(.row (.pr .b (.pr .b (.pr (.row (.pr .b (.pr .b .b))) .b))))),((.int .i64),.b),(.bool,.b)],fun x=>f_S_ReadContext x.1⟩
noncomputable def cx_S_ReadContext:Cx:=⟨tab,arrs,[(79,ct_S_l1Cut),(95,ct_S_l6Good),(100,ct_S_l8Text),(103,ct_S_l8One)],[],gl,[]⟩
theorem eb_S_ReadContext_5 (t0:PV .str)(t5:PV S_string)(t6:PV S_impl_Group):denK cx_S_ReadContext (rcN cx_S_ReadContext 0) pl_S_ReadContext 0 ((loopsOf (bodyOf Tryz.f50)).getD 0 .skip) (fillS sh_S_ReadContext_5 (t0,t5,t6,())) (roundK 0 lp_S_ReadContext_5)=b_S_ReadContext_5 t0 t5 t6:=by kernel_rfl
theorem ef_S_ReadContext (t0:PV .str):denF cx_S_ReadContext 0 pl_S_ReadContext Tryz.f50.ntmps (bodyOf Tryz.f50) Tryz.f50.results.toList [(.bor,.str)] [(S_impl_Group,(.row (.pr .b (.pr .b (.pr (.row (.pr .b (.pr .b .b))) .b))))),((.int .i64),.b),(.bool,.b)] (t0,())=f_S_ReadContext t0:=by kernel_rfl
theorem ok_S_ReadContext:FnOk gl Tryz.prog 50 ct_S_ReadContext:=
 fnOk (cx:=cx_S_ReadContext) (pl:=pl_S_ReadContext) (dp:=0) (ok0_of tabOk (by unfold ArrOk;kernel_rfl) mix ⟨ok_S_l1Cut,ok_S_l6Good,ok_S_l8Text,ok_S_l8One,trivial⟩ trivial) Tryz.func50 (by kernel_rfl) (by kernel_rfl) (by kernel_rfl)
  (by rw[show loopsOf (bodyOf Tryz.f50)=[((loopsOf (bodyOf Tryz.f50)).getD 0 .skip)] from by kernel_rfl];exact⟨(by rw[show lookup pl_S_ReadContext.loops (firstId ((loopsOf (bodyOf Tryz.f50)).getD 0 .skip))=some lp_S_ReadContext_5 from by kernel_rfl];exact fun d z h=>(eb_S_ReadContext_5 d.1 d.2.1 d.2.2.1).trans h),trivial⟩) (fun x=>ef_S_ReadContext x.1)
noncomputable def pl_S_l1Plain:Plan:=⟨[],[],0,0⟩
noncomputable def f_S_l1Plain (t0:PV .str):Option (PVs [.str]×PVs []):=(f_S_l1Ends t0).bind fun r4=>bif r4.1.1 then bif cutB 0 (IntKind.wrap .i64 ((t0.length:Int) -1)) t0.length then some (((cutL 0 (IntKind.wrap .i64 ((t0.length:Int) -1)) t0),()),()) else none else some ((t0,()),())
noncomputable def ct_S_l1Plain:Ct:=⟨[(.bor,.str)],[(.str,.b)],fun x=>f_S_l1Plain x.1⟩
noncomputable def cx_S_l1Plain:Cx:=⟨tab,arrs,[(128,ct_S_l1Ends)],[],gl,[]⟩
theorem ef_S_l1Plain (t0:PV .str):denF cx_S_l1Plain 0 pl_S_l1Plain Tryz.f81.ntmps (bodyOf Tryz.f81) Tryz.f81.results.toList [(.bor,.str)] [(.str,.b)] (t0,())=f_S_l1Plain t0:=by kernel_rfl
theorem ok_S_l1Plain:FnOk gl Tryz.prog 81 ct_S_l1Plain:=
 fnOk (cx:=cx_S_l1Plain) (pl:=pl_S_l1Plain) (dp:=0) (ok0_of tabOk (by unfold ArrOk;kernel_rfl) mix ⟨ok_S_l1Ends,trivial⟩ trivial) Tryz.func81 (by kernel_rfl) (by kernel_rfl) (by kernel_rfl)
  (by rw[show loopsOf (bodyOf Tryz.f81)=[] from by kernel_rfl];exact trivial) (fun x=>ef_S_l1Plain x.1)
noncomputable def pl_S_l4Range:Plan:=⟨[],[],0,0⟩
noncomputable def f_S_l4Range (t0:PV (.int .i64))(t1:PV (.int .i64)):Option (PVs [.bool]×PVs []):=(f_S_l1In t0 0 999).bind fun r1=>bif r1.1.1 then(f_S_l1In t1 0 999).bind fun r2=>some ((r2.1.1,()),()) else some ((false,()),())
noncomputable def ct_S_l4Range:Ct:=⟨[(.bor,(.int .i64)),(.bor,(.int .i64))],[(.bool,.b)],fun x=>f_S_l4Range x.1 x.2.1⟩
noncomputable def cx_S_l4Range:Cx:=⟨tab,arrs,[(114,ct_S_l1In)],[],gl,[]⟩
theorem ef_S_l4Range (t0:PV (.int .i64))(t1:PV (.int .i64)):denF cx_S_l4Range 0 pl_S_l4Range Tryz.f241.ntmps (bodyOf Tryz.f241) Tryz.f241.results.toList [(.bor,(.int .i64)),(.bor,(.int .i64))] [(.bool,.b)] (t0,t1,())=f_S_l4Range t0 t1:=by kernel_rfl
theorem ok_S_l4Range:FnOk gl Tryz.prog 241 ct_S_l4Range:=
 fnOk (cx:=cx_S_l4Range) (pl:=pl_S_l4Range) (dp:=0) (ok0_of tabOk (by unfold ArrOk;kernel_rfl) mix ⟨ok_S_l1In,trivial⟩ trivial) Tryz.func241 (by kernel_rfl) (by kernel_rfl) (by kernel_rfl)
  (by rw[show loopsOf (bodyOf Tryz.f241)=[] from by kernel_rfl];exact trivial) (fun x=>ef_S_l4Range x.1 x.2.1)
noncomputable def o_S_ReadCount_8:List Out:=[⟨.normal,⟨[],[5,6,7,8,44,45,46,49,50,51,52],[]⟩,mkSh 56 [(5,.val S_string (.row .b)),(6,.val (.int .i64) .b),(7,.val .bool .b),(8,.val (.int .i64) .b)]⟩]
noncomputable def o_S_ReadCount_11:List Out:=[⟨.normal,⟨[],[5,7,8,11,44,45,46,49,50,51,52],[]⟩,mkSh 56 [(5,.val S_string (.row .b)),(7,.val .bool .b),(8,.val (.int .i64) .b),(11,.val (.int .i64) .b)]⟩]
noncomputable def o_S_ReadCount_12:List Out:=[⟨.normal,⟨[],[8,11,53],[]⟩,mkSh 56 [(8,.val (.int .i64) .b),(11,.val (.int .i64) .b),(53,.val .bool .b)]⟩]
noncomputable def pl_S_ReadCount:Plan:=⟨[(8,o_S_ReadCount_8),(11,o_S_ReadCount_11),(12,o_S_ReadCount_12)],[],0,0⟩
noncomputable def f_S_ReadCount (t0:PV .str):Option (PVs [(.int .i64),(.int .i64),.bool]×PVs []):=(f_S_l1Split t0 44).bind fun r2=>bif inB 0 r2.1.1.length then(f_S_ReadNumber (r2.1.1.getD ((0:Int).toNat) [])).bind fun r4=>((bif ((r2.1.1.length:Int)==2) then bif inB 1 r2.1.1.length then(f_S_ReadNumber (r2.1.1.getD ((1:Int).toNat) [])).bind fun r8=>bif r4.1.2.1 then some (r2.1.1,r4.1.1,r8.1.2.1,r8.1.1,()) else some (r2.1.1,r4.1.1,false,r8.1.1,()) else none else some (r2.1.1,r4.1.1,r4.1.2.1,1,()):Option ((PV S_string×PV (.int .i64)×PV .bool×PV (.int .i64)×Unit)))).bind fun j9=>((bif (decide (j9.2.2.2.1>0)) then some (j9.1,j9.2.2.1,j9.2.2.2.1,(IntKind.wrap .i64 (j9.2.1 -1)),()) else some (j9.1,j9.2.2.1,j9.2.2.2.1,j9.2.1,()):Option ((PV S_string×PV .bool×PV (.int .i64)×PV (.int .i64)×Unit)))).bind fun j10=>((bif (!j10.2.1) then some (j10.2.2.1,j10.2.2.2.1,true,()) else bif (decide ((j10.1.length:Int)>2)) then some (j10.2.2.1,j10.2.2.2.1,true,()) else(f_S_l4Range j10.2.2.2.1 j10.2.2.1).bind fun r14=>some (j10.2.2.1,j10.2.2.2.1,(!r14.1.1),()):Option ((PV (.int .i64)×PV (.int .i64)×PV .bool×Unit)))).bind fun j15=>bif j15.2.2.1 then some ((0,0,false,()),()) else some ((j15.2.1,j15.1,true,()),()) else none
noncomputable def ct_S_ReadCount:Ct:=⟨[(.bor,.str)],[((.int .i64),.b),((.int .i64),.b),(.bool,.b)],fun x=>f_S_ReadCount x.1⟩
noncomputable def cx_S_ReadCount:Cx:=⟨tab,arrs,[(193,ct_S_l1Split),(240,ct_S_ReadNumber),(241,ct_S_l4Range)],[],gl,[]⟩
theorem ef_S_ReadCount (t0:PV .str):denF cx_S_ReadCount 0 pl_S_ReadCount Tryz.f194.ntmps (bodyOf Tryz.f194) Tryz.f194.results.toList [(.bor,.str)] [((.int .i64),.b),((.int .i64),.b),(.bool,.b)] (t0,())=f_S_ReadCount t0:=by kernel_rfl
theorem ok_S_ReadCount:FnOk gl Tryz.prog 194 ct_S_ReadCount:=
 fnOk (cx:=cx_S_ReadCount) (pl:=pl_S_ReadCount) (dp:=0) (ok0_of tabOk (by unfold ArrOk;kernel_rfl) mix ⟨ok_S_l1Split,ok_S_ReadNumber,ok_S_l4Range,trivial⟩ trivial) Tryz.func194 (by kernel_rfl) (by kernel_rfl) (by kernel_rfl)
  (by rw[show loopsOf (bodyOf Tryz.f194)=[] from by kernel_rfl];exact trivial) (fun x=>ef_S_ReadCount x.1)
noncomputable def o_S_l7Head_3:List Out:=[⟨.normal,⟨[],[2,6,57,84],[]⟩,mkSh 86 [(2,.var Y_impl_Group (.pr .b (.pr .b (.pr (.row (.pr .b (.pr .b .b))) .b)))),(6,.val S_string (.row .b)),(57,.val .bool .b)]⟩]
noncomputable def pl_S_l7Head:Plan:=⟨[(3,o_S_l7Head_3)],[],0,0⟩
noncomputable def f_S_l7Head (t0:PV .str):Option (PVs [Y_impl_Group,(.int .i64),(.int .i64),.bool]×PVs []):=(f_S_l1Split t0 32).bind fun r2=>((bif (!((r2.1.1.length:Int)==4)) then some ((0,(0,(([]:PV S_impl_Row),()))),r2.1.1,true,()) else bif inB 0 r2.1.1.length then bif (!((r2.1.1.getD ((0:Int).toNat) [])==[64,64])) then some ((0,(0,(([]:PV S_impl_Row),()))),r2.1.1,true,()) else bif inB 3 r2.1.1.length then bif (!((r2.1.1.getD ((3:Int).toNat) [])==[64,64])) then some ((0,(0,(([]:PV S_impl_Row),()))),r2.1.1,true,()) else bif inB 1 r2.1.1.length then bif (decide (((r2.1.1.getD ((1:Int).toNat) []).length:Int)<2)) then some ((0,(0,(([]:PV S_impl_Row),()))),r2.1.1,true,()) else bif inB 2 r2.1.1.length then bif (decide (((r2.1.1.getD ((2:Int).toNat) []).length:Int)<2)) then some ((0,(0,(([]:PV S_impl_Row),()))),r2.1.1,true,()) else bif inB 1 r2.1.1.length then bif inB 0 (r2.1.1.getD ((1:Int).toNat) []).length then bif (!((((r2.1.1.getD ((1:Int).toNat) []).getD (0:Int).toNat 0).toNat:Int)==45)) then some ((0,(0,(([]:PV S_impl_Row),()))),r2.1.1,true,()) else bif inB 2 r2.1.1.length then bif inB 0 (r2.1.1.getD ((2:Int).toNat) []).length then some ((0,(0,(([]:PV S_impl_Row),()))),r2.1.1,(!((((r2.1.1.getD ((2:Int).toNat) []).getD (0:Int).toNat 0).toNat:Int)==43)),()) else none else none else none else none else none else none else none else none:Option ((PV Y_impl_Group×PV S_string×PV .bool×Unit)))).bind fun j4=>bif j4.2.2.1 then some (((0,(0,(([]:PV S_impl_Row),()))),0,0,false,()),()) else bif inB 1 j4.2.1.length then bif cutB 1 ((j4.2.1.getD ((1:Int).toNat) []).length:Int) (j4.2.1.getD ((1:Int).toNat) []).length then(f_S_ReadCount (cutL 1 ((j4.2.1.getD ((1:Int).toNat) []).length:Int) (j4.2.1.getD ((1:Int).toNat) []))).bind fun r6=>bif inB 2 j4.2.1.length then bif cutB 1 ((j4.2.1.getD ((2:Int).toNat) []).length:Int) (j4.2.1.getD ((2:Int).toNat) []).length then(f_S_ReadCount (cutL 1 ((j4.2.1.getD ((2:Int).toNat) []).length:Int) (j4.2.1.getD ((2:Int).toNat) []))).bind fun r8=>bif r6.1.2.2.1 then some (((r6.1.1,(r8.1.1,(([]:PV S_impl_Row),()))),r6.1.2.1,r8.1.2.1,r8.1.2.2.1,()),()) else some (((r6.1.1,(r8.1.1,(([]:PV S_impl_Row),()))),r6.1.2.1,r8.1.2.1,false,()),()) else none else none else none else none
noncomputable def ct_S_l7Head:Ct:=⟨[(.bor,.str)],[(Y_impl_Group,(.pr .b (.pr .b (.pr (.row (.pr .b (.pr .b .b))) .b)))),((.int .i64),.b),((.int .i64),.b),(.bool,.b)],fun x=>f_S_l7Head x.1⟩
noncomputable def cx_S_l7Head:Cx:=⟨tab,arrs,[(193,ct_S_l1Split),(194,ct_S_ReadCount)],[],gl,[]⟩
theorem ef_S_l7Head (t0:PV .str):denF cx_S_l7Head 0 pl_S_l7Head Tryz.f124.ntmps (bodyOf Tryz.f124) Tryz.f124.results.toList [(.bor,.str)] [(Y_impl_Group,(.pr .b (.pr .b (.pr (.row (.pr .b (.pr .b .b))) .b)))),((.int .i64),.b),((.int .i64),.b),(.bool,.b)] (t0,())=f_S_l7Head t0:=by kernel_rfl
theorem ok_S_l7Head:FnOk gl Tryz.prog 124 ct_S_l7Head:=
 fnOk (cx:=cx_S_l7Head) (pl:=pl_S_l7Head) (dp:=0) (ok0_of tabOk (by unfold ArrOk;kernel_rfl) mix ⟨ok_S_l1Split,ok_S_ReadCount,trivial⟩ trivial) Tryz.func124 (by kernel_rfl) (by kernel_rfl) (by kernel_rfl)
  (by rw[show loopsOf (bodyOf Tryz.f124)=[] from by kernel_rfl];exact trivial) (fun x=>ef_S_l7Head x.1)
noncomputable def pl_S_l7Kind:Plan:=⟨[],[],0,0⟩
noncomputable def f_S_l7Kind (t0:PV (.int .u8)):Option (PVs [(.int .i64)]×PVs []):=bif (t0==32) then some ((1,()),()) else bif (t0==45) then some ((2,()),()) else bif (t0==43) then some ((3,()),()) else some ((0,()),())
noncomputable def ct_S_l7Kind:Ct:=⟨[(.bor,(.int .u8))],[((.int .i64),.b)],fun x=>f_S_l7Kind x.1⟩
noncomputable def cx_S_l7Kind:Cx:=⟨tab,arrs,[],[],gl,[]⟩
theorem ef_S_l7Kind (t0:PV (.int .u8)):denF cx_S_l7Kind 0 pl_S_l7Kind Tryz.f195.ntmps (bodyOf Tryz.f195) Tryz.f195.results.toList [(.bor,(.int .u8))] [((.int .i64),.b)] (t0,())=f_S_l7Kind t0:=by kernel_rfl
theorem ok_S_l7Kind:FnOk gl Tryz.prog 195 ct_S_l7Kind:=
 fnOk (cx:=cx_S_l7Kind) (pl:=pl_S_l7Kind) (dp:=0) (ok0_of tabOk (by unfold ArrOk;kernel_rfl) mix trivial trivial) Tryz.func195 (by kernel_rfl) (by kernel_rfl) (by kernel_rfl)
  (by rw[show loopsOf (bodyOf Tryz.f195)=[] from by kernel_rfl];exact trivial) (fun x=>ef_S_l7Kind x.1)
noncomputable def o_S_l7Rows_9:List Out:=[⟨.normal,⟨[],[0,1,2,8,9,10,11,17,18,19,20,51],[]⟩,mkSh 75 [(0,.val S_string .b),(1,.val (.int .i64) .b),(2,.val (.int .i64) .b),(8,.val S_impl_Row (.row (.pr .b (.pr .b .b)))),(9,.val (.int .i64) .b),(10,.val (.int .i64) .b),(11,.val .str .b),(17,.val (.int .i64) .b),(18,.val (.int .i64) .b),(19,.val (.int .i64) .b),(20,.val .bool .b),(51,.val .bool .b)]⟩]
noncomputable def o_S_l7Rows_11:List Out:=[⟨.normal,⟨[],[0,1,2,8,9,10,11,17,18,19,20,42,43,44,45,46,49,50],[]⟩,mkSh 75 [(0,.val S_string .b),(1,.val (.int .i64) .b),(2,.val (.int .i64) .b),(8,.val S_impl_Row (.row (.pr .b (.pr .b .b)))),(9,.val (.int .i64) .b),(10,.val (.int .i64) .b),(11,.val .str .b),(17,.val (.int .i64) .b),(18,.val (.int .i64) .b),(19,.val (.int .i64) .b),(20,.val .bool .b)]⟩]
noncomputable def o_S_l7Rows_13:List Out:=[⟨.normal,⟨[],[0,1,2,8,9,10,11,17,18,19,20,42,43,44,45,46,49,50],[]⟩,mkSh 75 [(0,.val S_string .b),(1,.val (.int .i64) .b),(2,.val (.int .i64) .b),(8,.val S_impl_Row (.row (.pr .b (.pr .b .b)))),(9,.val (.int .i64) .b),(10,.val (.int .i64) .b),(11,.val .str .b),(17,.val (.int .i64) .b),(18,.val (.int .i64) .b),(19,.val (.int .i64) .b),(20,.val .bool .b)]⟩]
noncomputable def o_S_l7Rows_15:List Out:=[⟨.normal,⟨[],[0,1,2,8,9,10,11,17,18,19,20,42,43,44,45,46,49,50],[]⟩,mkSh 75 [(0,.val S_string .b),(1,.val (.int .i64) .b),(2,.val (.int .i64) .b),(8,.val S_impl_Row (.row (.pr .b (.pr .b .b)))),(9,.val (.int .i64) .b),(10,.val (.int .i64) .b),(11,.val .str .b),(17,.val (.int .i64) .b),(18,.val (.int .i64) .b),(19,.val (.int .i64) .b),(20,.val .bool .b)]⟩]
noncomputable def sh_S_l7Rows_3:List Sh:=mkSh 75 [(0,.val S_string .b),(1,.val (.int .i64) .b),(2,.val (.int .i64) .b),(8,.val S_impl_Row (.row (.pr .b (.pr .b .b)))),(9,.val (.int .i64) .b)]
noncomputable def o_S_l7Rows_3:List Out:=[⟨.exit 0,⟨[],[8,9],[]⟩,mkSh 75 [(8,.val S_impl_Row (.row (.pr .b (.pr .b .b)))),(9,.val (.int .i64) .b)]⟩]
noncomputable def b_S_l7Rows_3 (t0:PV S_string)(t1:PV (.int .i64))(t2:PV (.int .i64))(t8:PV S_impl_Row)(t9:PV (.int .i64)):Option ((PV S_string×PV (.int .i64)×PV (.int .i64)×PV S_impl_Row×PV (.int .i64)×Unit)⊕((PV S_impl_Row×PV (.int .i64)×Unit))):=bif (decide (t9<(t0.length:Int))) then bif (decide ((IntKind.wrap .i64 (t1+t2))>0)) then bif inB t9 t0.length then bif inB 0 (t0.getD t9.toNat []).length then(f_S_l7Kind (((t0.getD t9.toNat []).getD (0:Int).toNat 0).toNat:Int)).bind fun r9=>bif (r9.1.1==0) then some (.inr (t8,t9,())) else bif inB t9 t0.length then bif cutB 1 ((t0.getD t9.toNat []).length:Int) (t0.getD t9.toNat []).length then((((bif (decide ((IntKind.wrap .i64 (t9+1))<(t0.length:Int))) then bif inB (IntKind.wrap .i64 (t9+1)) t0.length then bif ((t0.getD ((IntKind.wrap .i64 (t9+1)).toNat) [])==[92,32,110,111,110,101,10]) then some (t0,t1,t2,t8,(IntKind.wrap .i64 (t9+1)),r9.1.1,(cutL 1 ((t0.getD t9.toNat []).length:Int) (t0.getD t9.toNat [])),t1,t2,(IntKind.wrap .i64 (t1+t2)),(decide ((IntKind.wrap .i64 (t1+t2))>0)),(!((cutL 1 ((t0.getD t9.toNat []).length:Int) (t0.getD t9.toNat []))==[])),()) else some (t0,t1,t2,t8,(IntKind.wrap .i64 (t9+1)),r9.1.1,(cutL 1 ((t0.getD t9.toNat []).length:Int) (t0.getD t9.toNat [])),t1,t2,(IntKind.wrap .i64 (t1+t2)),(decide ((IntKind.wrap .i64 (t1+t2))>0)),false,()) else none else some (t0,t1,t2,t8,(IntKind.wrap .i64 (t9+1)),r9.1.1,(cutL 1 ((t0.getD t9.toNat []).length:Int) (t0.getD t9.toNat [])),t1,t2,(IntKind.wrap .i64 (t1+t2)),(decide ((IntKind.wrap .i64 (t1+t2))>0)),false,()):Option ((PV S_string×PV (.int .i64)×PV (.int .i64)×PV S_impl_Row×PV (.int .i64)×PV (.int .i64)×PV .str×PV (.int .i64)×PV (.int .i64)×PV (.int .i64)×PV .bool×PV .bool×Unit)))).bind fun j10=>bif j10.2.2.2.2.2.2.2.2.2.2.2.1 then bif cutB 0 (IntKind.wrap .i64 ((j10.2.2.2.2.2.2.1.length:Int) -1)) j10.2.2.2.2.2.2.1.length then some (j10.1,j10.2.1,j10.2.2.1,j10.2.2.2.1,(IntKind.wrap .i64 (j10.2.2.2.2.1+1)),j10.2.2.2.2.2.1,(cutL 0 (IntKind.wrap .i64 ((j10.2.2.2.2.2.2.1.length:Int) -1)) j10.2.2.2.2.2.2.1),j10.2.2.2.2.2.2.2.1,j10.2.2.2.2.2.2.2.2.1,j10.2.2.2.2.2.2.2.2.2.1,j10.2.2.2.2.2.2.2.2.2.2.1,()) else none else some (j10.1,j10.2.1,j10.2.2.1,j10.2.2.2.1,j10.2.2.2.2.1,j10.2.2.2.2.2.1,j10.2.2.2.2.2.2.1,j10.2.2.2.2.2.2.2.1,j10.2.2.2.2.2.2.2.2.1,j10.2.2.2.2.2.2.2.2.2.1,j10.2.2.2.2.2.2.2.2.2.2.1,()):Option ((PV S_string×PV (.int .i64)×PV (.int .i64)×PV S_impl_Row×PV (.int .i64)×PV (.int .i64)×PV .str×PV (.int .i64)×PV (.int .i64)×PV (.int .i64)×PV .bool×Unit)))).bind fun j11=>((bif (!(j11.2.2.2.2.2.1==3)) then some (j11.1,(IntKind.wrap .i64 (j11.2.1 -1)),j11.2.2.1,j11.2.2.2.1,j11.2.2.2.2.1,j11.2.2.2.2.2.1,j11.2.2.2.2.2.2.1,j11.2.2.2.2.2.2.2.1,j11.2.2.2.2.2.2.2.2.1,j11.2.2.2.2.2.2.2.2.2.1,j11.2.2.2.2.2.2.2.2.2.2.1,()) else some (j11.1,j11.2.1,j11.2.2.1,j11.2.2.2.1,j11.2.2.2.2.1,j11.2.2.2.2.2.1,j11.2.2.2.2.2.2.1,j11.2.2.2.2.2.2.2.1,j11.2.2.2.2.2.2.2.2.1,j11.2.2.2.2.2.2.2.2.2.1,j11.2.2.2.2.2.2.2.2.2.2.1,()):Option ((PV S_string×PV (.int .i64)×PV (.int .i64)×PV S_impl_Row×PV (.int .i64)×PV (.int .i64)×PV .str×PV (.int .i64)×PV (.int .i64)×PV (.int .i64)×PV .bool×Unit)))).bind fun j12=>((bif (!(j12.2.2.2.2.2.1==2)) then some (j12.1,j12.2.1,(IntKind.wrap .i64 (j12.2.2.1 -1)),j12.2.2.2.1,j12.2.2.2.2.1,j12.2.2.2.2.2.1,j12.2.2.2.2.2.2.1,j12.2.2.2.2.2.2.2.1,j12.2.2.2.2.2.2.2.2.1,j12.2.2.2.2.2.2.2.2.2.1,j12.2.2.2.2.2.2.2.2.2.2.1,()) else some (j12.1,j12.2.1,j12.2.2.1,j12.2.2.2.1,j12.2.2.2.2.1,j12.2.2.2.2.2.1,j12.2.2.2.2.2.2.1,j12.2.2.2.2.2.2.2.1,j12.2.2.2.2.2.2.2.2.1,j12.2.2.2.2.2.2.2.2.2.1,j12.2.2.2.2.2.2.2.2.2.2.1,()):Option ((PV S_string×PV (.int .i64)×PV (.int .i64)×PV S_impl_Row×PV (.int .i64)×PV (.int .i64)×PV .str×PV (.int .i64)×PV (.int .i64)×PV (.int .i64)×PV .bool×Unit)))).bind fun j13=>bif roomB (j13.2.2.2.1.length+[(j13.2.2.2.2.2.1,(j13.2.2.2.2.2.2.1,()))].length) then some (.inl (j13.1,j13.2.1,j13.2.2.1,(j13.2.2.2.1++[(j13.2.2.2.2.2.1,(j13.2.2.2.2.2.2.1,()))]),j13.2.2.2.2.1,())) else none else none else none else none else none else some (.inr (t8,t9,())) else some (.inr (t8,t9,()))
noncomputable def w_S_l7Rows_3:PV S_string×PV (.int .i64)×PV (.int .i64)×PV S_impl_Row×PV (.int .i64)×Unit→Option ((PV S_impl_Row×PV (.int .i64)×Unit)):=fix fun d=>b_S_l7Rows_3 d.1 d.2.1 d.2.2.1 d.2.2.2.1 d.2.2.2.2.1
noncomputable def lp_S_l7Rows_3:Lp:=⟨⟨[],[0,1,2,8,9,42,43,44,45,46,49,50],[]⟩,sh_S_l7Rows_3,o_S_l7Rows_3,fun d=>b_S_l7Rows_3 d.1 d.2.1 d.2.2.1 d.2.2.2.1 d.2.2.2.2.1⟩
noncomputable def pl_S_l7Rows:Plan:=⟨[(9,o_S_l7Rows_9),(11,o_S_l7Rows_11),(13,o_S_l7Rows_13),(15,o_S_l7Rows_15)],[(3,lp_S_l7Rows_3)],0,0⟩
noncomputable def f_S_l7Rows (t0:PV S_string)(t1:PV (.int .i64))(t2:PV (.int .i64)):Option (PVs [S_impl_Row,(.int .i64)]×PVs []):=(w_S_l7Rows_3 (t0,t1,t2,[],0,())).bind fun l15=>some ((l15.1,l15.2.1,()),())
noncomputable def ct_S_l7Rows:Ct:=⟨[(.bor,S_string),(.bor,(.int .i64)),(.bor,(.int .i64))],[(S_impl_Row,(.row (.pr .b (.pr .b .b)))),((.int .i64),.b)],fun x=>f_S_l7Rows x.1 x.2.1 x.2.2.1⟩
noncomputable def cx_S_l7Rows:Cx:=⟨tab,arrs,[(195,ct_S_l7Kind)],[],gl,[]⟩
theorem eb_S_l7Rows_3 (t0:PV S_string)(t1:PV (.int .i64))(t2:PV (.int .i64))(t8:PV S_impl_Row)(t9:PV (.int .i64)):denK cx_S_l7Rows (rcN cx_S_l7Rows 0) pl_S_l7Rows 0 ((loopsOf (bodyOf Tryz.f125)).getD 0 .skip) (fillS sh_S_l7Rows_3 (t0,t1,t2,t8,t9,())) (roundK 0 lp_S_l7Rows_3)=b_S_l7Rows_3 t0 t1 t2 t8 t9:=by kernel_rfl
theorem ef_S_l7Rows (t0:PV S_string)(t1:PV (.int .i64))(t2:PV (.int .i64)):denF cx_S_l7Rows 0 pl_S_l7Rows Tryz.f125.ntmps (bodyOf Tryz.f125) Tryz.f125.results.toList [(.bor,S_string),(.bor,(.int .i64)),(.bor,(.int .i64))] [(S_impl_Row,(.row (.pr .b (.pr .b .b)))),((.int .i64),.b)] (t0,t1,t2,())=f_S_l7Rows t0 t1 t2:=by kernel_rfl
theorem ok_S_l7Rows:FnOk gl Tryz.prog 125 ct_S_l7Rows:=
 fnOk (cx:=cx_S_l7Rows) (pl:=pl_S_l7Rows) (dp:=0) (ok0_of tabOk (by unfold ArrOk;kernel_rfl) mix ⟨ok_S_l7Kind,trivial⟩ trivial) Tryz.func125 (by kernel_rfl) (by kernel_rfl) (by kernel_rfl)
  (by rw[show loopsOf (bodyOf Tryz.f125)=[((loopsOf (bodyOf Tryz.f125)).getD 0 .skip)] from by kernel_rfl];exact⟨(by rw[show lookup pl_S_l7Rows.loops (firstId ((loopsOf (bodyOf Tryz.f125)).getD 0 .skip))=some lp_S_l7Rows_3 from by kernel_rfl];exact fun d z h=>(eb_S_l7Rows_3 d.1 d.2.1 d.2.2.1 d.2.2.2.1 d.2.2.2.2.1).trans h),trivial⟩) (fun x=>ef_S_l7Rows x.1 x.2.1 x.2.2.1)
noncomputable def o_S_l4Count_4:List Out:=[⟨.normal,⟨[],[5],[]⟩,mkSh 18 [(5,.val .str .b)]⟩]
noncomputable def pl_S_l4Count:Plan:=⟨[(4,o_S_l4Count_4)],[],0,0⟩
noncomputable def f_S_l4Count (t0:PV (.int .i64))(t1:PV (.int .i64)):Option (PVs [.str]×PVs []):=(f_S_l4Number t0 t1).bind fun r3=>(f_S_l1Num r3.1.1).bind fun r4=>((bif (!(t1==1)) then(f_S_l1Num t1).bind fun r6=>bif decide ([44].length+r6.1.1.length≤1099511627776) then bif decide (r4.1.1.length+([44]++r6.1.1).length≤1099511627776) then some ((r4.1.1++([44]++r6.1.1)),()) else none else none else some (r4.1.1,()):Option ((PV .str×Unit)))).bind fun j7=>some ((j7.1,()),())
noncomputable def ct_S_l4Count:Ct:=⟨[(.bor,(.int .i64)),(.bor,(.int .i64))],[(.str,.b)],fun x=>f_S_l4Count x.1 x.2.1⟩
noncomputable def cx_S_l4Count:Cx:=⟨tab,arrs,[(196,ct_S_l1Num),(197,ct_S_l4Number)],[],gl,[]⟩
theorem ef_S_l4Count (t0:PV (.int .i64))(t1:PV (.int .i64)):denF cx_S_l4Count 0 pl_S_l4Count Tryz.f126.ntmps (bodyOf Tryz.f126) Tryz.f126.results.toList [(.bor,(.int .i64)),(.bor,(.int .i64))] [(.str,.b)] (t0,t1,())=f_S_l4Count t0 t1:=by kernel_rfl
theorem ok_S_l4Count:FnOk gl Tryz.prog 126 ct_S_l4Count:=
 fnOk (cx:=cx_S_l4Count) (pl:=pl_S_l4Count) (dp:=0) (ok0_of tabOk (by unfold ArrOk;kernel_rfl) mix ⟨ok_S_l1Num,ok_S_l4Number,trivial⟩ trivial) Tryz.func126 (by kernel_rfl) (by kernel_rfl) (by kernel_rfl)
  (by rw[show loopsOf (bodyOf Tryz.f126)=[] from by kernel_rfl];exact trivial) (fun x=>ef_S_l4Count x.1 x.2.1)
noncomputable def sh_S_l1Text_3:List Sh:=mkSh 17 [(3,.val .str .b),(6,.val S_string .b),(7,.val (.int .i64) .b),(8,.val (.int .i64) .b)]
noncomputable def o_S_l1Text_3:List Out:=[⟨.exit 0,⟨[],[3],[]⟩,mkSh 17 [(3,.val .str .b)]⟩]
noncomputable def b_S_l1Text_3 (t3:PV .str)(t6:PV S_string)(t7:PV (.int .i64))(t8:PV (.int .i64)):Option ((PV .str×PV S_string×PV (.int .i64)×PV (.int .i64)×Unit)⊕((PV .str×Unit))):=bif (decide (t8<t7)) then bif inB t8 t6.length then bif decide (t3.length+(t6.getD t8.toNat []).length≤1099511627776) then some (.inl ((t3++(t6.getD t8.toNat [])),t6,t7,(IntKind.wrap .i64 (t8+1)),())) else none else none else some (.inr (t3,()))
noncomputable def w_S_l1Text_3:PV .str×PV S_string×PV (.int .i64)×PV (.int .i64)×Unit→Option ((PV .str×Unit)):=fix fun d=>b_S_l1Text_3 d.1 d.2.1 d.2.2.1 d.2.2.2.1
noncomputable def lp_S_l1Text_3:Lp:=⟨⟨[],[3,6,7,8],[]⟩,sh_S_l1Text_3,o_S_l1Text_3,fun d=>b_S_l1Text_3 d.1 d.2.1 d.2.2.1 d.2.2.2.1⟩
noncomputable def pl_S_l1Text:Plan:=⟨[],[(3,lp_S_l1Text_3)],0,0⟩
noncomputable def f_S_l1Text (t0:PV S_string):Option (PVs [.str]×PVs []):=(w_S_l1Text_3 ([],t0,(t0.length:Int),0,())).bind fun l2=>some ((l2.1,()),())
noncomputable def ct_S_l1Text:Ct:=⟨[(.bor,S_string)],[(.str,.b)],fun x=>f_S_l1Text x.1⟩
noncomputable def cx_S_l1Text:Cx:=⟨tab,arrs,[],[],gl,[]⟩
theorem eb_S_l1Text_3 (t3:PV .str)(t6:PV S_string)(t7:PV (.int .i64))(t8:PV (.int .i64)):denK cx_S_l1Text (rcN cx_S_l1Text 0) pl_S_l1Text 0 ((loopsOf (bodyOf Tryz.f127)).getD 0 .skip) (fillS sh_S_l1Text_3 (t3,t6,t7,t8,())) (roundK 0 lp_S_l1Text_3)=b_S_l1Text_3 t3 t6 t7 t8:=by kernel_rfl
theorem ef_S_l1Text (t0:PV S_string):denF cx_S_l1Text 0 pl_S_l1Text Tryz.f127.ntmps (bodyOf Tryz.f127) Tryz.f127.results.toList [(.bor,S_string)] [(.str,.b)] (t0,())=f_S_l1Text t0:=by kernel_rfl
theorem ok_S_l1Text:FnOk gl Tryz.prog 127 ct_S_l1Text:=
 fnOk (cx:=cx_S_l1Text) (pl:=pl_S_l1Text) (dp:=0) (ok0_of tabOk (by unfold ArrOk;kernel_rfl) mix trivial trivial) Tryz.func127 (by kernel_rfl) (by kernel_rfl) (by kernel_rfl)
  (by rw[show loopsOf (bodyOf Tryz.f127)=[((loopsOf (bodyOf Tryz.f127)).getD 0 .skip)] from by kernel_rfl];exact⟨(by rw[show lookup pl_S_l1Text.loops (firstId ((loopsOf (bodyOf Tryz.f127)).getD 0 .skip))=some lp_S_l1Text_3 from by kernel_rfl];exact fun d z h=>(eb_S_l1Text_3 d.1 d.2.1 d.2.2.1 d.2.2.2.1).trans h),trivial⟩) (fun x=>ef_S_l1Text x.1)
noncomputable def pl_S_l7Sign:Plan:=⟨[],[],0,0⟩
noncomputable def f_S_l7Sign (t0:PV (.int .i64)):Option (PVs [.str]×PVs []):=bif cutB t0 (IntKind.wrap .i64 (t0+1)) [63,32,45,43].length then some (((cutL t0 (IntKind.wrap .i64 (t0+1)) [63,32,45,43]),()),()) else none
noncomputable def ct_S_l7Sign:Ct:=⟨[(.bor,(.int .i64))],[(.str,.b)],fun x=>f_S_l7Sign x.1⟩
noncomputable def cx_S_l7Sign:Cx:=⟨tab,arrs,[],[],gl,[]⟩
theorem ef_S_l7Sign (t0:PV (.int .i64)):denF cx_S_l7Sign 0 pl_S_l7Sign Tryz.f198.ntmps (bodyOf Tryz.f198) Tryz.f198.results.toList [(.bor,(.int .i64))] [(.str,.b)] (t0,())=f_S_l7Sign t0:=by kernel_rfl
theorem ok_S_l7Sign:FnOk gl Tryz.prog 198 ct_S_l7Sign:=
 fnOk (cx:=cx_S_l7Sign) (pl:=pl_S_l7Sign) (dp:=0) (ok0_of tabOk (by unfold ArrOk;kernel_rfl) mix trivial trivial) Tryz.func198 (by kernel_rfl) (by kernel_rfl) (by kernel_rfl)
  (by rw[show loopsOf (bodyOf Tryz.f198)=[] from by kernel_rfl];exact trivial) (fun x=>ef_S_l7Sign x.1)
noncomputable def sh_S_l7Text_7:List Sh:=mkSh 50 [(3,.val .str .b),(8,.val S_impl_Group .b),(9,.val (.int .i64) .b),(10,.val (.int .i64) .b),(33,.val S_impl_Row .b),(34,.val (.int .i64) .b),(35,.val (.int .i64) .b)]
noncomputable def o_S_l7Text_7:List Out:=[⟨.exit 2,⟨[],[3,8,9,10],[]⟩,mkSh 50 [(3,.val .str .b),(8,.val S_impl_Group .b),(9,.val (.int .i64) .b),(10,.val (.int .i64) .b)]⟩]
noncomputable def b_S_l7Text_7 (t3:PV .str)(t8:PV S_impl_Group)(t9:PV (.int .i64))(t10:PV (.int .i64))(t33:PV S_impl_Row)(t34:PV (.int .i64))(t35:PV (.int .i64)):Option ((PV .str×PV S_impl_Group×PV (.int .i64)×PV (.int .i64)×PV S_impl_Row×PV (.int .i64)×PV (.int .i64)×Unit)⊕((PV .str×PV S_impl_Group×PV (.int .i64)×PV (.int .i64)×Unit))):=bif (decide (t35<t34)) then bif inB t35 t33.length then(f_S_l7Sign ((t33.getD t35.toNat (dflt Y_impl_Row)).1)).bind fun r11=>(f_S_l5Shown r11.1.1 (((t33.getD t35.toNat (dflt Y_impl_Row)).2).1)).bind fun r12=>bif decide (t3.length+r12.1.1.length≤1099511627776) then some (.inl ((t3++r12.1.1),t8,t9,t10,t33,t34,(IntKind.wrap .i64 (t35+1)),())) else none else none else some (.inr (t3,t8,t9,t10,()))
noncomputable def w_S_l7Text_7:PV .str×PV S_impl_Group×PV (.int .i64)×PV (.int .i64)×PV S_impl_Row×PV (.int .i64)×PV (.int .i64)×Unit→Option ((PV .str×PV S_impl_Group×PV (.int .i64)×PV (.int .i64)×Unit)):=fix fun d=>b_S_l7Text_7 d.1 d.2.1 d.2.2.1 d.2.2.2.1 d.2.2.2.2.1 d.2.2.2.2.2.1 d.2.2.2.2.2.2.1
noncomputable def lp_S_l7Text_7:Lp:=⟨⟨[],[3,8,9,10,33,34,35],[]⟩,sh_S_l7Text_7,o_S_l7Text_7,fun d=>b_S_l7Text_7 d.1 d.2.1 d.2.2.1 d.2.2.2.1 d.2.2.2.2.1 d.2.2.2.2.2.1 d.2.2.2.2.2.2.1⟩
noncomputable def sh_S_l7Text_3:List Sh:=mkSh 50 [(3,.val .str .b),(8,.val S_impl_Group .b),(9,.val (.int .i64) .b),(10,.val (.int .i64) .b)]
noncomputable def o_S_l7Text_3:List Out:=[⟨.exit 0,⟨[],[3],[]⟩,mkSh 50 [(3,.val .str .b)]⟩]
noncomputable def b_S_l7Text_3 (t3:PV .str)(t8:PV S_impl_Group)(t9:PV (.int .i64))(t10:PV (.int .i64)):Option ((PV .str×PV S_impl_Group×PV (.int .i64)×PV (.int .i64)×Unit)⊕((PV .str×Unit))):=bif (decide (t10<t9)) then bif inB t10 t8.length then(f_S_l6Old (t8.getD t10.toNat (dflt Y_impl_Group))).bind fun r14=>(f_S_l4Count ((t8.getD t10.toNat (dflt Y_impl_Group)).1) (r14.1.1.length:Int)).bind fun r15=>bif decide ([64,64,32,45].length+r15.1.1.length≤1099511627776) then bif decide (([64,64,32,45]++r15.1.1).length+[32,43].length≤1099511627776) then(f_S_l6New (t8.getD t10.toNat (dflt Y_impl_Group))).bind fun r16=>(f_S_l4Count (((t8.getD t10.toNat (dflt Y_impl_Group)).2).1) (r16.1.1.length:Int)).bind fun r17=>bif decide ((([64,64,32,45]++r15.1.1)++[32,43]).length+r17.1.1.length≤1099511627776) then bif decide (((([64,64,32,45]++r15.1.1)++[32,43])++r17.1.1).length+[32,64,64,10].length≤1099511627776) then bif decide (t3.length+(((([64,64,32,45]++r15.1.1)++[32,43])++r17.1.1)++[32,64,64,10]).length≤1099511627776) then(w_S_l7Text_7 ((t3++(((([64,64,32,45]++r15.1.1)++[32,43])++r17.1.1)++[32,64,64,10])),t8,t9,t10,(((t8.getD t10.toNat (dflt Y_impl_Group)).2).2).1,(((((t8.getD t10.toNat (dflt Y_impl_Group)).2).2).1).length:Int),0,())).bind fun l18=>some (.inl (l18.1,l18.2.1,l18.2.2.1,(IntKind.wrap .i64 (l18.2.2.2.1+1)),())) else none else none else none else none else none else none else some (.inr (t3,()))
noncomputable def w_S_l7Text_3:PV .str×PV S_impl_Group×PV (.int .i64)×PV (.int .i64)×Unit→Option ((PV .str×Unit)):=fix fun d=>b_S_l7Text_3 d.1 d.2.1 d.2.2.1 d.2.2.2.1
noncomputable def lp_S_l7Text_3:Lp:=⟨⟨[],[3,8,9,10],[]⟩,sh_S_l7Text_3,o_S_l7Text_3,fun d=>b_S_l7Text_3 d.1 d.2.1 d.2.2.1 d.2.2.2.1⟩
noncomputable def pl_S_l7Text:Plan:=⟨[],[(7,lp_S_l7Text_7),(3,lp_S_l7Text_3)],0,0⟩
noncomputable def f_S_l7Text (t0:PV S_impl_Group):Option (PVs [.str]×PVs []):=(w_S_l7Text_3 ([],t0,(t0.length:Int),0,())).bind fun l20=>some ((l20.1,()),())
noncomputable def ct_S_l7Text:Ct:=⟨[(.bor,S_impl_Group)],[(.str,.b)],fun x=>f_S_l7Text x.1⟩
noncomputable def cx_S_l7Text:Cx:=⟨tab,arrs,[(126,ct_S_l4Count),(139,ct_S_l5Shown),(163,ct_S_l6Old),(164,ct_S_l6New),(198,ct_S_l7Sign)],[],gl,[]⟩
theorem eb_S_l7Text_3 (t3:PV .str)(t8:PV S_impl_Group)(t9:PV (.int .i64))(t10:PV (.int .i64)):denK cx_S_l7Text (rcN cx_S_l7Text 0) pl_S_l7Text 0 ((loopsOf (bodyOf Tryz.f129)).getD 0 .skip) (fillS sh_S_l7Text_3 (t3,t8,t9,t10,())) (roundK 0 lp_S_l7Text_3)=b_S_l7Text_3 t3 t8 t9 t10:=by kernel_rfl
theorem eb_S_l7Text_7 (t3:PV .str)(t8:PV S_impl_Group)(t9:PV (.int .i64))(t10:PV (.int .i64))(t33:PV S_impl_Row)(t34:PV (.int .i64))(t35:PV (.int .i64)):denK cx_S_l7Text (rcN cx_S_l7Text 0) pl_S_l7Text 0 ((loopsOf (bodyOf Tryz.f129)).getD 1 .skip) (fillS sh_S_l7Text_7 (t3,t8,t9,t10,t33,t34,t35,())) (roundK 0 lp_S_l7Text_7)=b_S_l7Text_7 t3 t8 t9 t10 t33 t34 t35:=by kernel_rfl
theorem ef_S_l7Text (t0:PV S_impl_Group):denF cx_S_l7Text 0 pl_S_l7Text Tryz.f129.ntmps (bodyOf Tryz.f129) Tryz.f129.results.toList [(.bor,S_impl_Group)] [(.str,.b)] (t0,())=f_S_l7Text t0:=by kernel_rfl
theorem ok_S_l7Text:FnOk gl Tryz.prog 129 ct_S_l7Text:=
 fnOk (cx:=cx_S_l7Text) (pl:=pl_S_l7Text) (dp:=0) (ok0_of tabOk (by unfold ArrOk;kernel_rfl) mix ⟨ok_S_l4Count,ok_S_l5Shown,ok_S_l6Old,ok_S_l6New,ok_S_l7Sign,trivial⟩ trivial) Tryz.func129 (by kernel_rfl) (by kernel_rfl) (by kernel_rfl)
  (by rw[show loopsOf (bodyOf Tryz.f129)=[((loopsOf (bodyOf Tryz.f129)).getD 0 .skip),((loopsOf (bodyOf Tryz.f129)).getD 1 .skip)] from by kernel_rfl];exact⟨(by rw[show lookup pl_S_l7Text.loops (firstId ((loopsOf (bodyOf Tryz.f129)).getD 0 .skip))=some lp_S_l7Text_3 from by kernel_rfl];exact fun d z h=>(eb_S_l7Text_3 d.1 d.2.1 d.2.2.1 d.2.2.2.1).trans h),(by rw[show lookup pl_S_l7Text.loops (firstId ((loopsOf (bodyOf Tryz.f129)).getD 1 .skip))=some lp_S_l7Text_7 from by kernel_rfl];exact fun d z h=>(eb_S_l7Text_7 d.1 d.2.1 d.2.2.1 d.2.2.2.1 d.2.2.2.2.1 d.2.2.2.2.2.1 d.2.2.2.2.2.2.1).trans h),trivial⟩) (fun x=>ef_S_l7Text x.1)
noncomputable def o_S_ReadUnified_19:List Out:=[⟨.normal,⟨[],[6,87],[]⟩,mkSh 89 [(6,.val S_impl_Group (.row (.pr .b (.pr .b (.pr (.row (.pr .b (.pr .b .b))) .b))))),(87,.val .bool .b)]⟩]
noncomputable def sh_S_ReadUnified_6:List Sh:=mkSh 89 [(5,.val S_string .b),(6,.val S_impl_Group (.row (.pr .b (.pr .b (.pr (.row (.pr .b (.pr .b .b))) .b))))),(7,.val .str .b)]
noncomputable def o_S_ReadUnified_6:List Out:=[⟨.exit 0,⟨[],[6,7,83,84,85,86],[]⟩,mkSh 89 [(6,.val S_impl_Group (.row (.pr .b (.pr .b (.pr (.row (.pr .b (.pr .b .b))) .b))))),(7,.val .str .b)]⟩,⟨.ret,⟨[],[2,3,4],[]⟩,mkSh 89 [(2,.val S_impl_Group (.row (.pr .b (.pr .b (.pr (.row (.pr .b (.pr .b .b))) .b))))),(3,.val (.int .i64) .b),(4,.val .bool .b)]⟩]
noncomputable def b_S_ReadUnified_6 (t5:PV S_string)(t6:PV S_impl_Group)(t7:PV .str):Option ((PV S_string×PV S_impl_Group×PV .str×Unit)⊕((PV S_impl_Group×PV .str×Unit)⊕(PV S_impl_Group×PV (.int .i64)×PV .bool×Unit))):=bif (decide ((t5.length:Int)>0)) then bif inB 0 t5.length then(f_S_l1Plain (t5.getD ((0:Int).toNat) [])).bind fun r5=>(f_S_l7Head r5.1.1).bind fun r6=>bif (!r6.1.2.2.2.1) then some (.inr (.inr ([],1,false,()))) else bif cutB 1 (t5.length:Int) t5.length then(f_S_l7Rows (cutL 1 (t5.length:Int) t5) r6.1.2.1 r6.1.2.2.1).bind fun r8=>(f_S_l4Count r6.1.1.1 r6.1.2.1).bind fun r11=>bif decide ([64,64,32,45].length+r11.1.1.length≤1099511627776) then bif decide (([64,64,32,45]++r11.1.1).length+[32,43].length≤1099511627776) then(f_S_l4Count r6.1.1.2.1 r6.1.2.2.1).bind fun r12=>bif decide ((([64,64,32,45]++r11.1.1)++[32,43]).length+r12.1.1.length≤1099511627776) then bif decide (((([64,64,32,45]++r11.1.1)++[32,43])++r12.1.1).length+[32,64,64,10].length≤1099511627776) then bif cutB 1 (IntKind.wrap .i64 (1+r8.1.2.1)) t5.length then(f_S_l1Text (cutL 1 (IntKind.wrap .i64 (1+r8.1.2.1)) t5)).bind fun r14=>bif decide ((((([64,64,32,45]++r11.1.1)++[32,43])++r12.1.1)++[32,64,64,10]).length+r14.1.1.length≤1099511627776) then bif decide (t7.length+((((([64,64,32,45]++r11.1.1)++[32,43])++r12.1.1)++[32,64,64,10])++r14.1.1).length≤1099511627776) then bif inB 0 t5.length then(f_S_l1Ends (t5.getD ((0:Int).toNat) [])).bind fun r18=>bif (!r18.1.1) then some (.inr (.inr ([],1,false,()))) else bif cutB (IntKind.wrap .i64 (1+r8.1.2.1)) (t5.length:Int) t5.length then bif roomB (t6.length+[(r6.1.1.1,(r6.1.1.2.1,(r8.1.1,r6.1.1.2.2.2)))].length) then some (.inl ((cutL (IntKind.wrap .i64 (1+r8.1.2.1)) (t5.length:Int) t5),(t6++[(r6.1.1.1,(r6.1.1.2.1,(r8.1.1,r6.1.1.2.2.2)))]),(t7++((((([64,64,32,45]++r11.1.1)++[32,43])++r12.1.1)++[32,64,64,10])++r14.1.1)),())) else none else none else none else none else none else none else none else none else none else none else none else none else some (.inr (.inl (t6,t7,())))
noncomputable def w_S_ReadUnified_6:PV S_string×PV S_impl_Group×PV .str×Unit→Option ((PV S_impl_Group×PV .str×Unit)⊕(PV S_impl_Group×PV (.int .i64)×PV .bool×Unit)):=fix fun d=>b_S_ReadUnified_6 d.1 d.2.1 d.2.2.1
noncomputable def lp_S_ReadUnified_6:Lp:=⟨⟨[],[5,6,7,83,84,85,86],[]⟩,sh_S_ReadUnified_6,o_S_ReadUnified_6,fun d=>b_S_ReadUnified_6 d.1 d.2.1 d.2.2.1⟩
noncomputable def pl_S_ReadUnified:Plan:=⟨[(19,o_S_ReadUnified_19)],[(6,lp_S_ReadUnified_6)],0,0⟩
noncomputable def f_S_ReadUnified (t0:PV .str):Option (PVs [S_impl_Group,(.int .i64),.bool]×PVs []):=
 bif (decide ((t0.length:Int)>3000)) then
  some (([],1,false,()),())
 else
  (f_S_l1Cut t0).bind fun r2=>
    (w_S_ReadUnified_6 (r2.1.1,[],[],())).bind fun x31=>
      match x31 with
      | .inl l21=>
        ((
          (f_S_l6Good l21.1).bind fun r27=>
            bif (!r27.1.1) then
             some (l21.1,true,())
            else
             (f_S_l7Text l21.1).bind fun r28=>
               some (l21.1,(!(r28.1.1==l21.2.1)),()):Option ((PV S_impl_Group×PV .bool×Unit)))).bind fun j29=>
          bif j29.2.1 then
           some (([],1,false,()),())
          else
           some ((j29.1,0,true,()),())
      | .inr l30=>
        some ((l30.1,l30.2.1,l30.2.2.1,()),())
noncomputable def ct_S_ReadUnified:Ct:=⟨[(.bor,.str)],[(S_impl_Group,(.row (.pr .b (.pr .b (.pr (.row (.pr .b (.pr .b .b))) .b))))),((.int .i64),.b),(.bool,.b)],fun x=>f_S_ReadUnified x.1⟩
noncomputable def cx_S_ReadUnified:Cx:=⟨tab,arrs,[(79,ct_S_l1Cut),(81,ct_S_l1Plain),(95,ct_S_l6Good),(124,ct_S_l7Head),(125,ct_S_l7Rows),(126,ct_S_l4Count),(127,ct_S_l1Text),(128,ct_S_l1Ends),(129,ct_S_l7Text)],[],gl,[]⟩
theorem eb_S_ReadUnified_6 (t5:PV S_string)(t6:PV S_impl_Group)(t7:PV .str):denK cx_S_ReadUnified (rcN cx_S_ReadUnified 0) pl_S_ReadUnified 0 ((loopsOf (bodyOf Tryz.f62)).getD 0 .skip) (fillS sh_S_ReadUnified_6 (t5,t6,t7,())) (roundK 0 lp_S_ReadUnified_6)=b_S_ReadUnified_6 t5 t6 t7:=by kernel_rfl
theorem ef_S_ReadUnified (t0:PV .str):denF cx_S_ReadUnified 0 pl_S_ReadUnified Tryz.f62.ntmps (bodyOf Tryz.f62) Tryz.f62.results.toList [(.bor,.str)] [(S_impl_Group,(.row (.pr .b (.pr .b (.pr (.row (.pr .b (.pr .b .b))) .b))))),((.int .i64),.b),(.bool,.b)] (t0,())=f_S_ReadUnified t0:=by kernel_rfl
theorem ok_S_ReadUnified:FnOk gl Tryz.prog 62 ct_S_ReadUnified:=
 fnOk (cx:=cx_S_ReadUnified) (pl:=pl_S_ReadUnified) (dp:=0) (ok0_of tabOk (by unfold ArrOk;kernel_rfl) mix ⟨ok_S_l1Cut,ok_S_l1Plain,ok_S_l6Good,ok_S_l7Head,ok_S_l7Rows,ok_S_l4Count,ok_S_l1Text,ok_S_l1Ends,ok_S_l7Text,trivial⟩ trivial) Tryz.func62 (by kernel_rfl) (by kernel_rfl) (by kernel_rfl)
  (by rw[show loopsOf (bodyOf Tryz.f62)=[((loopsOf (bodyOf Tryz.f62)).getD 0 .skip)] from by kernel_rfl];exact⟨(by rw[show lookup pl_S_ReadUnified.loops (firstId ((loopsOf (bodyOf Tryz.f62)).getD 0 .skip))=some lp_S_ReadUnified_6 from by kernel_rfl];exact fun d z h=>(eb_S_ReadUnified_6 d.1 d.2.1 d.2.2.1).trans h),trivial⟩) (fun x=>ef_S_ReadUnified x.1)
noncomputable def o_S_l8SameGroups_8:List Out:=[⟨.normal,⟨[],[1,6,7,14,15,16,45],[]⟩,mkSh 65 [(1,.val S_impl_Group .b),(6,.var Y_impl_Group .b),(7,.var Y_impl_Group .b),(14,.val S_impl_Group .b),(15,.val (.int .i64) .b),(16,.val (.int .i64) .b),(45,.val .bool .b)]⟩]
noncomputable def sh_S_l8SameGroups_10:List Sh:=mkSh 65 [(1,.val S_impl_Group .b),(6,.var Y_impl_Group .b),(7,.var Y_impl_Group .b),(14,.val S_impl_Group .b),(15,.val (.int .i64) .b),(16,.val (.int .i64) .b),(48,.val (.int .i64) .b),(49,.val (.int .i64) .b)]
noncomputable def o_S_l8SameGroups_10:List Out:=[⟨.exit 2,⟨[],[1,14,15,16,31,32,33,34,35,38,39,40,41,42,43,44],[]⟩,mkSh 65 [(1,.val S_impl_Group .b),(14,.val S_impl_Group .b),(15,.val (.int .i64) .b),(16,.val (.int .i64) .b)]⟩,⟨.ret,⟨[],[4],[]⟩,mkSh 65 [(4,.val .bool .b)]⟩]
noncomputable def b_S_l8SameGroups_10 (t1:PV S_impl_Group)(t6:PV Y_impl_Group)(t7:PV Y_impl_Group)(t14:PV S_impl_Group)(t15:PV (.int .i64))(t16:PV (.int .i64))(t48:PV (.int .i64))(t49:PV (.int .i64)):Option ((PV S_impl_Group×PV Y_impl_Group×PV Y_impl_Group×PV S_impl_Group×PV (.int .i64)×PV (.int .i64)×PV (.int .i64)×PV (.int .i64)×Unit)⊕((PV S_impl_Group×PV S_impl_Group×PV (.int .i64)×PV (.int .i64)×Unit)⊕(PV .bool×Unit))):=bif (decide (t49<t48)) then bif inB t49 t6.2.2.1.length then bif inB t49 t7.2.2.1.length then bif (!((t6.2.2.1.getD t49.toNat (dflt Y_impl_Row)).1==(t7.2.2.1.getD t49.toNat (dflt Y_impl_Row)).1&&(t6.2.2.1.getD t49.toNat (dflt Y_impl_Row)).2.1==(t7.2.2.1.getD t49.toNat (dflt Y_impl_Row)).2.1)) then some (.inr (.inr (false,()))) else some (.inl (t1,t6,t7,t14,t15,t16,t48,(IntKind.wrap .i64 (t49+1)),())) else none else none else some (.inr (.inl (t1,t14,t15,t16,())))
noncomputable def w_S_l8SameGroups_10:PV S_impl_Group×PV Y_impl_Group×PV Y_impl_Group×PV S_impl_Group×PV (.int .i64)×PV (.int .i64)×PV (.int .i64)×PV (.int .i64)×Unit→Option ((PV S_impl_Group×PV S_impl_Group×PV (.int .i64)×PV (.int .i64)×Unit)⊕(PV .bool×Unit)):=fix fun d=>b_S_l8SameGroups_10 d.1 d.2.1 d.2.2.1 d.2.2.2.1 d.2.2.2.2.1 d.2.2.2.2.2.1 d.2.2.2.2.2.2.1 d.2.2.2.2.2.2.2.1
noncomputable def lp_S_l8SameGroups_10:Lp:=⟨⟨[],[1,6,7,14,15,16,31,32,33,34,35,38,39,40,41,42,43,44,48,49],[]⟩,sh_S_l8SameGroups_10,o_S_l8SameGroups_10,fun d=>b_S_l8SameGroups_10 d.1 d.2.1 d.2.2.1 d.2.2.2.1 d.2.2.2.2.1 d.2.2.2.2.2.1 d.2.2.2.2.2.2.1 d.2.2.2.2.2.2.2.1⟩
noncomputable def sh_S_l8SameGroups_4:List Sh:=mkSh 65 [(1,.val S_impl_Group .b),(14,.val S_impl_Group .b),(15,.val (.int .i64) .b),(16,.val (.int .i64) .b)]
noncomputable def o_S_l8SameGroups_4:List Out:=[⟨.exit 0,⟨[],[],[]⟩,mkSh 65 []⟩,⟨.ret,⟨[],[4],[]⟩,mkSh 65 [(4,.val .bool .b)]⟩]
noncomputable def b_S_l8SameGroups_4 (t1:PV S_impl_Group)(t14:PV S_impl_Group)(t15:PV (.int .i64))(t16:PV (.int .i64)):Option ((PV S_impl_Group×PV S_impl_Group×PV (.int .i64)×PV (.int .i64)×Unit)⊕((Unit)⊕(PV .bool×Unit))):=
 bif (decide (t16<t15)) then
  bif inB t16 t14.length then
   bif inB t16 t1.length then
    ((
      bif (!(((t14.getD t16.toNat (dflt Y_impl_Group)).1)==((t1.getD t16.toNat (dflt Y_impl_Group)).1))) then
       some (t1,(t14.getD t16.toNat (dflt Y_impl_Group)),(t1.getD t16.toNat (dflt Y_impl_Group)),t14,t15,t16,true,())
      else
       bif (!((((t14.getD t16.toNat (dflt Y_impl_Group)).2).1)==(((t1.getD t16.toNat (dflt Y_impl_Group)).2).1))) then
        some (t1,(t14.getD t16.toNat (dflt Y_impl_Group)),(t1.getD t16.toNat (dflt Y_impl_Group)),t14,t15,t16,true,())
       else
        some (t1,(t14.getD t16.toNat (dflt Y_impl_Group)),(t1.getD t16.toNat (dflt Y_impl_Group)),t14,t15,t16,(!((((((t14.getD t16.toNat (dflt Y_impl_Group)).2).2).1).length:Int)==(((((t1.getD t16.toNat (dflt Y_impl_Group)).2).2).1).length:Int))),()):Option ((PV S_impl_Group×PV Y_impl_Group×PV Y_impl_Group×PV S_impl_Group×PV (.int .i64)×PV (.int .i64)×PV .bool×Unit)))).bind fun j6=>
      bif j6.2.2.2.2.2.2.1 then
       some (.inr (.inr (false,())))
      else
       (w_S_l8SameGroups_10 (j6.1,j6.2.1,j6.2.2.1,j6.2.2.2.1,j6.2.2.2.2.1,j6.2.2.2.2.2.1,(j6.2.1.2.2.1.length:Int),0,())).bind fun x13=>
         match x13 with
         | .inl l7=>
           some (.inl (l7.1,l7.2.1,l7.2.2.1,(IntKind.wrap .i64 (l7.2.2.2.1+1)),()))
         | .inr l8=>
           some (.inr (.inr (l8.1,())))
   else
    none
  else
   none
 else
  some (.inr (.inl ()))
noncomputable def w_S_l8SameGroups_4:PV S_impl_Group×PV S_impl_Group×PV (.int .i64)×PV (.int .i64)×Unit→Option ((Unit)⊕(PV .bool×Unit)):=fix fun d=>b_S_l8SameGroups_4 d.1 d.2.1 d.2.2.1 d.2.2.2.1
noncomputable def lp_S_l8SameGroups_4:Lp:=⟨⟨[],[1,14,15,16,31,32,33,34,35,38,39,40,41,42,43,44],[]⟩,sh_S_l8SameGroups_4,o_S_l8SameGroups_4,fun d=>b_S_l8SameGroups_4 d.1 d.2.1 d.2.2.1 d.2.2.2.1⟩
noncomputable def pl_S_l8SameGroups:Plan:=⟨[(8,o_S_l8SameGroups_8)],[(10,lp_S_l8SameGroups_10),(4,lp_S_l8SameGroups_4)],0,0⟩
noncomputable def f_S_l8SameGroups (t0:PV S_impl_Group)(t1:PV S_impl_Group):Option (PVs [.bool]×PVs []):=
 bif (!((t0.length:Int)==(t1.length:Int))) then
  some ((false,()),())
 else
  (w_S_l8SameGroups_4 (t1,t0,(t0.length:Int),0,())).bind fun x14=>
    match x14 with
    | .inl l11=>
      some ((true,()),())
    | .inr l12=>
      some ((l12.1,()),())
noncomputable def ct_S_l8SameGroups:Ct:=⟨[(.bor,S_impl_Group),(.bor,S_impl_Group)],[(.bool,.b)],fun x=>f_S_l8SameGroups x.1 x.2.1⟩
noncomputable def cx_S_l8SameGroups:Cx:=⟨tab,arrs,[],[],gl,[]⟩
theorem eb_S_l8SameGroups_4 (t1:PV S_impl_Group)(t14:PV S_impl_Group)(t15:PV (.int .i64))(t16:PV (.int .i64)):denK cx_S_l8SameGroups (rcN cx_S_l8SameGroups 0) pl_S_l8SameGroups 0 ((loopsOf (bodyOf Tryz.f63)).getD 0 .skip) (fillS sh_S_l8SameGroups_4 (t1,t14,t15,t16,())) (roundK 0 lp_S_l8SameGroups_4)=b_S_l8SameGroups_4 t1 t14 t15 t16:=by kernel_rfl
theorem eb_S_l8SameGroups_10 (t1:PV S_impl_Group)(t6:PV Y_impl_Group)(t7:PV Y_impl_Group)(t14:PV S_impl_Group)(t15:PV (.int .i64))(t16:PV (.int .i64))(t48:PV (.int .i64))(t49:PV (.int .i64)):denK cx_S_l8SameGroups (rcN cx_S_l8SameGroups 0) pl_S_l8SameGroups 0 ((loopsOf (bodyOf Tryz.f63)).getD 1 .skip) (fillS sh_S_l8SameGroups_10 (t1,t6,t7,t14,t15,t16,t48,t49,())) (roundK 0 lp_S_l8SameGroups_10)=b_S_l8SameGroups_10 t1 t6 t7 t14 t15 t16 t48 t49:=by kernel_rfl
theorem ef_S_l8SameGroups (t0:PV S_impl_Group)(t1:PV S_impl_Group):denF cx_S_l8SameGroups 0 pl_S_l8SameGroups Tryz.f63.ntmps (bodyOf Tryz.f63) Tryz.f63.results.toList [(.bor,S_impl_Group),(.bor,S_impl_Group)] [(.bool,.b)] (t0,t1,())=f_S_l8SameGroups t0 t1:=by kernel_rfl
theorem ok_S_l8SameGroups:FnOk gl Tryz.prog 63 ct_S_l8SameGroups:=
 fnOk (cx:=cx_S_l8SameGroups) (pl:=pl_S_l8SameGroups) (dp:=0) (ok0_of tabOk (by unfold ArrOk;kernel_rfl) mix trivial trivial) Tryz.func63 (by kernel_rfl) (by kernel_rfl) (by kernel_rfl)
  (by rw[show loopsOf (bodyOf Tryz.f63)=[((loopsOf (bodyOf Tryz.f63)).getD 0 .skip),((loopsOf (bodyOf Tryz.f63)).getD 1 .skip)] from by kernel_rfl];exact⟨(by rw[show lookup pl_S_l8SameGroups.loops (firstId ((loopsOf (bodyOf Tryz.f63)).getD 0 .skip))=some lp_S_l8SameGroups_4 from by kernel_rfl];exact fun d z h=>(eb_S_l8SameGroups_4 d.1 d.2.1 d.2.2.1 d.2.2.2.1).trans h),(by rw[show lookup pl_S_l8SameGroups.loops (firstId ((loopsOf (bodyOf Tryz.f63)).getD 1 .skip))=some lp_S_l8SameGroups_10 from by kernel_rfl];exact fun d z h=>(eb_S_l8SameGroups_10 d.1 d.2.1 d.2.2.1 d.2.2.2.1 d.2.2.2.2.1 d.2.2.2.2.2.1 d.2.2.2.2.2.2.1 d.2.2.2.2.2.2.2.1).trans h),trivial⟩) (fun x=>ef_S_l8SameGroups x.1 x.2.1)
noncomputable def o_S_SameSides_4:List Out:=[⟨.normal,⟨[],[6,9,29],[]⟩,mkSh 33 [(6,.val S_impl_Group (.row (.pr .b (.pr .b (.pr (.row (.pr .b (.pr .b .b))) .b))))),(9,.val S_impl_Group (.row (.pr .b (.pr .b (.pr (.row (.pr .b (.pr .b .b))) .b))))),(29,.val .bool .b)]⟩]
noncomputable def pl_S_SameSides:Plan:=⟨[(4,o_S_SameSides_4)],[],0,0⟩
noncomputable def f_S_SameSides (t0:PV .str)(t1:PV .str):Option (PVs [.bool,.bool]×PVs []):=(f_S_ReadContext t0).bind fun r2=>(f_S_ReadUnified t1).bind fun r4=>((bif (!r2.1.2.2.1) then some (r2.1.1,r4.1.1,true,()) else some (r2.1.1,r4.1.1,(!r4.1.2.2.1),()):Option ((PV S_impl_Group×PV S_impl_Group×PV .bool×Unit)))).bind fun j6=>bif j6.2.2.1 then some ((false,false,()),()) else(f_S_l8SameGroups j6.1 j6.2.1).bind fun r7=>some ((r7.1.1,true,()),())
noncomputable def ct_S_SameSides:Ct:=⟨[(.bor,.str),(.bor,.str)],[(.bool,.b),(.bool,.b)],fun x=>f_S_SameSides x.1 x.2.1⟩
noncomputable def cx_S_SameSides:Cx:=⟨tab,arrs,[(50,ct_S_ReadContext),(62,ct_S_ReadUnified),(63,ct_S_l8SameGroups)],[],gl,[]⟩
theorem ef_S_SameSides (t0:PV .str)(t1:PV .str):denF cx_S_SameSides 0 pl_S_SameSides Tryz.f17.ntmps (bodyOf Tryz.f17) Tryz.f17.results.toList [(.bor,.str),(.bor,.str)] [(.bool,.b),(.bool,.b)] (t0,t1,())=f_S_SameSides t0 t1:=by kernel_rfl
theorem ok_S_SameSides:FnOk gl Tryz.prog 17 ct_S_SameSides:=
 fnOk (cx:=cx_S_SameSides) (pl:=pl_S_SameSides) (dp:=0) (ok0_of tabOk (by unfold ArrOk;kernel_rfl) mix ⟨ok_S_ReadContext,ok_S_ReadUnified,ok_S_l8SameGroups,trivial⟩ trivial) Tryz.func17 (by kernel_rfl) (by kernel_rfl) (by kernel_rfl)
  (by rw[show loopsOf (bodyOf Tryz.f17)=[] from by kernel_rfl];exact trivial) (fun x=>ef_S_SameSides x.1 x.2.1)
noncomputable def pl_strings_SplitAfter:Plan:=⟨[],[],0,0⟩
noncomputable def f_strings_SplitAfter (t0:PV .str)(t1:PV .str):Option (PVs [S_string]×PVs []):=(f_strings_genSplit t0 t1 (t1.length:Int) (-1)).bind fun r1=>some ((r1.1.1,()),())
noncomputable def ct_strings_SplitAfter:Ct:=⟨[(.bor,.str),(.bor,.str)],[(S_string,.b)],fun x=>f_strings_SplitAfter x.1 x.2.1⟩
noncomputable def cx_strings_SplitAfter:Cx:=⟨tab,arrs,[(215,ct_strings_genSplit)],[],gl,[]⟩
theorem ef_strings_SplitAfter (t0:PV .str)(t1:PV .str):denF cx_strings_SplitAfter 0 pl_strings_SplitAfter Tryz.f145.ntmps (bodyOf Tryz.f145) Tryz.f145.results.toList [(.bor,.str),(.bor,.str)] [(S_string,.b)] (t0,t1,())=f_strings_SplitAfter t0 t1:=by kernel_rfl
theorem ok_strings_SplitAfter:FnOk gl Tryz.prog 145 ct_strings_SplitAfter:=
 fnOk (cx:=cx_strings_SplitAfter) (pl:=pl_strings_SplitAfter) (dp:=0) (ok0_of tabOk (by unfold ArrOk;kernel_rfl) mix ⟨ok_strings_genSplit,trivial⟩ trivial) Tryz.func145 (by kernel_rfl) (by kernel_rfl) (by kernel_rfl)
  (by rw[show loopsOf (bodyOf Tryz.f145)=[] from by kernel_rfl];exact trivial) (fun x=>ef_strings_SplitAfter x.1 x.2.1)
noncomputable def o_I_linesOf_7:List Out:=[⟨.normal,⟨[],[3],[]⟩,mkSh 21 [(3,.val S_string .b)]⟩]
noncomputable def pl_I_linesOf:Plan:=⟨[(7,o_I_linesOf_7)],[],0,0⟩
noncomputable def f_I_linesOf (t0:PV .str):Option (PVs [S_string]×PVs []):=bif (t0==[]) then some (([],()),()) else(f_strings_SplitAfter t0 [10]).bind fun r2=>((bif inB (IntKind.wrap .i64 ((r2.1.1.length:Int) -1)) r2.1.1.length then bif ((r2.1.1.getD ((IntKind.wrap .i64 ((r2.1.1.length:Int) -1)).toNat) [])==[]) then bif cutB 0 (IntKind.wrap .i64 ((r2.1.1.length:Int) -1)) r2.1.1.length then some ((cutL 0 (IntKind.wrap .i64 ((r2.1.1.length:Int) -1)) r2.1.1),()) else none else some (r2.1.1,()) else none:Option ((PV S_string×Unit)))).bind fun j3=>some ((j3.1,()),())
noncomputable def ct_I_linesOf:Ct:=⟨[(.bor,.str)],[(S_string,.b)],fun x=>f_I_linesOf x.1⟩
noncomputable def cx_I_linesOf:Cx:=⟨tab,arrs,[(145,ct_strings_SplitAfter)],[],gl,[]⟩
theorem ef_I_linesOf (t0:PV .str):denF cx_I_linesOf 0 pl_I_linesOf Tryz.f75.ntmps (bodyOf Tryz.f75) Tryz.f75.results.toList [(.bor,.str)] [(S_string,.b)] (t0,())=f_I_linesOf t0:=by kernel_rfl
theorem ok_I_linesOf:FnOk gl Tryz.prog 75 ct_I_linesOf:=
 fnOk (cx:=cx_I_linesOf) (pl:=pl_I_linesOf) (dp:=0) (ok0_of tabOk (by unfold ArrOk;kernel_rfl) mix ⟨ok_strings_SplitAfter,trivial⟩ trivial) Tryz.func75 (by kernel_rfl) (by kernel_rfl) (by kernel_rfl)
  (by rw[show loopsOf (bodyOf Tryz.f75)=[] from by kernel_rfl];exact trivial) (fun x=>ef_I_linesOf x.1)
noncomputable def pl_internal_stringslite_HasPrefix:Plan:=⟨[],[],0,0⟩
noncomputable def f_internal_stringslite_HasPrefix (t0:PV .str)(t1:PV .str):Option (PVs [.bool]×PVs []):=bif (decide ((t0.length:Int)≥(t1.length:Int))) then bif cutB 0 (t1.length:Int) t0.length then some ((((cutL 0 (t1.length:Int) t0)==t1),()),()) else none else some ((false,()),())
noncomputable def ct_internal_stringslite_HasPrefix:Ct:=⟨[(.bor,.str),(.bor,.str)],[(.bool,.b)],fun x=>f_internal_stringslite_HasPrefix x.1 x.2.1⟩
noncomputable def cx_internal_stringslite_HasPrefix:Cx:=⟨tab,arrs,[],[],gl,[]⟩
theorem ef_internal_stringslite_HasPrefix (t0:PV .str)(t1:PV .str):denF cx_internal_stringslite_HasPrefix 0 pl_internal_stringslite_HasPrefix Tryz.f255.ntmps (bodyOf Tryz.f255) Tryz.f255.results.toList [(.bor,.str),(.bor,.str)] [(.bool,.b)] (t0,t1,())=f_internal_stringslite_HasPrefix t0 t1:=by kernel_rfl
theorem ok_internal_stringslite_HasPrefix:FnOk gl Tryz.prog 255 ct_internal_stringslite_HasPrefix:=
 fnOk (cx:=cx_internal_stringslite_HasPrefix) (pl:=pl_internal_stringslite_HasPrefix) (dp:=0) (ok0_of tabOk (by unfold ArrOk;kernel_rfl) mix trivial trivial) Tryz.func255 (by kernel_rfl) (by kernel_rfl) (by kernel_rfl)
  (by rw[show loopsOf (bodyOf Tryz.f255)=[] from by kernel_rfl];exact trivial) (fun x=>ef_internal_stringslite_HasPrefix x.1 x.2.1)
noncomputable def pl_internal_stringslite_CutPrefix:Plan:=⟨[],[],0,0⟩
noncomputable def f_internal_stringslite_CutPrefix (t0:PV .str)(t1:PV .str):Option (PVs [.str,.bool]×PVs []):=(f_internal_stringslite_HasPrefix t0 t1).bind fun r4=>bif (!r4.1.1) then some ((t0,false,()),()) else bif cutB (t1.length:Int) (t0.length:Int) t0.length then some (((cutL (t1.length:Int) (t0.length:Int) t0),true,()),()) else none
noncomputable def ct_internal_stringslite_CutPrefix:Ct:=⟨[(.bor,.str),(.bor,.str)],[(.str,.b),(.bool,.b)],fun x=>f_internal_stringslite_CutPrefix x.1 x.2.1⟩
noncomputable def cx_internal_stringslite_CutPrefix:Cx:=⟨tab,arrs,[(255,ct_internal_stringslite_HasPrefix)],[],gl,[]⟩
theorem ef_internal_stringslite_CutPrefix (t0:PV .str)(t1:PV .str):denF cx_internal_stringslite_CutPrefix 0 pl_internal_stringslite_CutPrefix Tryz.f260.ntmps (bodyOf Tryz.f260) Tryz.f260.results.toList [(.bor,.str),(.bor,.str)] [(.str,.b),(.bool,.b)] (t0,t1,())=f_internal_stringslite_CutPrefix t0 t1:=by kernel_rfl
theorem ok_internal_stringslite_CutPrefix:FnOk gl Tryz.prog 260 ct_internal_stringslite_CutPrefix:=
 fnOk (cx:=cx_internal_stringslite_CutPrefix) (pl:=pl_internal_stringslite_CutPrefix) (dp:=0) (ok0_of tabOk (by unfold ArrOk;kernel_rfl) mix ⟨ok_internal_stringslite_HasPrefix,trivial⟩ trivial) Tryz.func260 (by kernel_rfl) (by kernel_rfl) (by kernel_rfl)
  (by rw[show loopsOf (bodyOf Tryz.f260)=[] from by kernel_rfl];exact trivial) (fun x=>ef_internal_stringslite_CutPrefix x.1 x.2.1)
noncomputable def pl_strings_CutPrefix:Plan:=⟨[],[],0,0⟩
noncomputable def f_strings_CutPrefix (t0:PV .str)(t1:PV .str):Option (PVs [.str,.bool]×PVs []):=(f_internal_stringslite_CutPrefix t0 t1).bind fun r1=>some ((r1.1.1,r1.1.2.1,()),())
noncomputable def ct_strings_CutPrefix:Ct:=⟨[(.bor,.str),(.bor,.str)],[(.str,.b),(.bool,.b)],fun x=>f_strings_CutPrefix x.1 x.2.1⟩
noncomputable def cx_strings_CutPrefix:Cx:=⟨tab,arrs,[(260,ct_internal_stringslite_CutPrefix)],[],gl,[]⟩
theorem ef_strings_CutPrefix (t0:PV .str)(t1:PV .str):denF cx_strings_CutPrefix 0 pl_strings_CutPrefix Tryz.f218.ntmps (bodyOf Tryz.f218) Tryz.f218.results.toList [(.bor,.str),(.bor,.str)] [(.str,.b),(.bool,.b)] (t0,t1,())=f_strings_CutPrefix t0 t1:=by kernel_rfl
theorem ok_strings_CutPrefix:FnOk gl Tryz.prog 218 ct_strings_CutPrefix:=
 fnOk (cx:=cx_strings_CutPrefix) (pl:=pl_strings_CutPrefix) (dp:=0) (ok0_of tabOk (by unfold ArrOk;kernel_rfl) mix ⟨ok_internal_stringslite_CutPrefix,trivial⟩ trivial) Tryz.func218 (by kernel_rfl) (by kernel_rfl) (by kernel_rfl)
  (by rw[show loopsOf (bodyOf Tryz.f218)=[] from by kernel_rfl];exact trivial) (fun x=>ef_strings_CutPrefix x.1 x.2.1)
noncomputable def pl_internal_stringslite_HasSuffix:Plan:=⟨[],[],0,0⟩
noncomputable def f_internal_stringslite_HasSuffix (t0:PV .str)(t1:PV .str):Option (PVs [.bool]×PVs []):=bif (decide ((t0.length:Int)≥(t1.length:Int))) then bif cutB (IntKind.wrap .i64 ((t0.length:Int) -(t1.length:Int))) (t0.length:Int) t0.length then some ((((cutL (IntKind.wrap .i64 ((t0.length:Int) -(t1.length:Int))) (t0.length:Int) t0)==t1),()),()) else none else some ((false,()),())
noncomputable def ct_internal_stringslite_HasSuffix:Ct:=⟨[(.bor,.str),(.bor,.str)],[(.bool,.b)],fun x=>f_internal_stringslite_HasSuffix x.1 x.2.1⟩
noncomputable def cx_internal_stringslite_HasSuffix:Cx:=⟨tab,arrs,[],[],gl,[]⟩
theorem ef_internal_stringslite_HasSuffix (t0:PV .str)(t1:PV .str):denF cx_internal_stringslite_HasSuffix 0 pl_internal_stringslite_HasSuffix Tryz.f265.ntmps (bodyOf Tryz.f265) Tryz.f265.results.toList [(.bor,.str),(.bor,.str)] [(.bool,.b)] (t0,t1,())=f_internal_stringslite_HasSuffix t0 t1:=by kernel_rfl
theorem ok_internal_stringslite_HasSuffix:FnOk gl Tryz.prog 265 ct_internal_stringslite_HasSuffix:=
 fnOk (cx:=cx_internal_stringslite_HasSuffix) (pl:=pl_internal_stringslite_HasSuffix) (dp:=0) (ok0_of tabOk (by unfold ArrOk;kernel_rfl) mix trivial trivial) Tryz.func265 (by kernel_rfl) (by kernel_rfl) (by kernel_rfl)
  (by rw[show loopsOf (bodyOf Tryz.f265)=[] from by kernel_rfl];exact trivial) (fun x=>ef_internal_stringslite_HasSuffix x.1 x.2.1)
noncomputable def pl_internal_stringslite_CutSuffix:Plan:=⟨[],[],0,0⟩
noncomputable def f_internal_stringslite_CutSuffix (t0:PV .str)(t1:PV .str):Option (PVs [.str,.bool]×PVs []):=(f_internal_stringslite_HasSuffix t0 t1).bind fun r4=>bif (!r4.1.1) then some ((t0,false,()),()) else bif cutB 0 (IntKind.wrap .i64 ((t0.length:Int) -(t1.length:Int))) t0.length then some (((cutL 0 (IntKind.wrap .i64 ((t0.length:Int) -(t1.length:Int))) t0),true,()),()) else none
noncomputable def ct_internal_stringslite_CutSuffix:Ct:=⟨[(.bor,.str),(.bor,.str)],[(.str,.b),(.bool,.b)],fun x=>f_internal_stringslite_CutSuffix x.1 x.2.1⟩
noncomputable def cx_internal_stringslite_CutSuffix:Cx:=⟨tab,arrs,[(265,ct_internal_stringslite_HasSuffix)],[],gl,[]⟩
theorem ef_internal_stringslite_CutSuffix (t0:PV .str)(t1:PV .str):denF cx_internal_stringslite_CutSuffix 0 pl_internal_stringslite_CutSuffix Tryz.f261.ntmps (bodyOf Tryz.f261) Tryz.f261.results.toList [(.bor,.str),(.bor,.str)] [(.str,.b),(.bool,.b)] (t0,t1,())=f_internal_stringslite_CutSuffix t0 t1:=by kernel_rfl
theorem ok_internal_stringslite_CutSuffix:FnOk gl Tryz.prog 261 ct_internal_stringslite_CutSuffix:=
 fnOk (cx:=cx_internal_stringslite_CutSuffix) (pl:=pl_internal_stringslite_CutSuffix) (dp:=0) (ok0_of tabOk (by unfold ArrOk;kernel_rfl) mix ⟨ok_internal_stringslite_HasSuffix,trivial⟩ trivial) Tryz.func261 (by kernel_rfl) (by kernel_rfl) (by kernel_rfl)
  (by rw[show loopsOf (bodyOf Tryz.f261)=[] from by kernel_rfl];exact trivial) (fun x=>ef_internal_stringslite_CutSuffix x.1 x.2.1)
noncomputable def pl_strings_CutSuffix:Plan:=⟨[],[],0,0⟩
noncomputable def f_strings_CutSuffix (t0:PV .str)(t1:PV .str):Option (PVs [.str,.bool]×PVs []):=(f_internal_stringslite_CutSuffix t0 t1).bind fun r1=>some ((r1.1.1,r1.1.2.1,()),())
noncomputable def ct_strings_CutSuffix:Ct:=⟨[(.bor,.str),(.bor,.str)],[(.str,.b),(.bool,.b)],fun x=>f_strings_CutSuffix x.1 x.2.1⟩
noncomputable def cx_strings_CutSuffix:Cx:=⟨tab,arrs,[(261,ct_internal_stringslite_CutSuffix)],[],gl,[]⟩
theorem ef_strings_CutSuffix (t0:PV .str)(t1:PV .str):denF cx_strings_CutSuffix 0 pl_strings_CutSuffix Tryz.f219.ntmps (bodyOf Tryz.f219) Tryz.f219.results.toList [(.bor,.str),(.bor,.str)] [(.str,.b),(.bool,.b)] (t0,t1,())=f_strings_CutSuffix t0 t1:=by kernel_rfl
theorem ok_strings_CutSuffix:FnOk gl Tryz.prog 219 ct_strings_CutSuffix:=
 fnOk (cx:=cx_strings_CutSuffix) (pl:=pl_strings_CutSuffix) (dp:=0) (ok0_of tabOk (by unfold ArrOk;kernel_rfl) mix ⟨ok_internal_stringslite_CutSuffix,trivial⟩ trivial) Tryz.func219 (by kernel_rfl) (by kernel_rfl) (by kernel_rfl)
  (by rw[show loopsOf (bodyOf Tryz.f219)=[] from by kernel_rfl];exact trivial) (fun x=>ef_strings_CutSuffix x.1 x.2.1)
noncomputable def pl_internal_stringslite_Cut:Plan:=⟨[],[],0,0⟩
noncomputable def f_internal_stringslite_Cut (t0:PV .str)(t1:PV .str):Option (PVs [.str,.str,.bool]×PVs []):=(f_internal_stringslite_Index t0 t1).bind fun r4=>bif (decide (r4.1.1≥0)) then bif cutB 0 r4.1.1 t0.length then bif cutB (IntKind.wrap .i64 (r4.1.1+(t1.length:Int))) (t0.length:Int) t0.length then some (((cutL 0 r4.1.1 t0),(cutL (IntKind.wrap .i64 (r4.1.1+(t1.length:Int))) (t0.length:Int) t0),true,()),()) else none else none else some ((t0,[],false,()),())
noncomputable def ct_internal_stringslite_Cut:Ct:=⟨[(.bor,.str),(.bor,.str)],[(.str,.b),(.str,.b),(.bool,.b)],fun x=>f_internal_stringslite_Cut x.1 x.2.1⟩
noncomputable def cx_internal_stringslite_Cut:Cx:=⟨tab,arrs,[(277,ct_internal_stringslite_Index)],[],gl,[]⟩
theorem ef_internal_stringslite_Cut (t0:PV .str)(t1:PV .str):denF cx_internal_stringslite_Cut 0 pl_internal_stringslite_Cut Tryz.f253.ntmps (bodyOf Tryz.f253) Tryz.f253.results.toList [(.bor,.str),(.bor,.str)] [(.str,.b),(.str,.b),(.bool,.b)] (t0,t1,())=f_internal_stringslite_Cut t0 t1:=by kernel_rfl
theorem ok_internal_stringslite_Cut:FnOk gl Tryz.prog 253 ct_internal_stringslite_Cut:=
 fnOk (cx:=cx_internal_stringslite_Cut) (pl:=pl_internal_stringslite_Cut) (dp:=0) (ok0_of tabOk (by unfold ArrOk;kernel_rfl) mix ⟨ok_internal_stringslite_Index,trivial⟩ trivial) Tryz.func253 (by kernel_rfl) (by kernel_rfl) (by kernel_rfl)
  (by rw[show loopsOf (bodyOf Tryz.f253)=[] from by kernel_rfl];exact trivial) (fun x=>ef_internal_stringslite_Cut x.1 x.2.1)
noncomputable def pl_strings_Cut:Plan:=⟨[],[],0,0⟩
noncomputable def f_strings_Cut (t0:PV .str)(t1:PV .str):Option (PVs [.str,.str,.bool]×PVs []):=(f_internal_stringslite_Cut t0 t1).bind fun r1=>some ((r1.1.1,r1.1.2.1,r1.1.2.2.1,()),())
noncomputable def ct_strings_Cut:Ct:=⟨[(.bor,.str),(.bor,.str)],[(.str,.b),(.str,.b),(.bool,.b)],fun x=>f_strings_Cut x.1 x.2.1⟩
noncomputable def cx_strings_Cut:Cx:=⟨tab,arrs,[(253,ct_internal_stringslite_Cut)],[],gl,[]⟩
theorem ef_strings_Cut (t0:PV .str)(t1:PV .str):denF cx_strings_Cut 0 pl_strings_Cut Tryz.f211.ntmps (bodyOf Tryz.f211) Tryz.f211.results.toList [(.bor,.str),(.bor,.str)] [(.str,.b),(.str,.b),(.bool,.b)] (t0,t1,())=f_strings_Cut t0 t1:=by kernel_rfl
theorem ok_strings_Cut:FnOk gl Tryz.prog 211 ct_strings_Cut:=
 fnOk (cx:=cx_strings_Cut) (pl:=pl_strings_Cut) (dp:=0) (ok0_of tabOk (by unfold ArrOk;kernel_rfl) mix ⟨ok_internal_stringslite_Cut,trivial⟩ trivial) Tryz.func211 (by kernel_rfl) (by kernel_rfl) (by kernel_rfl)
  (by rw[show loopsOf (bodyOf Tryz.f211)=[] from by kernel_rfl];exact trivial) (fun x=>ef_strings_Cut x.1 x.2.1)
noncomputable def pl_I_readTwo:Plan:=⟨[],[],0,0⟩
noncomputable def f_I_readTwo (t0:PV .str):Option (PVs [(.int .i64),(.int .i64),.bool,.bool]×PVs []):=(f_strings_Cut t0 [44]).bind fun r2=>(f_I_readNumber r2.1.1).bind fun r4=>bif (!r2.1.2.2.1) then some ((r4.1.1,r4.1.1,false,r4.1.2.1,()),()) else(f_I_readNumber r2.1.2.1).bind fun r6=>bif r4.1.2.1 then some ((r4.1.1,r6.1.1,true,r6.1.2.1,()),()) else some ((r4.1.1,r6.1.1,true,false,()),())
noncomputable def ct_I_readTwo:Ct:=⟨[(.bor,.str)],[((.int .i64),.b),((.int .i64),.b),(.bool,.b),(.bool,.b)],fun x=>f_I_readTwo x.1⟩
noncomputable def cx_I_readTwo:Cx:=⟨tab,arrs,[(211,ct_strings_Cut),(212,ct_I_readNumber)],[],gl,[]⟩
theorem ef_I_readTwo (t0:PV .str):denF cx_I_readTwo 0 pl_I_readTwo Tryz.f143.ntmps (bodyOf Tryz.f143) Tryz.f143.results.toList [(.bor,.str)] [((.int .i64),.b),((.int .i64),.b),(.bool,.b),(.bool,.b)] (t0,())=f_I_readTwo t0:=by kernel_rfl
theorem ok_I_readTwo:FnOk gl Tryz.prog 143 ct_I_readTwo:=
 fnOk (cx:=cx_I_readTwo) (pl:=pl_I_readTwo) (dp:=0) (ok0_of tabOk (by unfold ArrOk;kernel_rfl) mix ⟨ok_strings_Cut,ok_I_readNumber,trivial⟩ trivial) Tryz.func143 (by kernel_rfl) (by kernel_rfl) (by kernel_rfl)
  (by rw[show loopsOf (bodyOf Tryz.f143)=[] from by kernel_rfl];exact trivial) (fun x=>ef_I_readTwo x.1)
noncomputable def o_I_readEnds_3:List Out:=[⟨.normal,⟨[],[7,8,35],[]⟩,mkSh 38 [(7,.val (.int .i64) .b),(8,.val (.int .i64) .b),(35,.val .bool .b)]⟩]
noncomputable def pl_I_readEnds:Plan:=⟨[(3,o_I_readEnds_3)],[],0,0⟩
noncomputable def f_I_readEnds (t0:PV .str)(t1:PV (.int .i64)):Option (PVs [(.int .i64),(.int .i64),.bool]×PVs []):=(f_I_readTwo t0).bind fun r2=>((bif (!r2.1.2.2.2.1) then some (r2.1.1,r2.1.2.1,true,()) else bif (decide ((bif decide (r2.1.2.1>r2.1.1) then r2.1.2.1 else r2.1.1)>1000)) then some (r2.1.1,r2.1.2.1,true,()) else bif r2.1.2.2.1 then some (r2.1.1,r2.1.2.1,(decide (r2.1.1>(IntKind.wrap .i64 (r2.1.2.1+t1)))),()) else some (r2.1.1,r2.1.2.1,false,()):Option ((PV (.int .i64)×PV (.int .i64)×PV .bool×Unit)))).bind fun j4=>bif j4.2.2.1 then some ((0,0,false,()),()) else some ((j4.1,j4.2.1,true,()),())
noncomputable def ct_I_readEnds:Ct:=⟨[(.bor,.str),(.bor,(.int .i64))],[((.int .i64),.b),((.int .i64),.b),(.bool,.b)],fun x=>f_I_readEnds x.1 x.2.1⟩
noncomputable def cx_I_readEnds:Cx:=⟨tab,arrs,[(143,ct_I_readTwo)],[],gl,[]⟩
theorem ef_I_readEnds (t0:PV .str)(t1:PV (.int .i64)):denF cx_I_readEnds 0 pl_I_readEnds Tryz.f267.ntmps (bodyOf Tryz.f267) Tryz.f267.results.toList [(.bor,.str),(.bor,(.int .i64))] [((.int .i64),.b),((.int .i64),.b),(.bool,.b)] (t0,t1,())=f_I_readEnds t0 t1:=by kernel_rfl
theorem ok_I_readEnds:FnOk gl Tryz.prog 267 ct_I_readEnds:=
 fnOk (cx:=cx_I_readEnds) (pl:=pl_I_readEnds) (dp:=0) (ok0_of tabOk (by unfold ArrOk;kernel_rfl) mix ⟨ok_I_readTwo,trivial⟩ trivial) Tryz.func267 (by kernel_rfl) (by kernel_rfl) (by kernel_rfl)
  (by rw[show loopsOf (bodyOf Tryz.f267)=[] from by kernel_rfl];exact trivial) (fun x=>ef_I_readEnds x.1 x.2.1)
noncomputable def pl_I_ReadEnd:Plan:=⟨[],[],0,0⟩
noncomputable def f_I_ReadEnd (t0:PV .str):Option (PVs [(.int .i64),(.int .i64),.bool]×PVs []):=(f_I_readEnds t0 1).bind fun r1=>some ((r1.1.1,r1.1.2.1,r1.1.2.2.1,()),())
noncomputable def ct_I_ReadEnd:Ct:=⟨[(.bor,.str)],[((.int .i64),.b),((.int .i64),.b),(.bool,.b)],fun x=>f_I_ReadEnd x.1⟩
noncomputable def cx_I_ReadEnd:Cx:=⟨tab,arrs,[(267,ct_I_readEnds)],[],gl,[]⟩
theorem ef_I_ReadEnd (t0:PV .str):denF cx_I_ReadEnd 0 pl_I_ReadEnd Tryz.f232.ntmps (bodyOf Tryz.f232) Tryz.f232.results.toList [(.bor,.str)] [((.int .i64),.b),((.int .i64),.b),(.bool,.b)] (t0,())=f_I_ReadEnd t0:=by kernel_rfl
theorem ok_I_ReadEnd:FnOk gl Tryz.prog 232 ct_I_ReadEnd:=
 fnOk (cx:=cx_I_ReadEnd) (pl:=pl_I_ReadEnd) (dp:=0) (ok0_of tabOk (by unfold ArrOk;kernel_rfl) mix ⟨ok_I_readEnds,trivial⟩ trivial) Tryz.func232 (by kernel_rfl) (by kernel_rfl) (by kernel_rfl)
  (by rw[show loopsOf (bodyOf Tryz.f232)=[] from by kernel_rfl];exact trivial) (fun x=>ef_I_ReadEnd x.1)
noncomputable def pl_I_readHead:Plan:=⟨[],[],0,0⟩
noncomputable def f_I_readHead (t0:PV S_string)(t1:PV .str)(t2:PV .str):Option (PVs [(.int .i64),S_string,.bool]×PVs []):=bif ((t0.length:Int)==0) then some ((0,[],false,()),()) else bif inB 0 t0.length then(f_strings_CutPrefix (t0.getD ((0:Int).toNat) []) t1).bind fun r2=>(f_strings_CutSuffix r2.1.1 t2).bind fun r4=>(f_I_ReadEnd r4.1.1).bind fun r6=>bif cutB 1 (t0.length:Int) t0.length then bif r2.1.2.1 then bif r4.1.2.1 then some ((r6.1.1,(cutL 1 (t0.length:Int) t0),r6.1.2.2.1,()),()) else some ((r6.1.1,(cutL 1 (t0.length:Int) t0),false,()),()) else some ((r6.1.1,(cutL 1 (t0.length:Int) t0),false,()),()) else none else none
noncomputable def ct_I_readHead:Ct:=⟨[(.bor,S_string),(.bor,.str),(.bor,.str)],[((.int .i64),.b),(S_string,.b),(.bool,.b)],fun x=>f_I_readHead x.1 x.2.1 x.2.2.1⟩
noncomputable def cx_I_readHead:Cx:=⟨tab,arrs,[(218,ct_strings_CutPrefix),(219,ct_strings_CutSuffix),(232,ct_I_ReadEnd)],[],gl,[]⟩
theorem ef_I_readHead (t0:PV S_string)(t1:PV .str)(t2:PV .str):denF cx_I_readHead 0 pl_I_readHead Tryz.f170.ntmps (bodyOf Tryz.f170) Tryz.f170.results.toList [(.bor,S_string),(.bor,.str),(.bor,.str)] [((.int .i64),.b),(S_string,.b),(.bool,.b)] (t0,t1,t2,())=f_I_readHead t0 t1 t2:=by kernel_rfl
theorem ok_I_readHead:FnOk gl Tryz.prog 170 ct_I_readHead:=
 fnOk (cx:=cx_I_readHead) (pl:=pl_I_readHead) (dp:=0) (ok0_of tabOk (by unfold ArrOk;kernel_rfl) mix ⟨ok_strings_CutPrefix,ok_strings_CutSuffix,ok_I_ReadEnd,trivial⟩ trivial) Tryz.func170 (by kernel_rfl) (by kernel_rfl) (by kernel_rfl)
  (by rw[show loopsOf (bodyOf Tryz.f170)=[] from by kernel_rfl];exact trivial) (fun x=>ef_I_readHead x.1 x.2.1 x.2.2.1)
noncomputable def pl_internal_stringslite_TrimSuffix:Plan:=⟨[],[],0,0⟩
noncomputable def f_internal_stringslite_TrimSuffix (t0:PV .str)(t1:PV .str):Option (PVs [.str]×PVs []):=(f_internal_stringslite_HasSuffix t0 t1).bind fun r4=>bif r4.1.1 then bif cutB 0 (IntKind.wrap .i64 ((t0.length:Int) -(t1.length:Int))) t0.length then some (((cutL 0 (IntKind.wrap .i64 ((t0.length:Int) -(t1.length:Int))) t0),()),()) else none else some ((t0,()),())
noncomputable def ct_internal_stringslite_TrimSuffix:Ct:=⟨[(.bor,.str),(.bor,.str)],[(.str,.b)],fun x=>f_internal_stringslite_TrimSuffix x.1 x.2.1⟩
noncomputable def cx_internal_stringslite_TrimSuffix:Cx:=⟨tab,arrs,[(265,ct_internal_stringslite_HasSuffix)],[],gl,[]⟩
theorem ef_internal_stringslite_TrimSuffix (t0:PV .str)(t1:PV .str):denF cx_internal_stringslite_TrimSuffix 0 pl_internal_stringslite_TrimSuffix Tryz.f249.ntmps (bodyOf Tryz.f249) Tryz.f249.results.toList [(.bor,.str),(.bor,.str)] [(.str,.b)] (t0,t1,())=f_internal_stringslite_TrimSuffix t0 t1:=by kernel_rfl
theorem ok_internal_stringslite_TrimSuffix:FnOk gl Tryz.prog 249 ct_internal_stringslite_TrimSuffix:=
 fnOk (cx:=cx_internal_stringslite_TrimSuffix) (pl:=pl_internal_stringslite_TrimSuffix) (dp:=0) (ok0_of tabOk (by unfold ArrOk;kernel_rfl) mix ⟨ok_internal_stringslite_HasSuffix,trivial⟩ trivial) Tryz.func249 (by kernel_rfl) (by kernel_rfl) (by kernel_rfl)
  (by rw[show loopsOf (bodyOf Tryz.f249)=[] from by kernel_rfl];exact trivial) (fun x=>ef_internal_stringslite_TrimSuffix x.1 x.2.1)
noncomputable def pl_strings_TrimSuffix:Plan:=⟨[],[],0,0⟩
noncomputable def f_strings_TrimSuffix (t0:PV .str)(t1:PV .str):Option (PVs [.str]×PVs []):=(f_internal_stringslite_TrimSuffix t0 t1).bind fun r1=>some ((r1.1.1,()),())
noncomputable def ct_strings_TrimSuffix:Ct:=⟨[(.bor,.str),(.bor,.str)],[(.str,.b)],fun x=>f_strings_TrimSuffix x.1 x.2.1⟩
noncomputable def cx_strings_TrimSuffix:Cx:=⟨tab,arrs,[(249,ct_internal_stringslite_TrimSuffix)],[],gl,[]⟩
theorem ef_strings_TrimSuffix (t0:PV .str)(t1:PV .str):denF cx_strings_TrimSuffix 0 pl_strings_TrimSuffix Tryz.f206.ntmps (bodyOf Tryz.f206) Tryz.f206.results.toList [(.bor,.str),(.bor,.str)] [(.str,.b)] (t0,t1,())=f_strings_TrimSuffix t0 t1:=by kernel_rfl
theorem ok_strings_TrimSuffix:FnOk gl Tryz.prog 206 ct_strings_TrimSuffix:=
 fnOk (cx:=cx_strings_TrimSuffix) (pl:=pl_strings_TrimSuffix) (dp:=0) (ok0_of tabOk (by unfold ArrOk;kernel_rfl) mix ⟨ok_internal_stringslite_TrimSuffix,trivial⟩ trivial) Tryz.func206 (by kernel_rfl) (by kernel_rfl) (by kernel_rfl)
  (by rw[show loopsOf (bodyOf Tryz.f206)=[] from by kernel_rfl];exact trivial) (fun x=>ef_strings_TrimSuffix x.1 x.2.1)
noncomputable def pl_I_plain:Plan:=⟨[],[],0,0⟩
noncomputable def f_I_plain (t0:PV .str):Option (PVs [.str]×PVs []):=(f_strings_TrimSuffix t0 [10]).bind fun r1=>some ((r1.1.1,()),())
noncomputable def ct_I_plain:Ct:=⟨[(.bor,.str)],[(.str,.b)],fun x=>f_I_plain x.1⟩
noncomputable def cx_I_plain:Cx:=⟨tab,arrs,[(206,ct_strings_TrimSuffix)],[],gl,[]⟩
theorem ef_I_plain (t0:PV .str):denF cx_I_plain 0 pl_I_plain Tryz.f141.ntmps (bodyOf Tryz.f141) Tryz.f141.results.toList [(.bor,.str)] [(.str,.b)] (t0,())=f_I_plain t0:=by kernel_rfl
theorem ok_I_plain:FnOk gl Tryz.prog 141 ct_I_plain:=
 fnOk (cx:=cx_I_plain) (pl:=pl_I_plain) (dp:=0) (ok0_of tabOk (by unfold ArrOk;kernel_rfl) mix ⟨ok_strings_TrimSuffix,trivial⟩ trivial) Tryz.func141 (by kernel_rfl) (by kernel_rfl) (by kernel_rfl)
  (by rw[show loopsOf (bodyOf Tryz.f141)=[] from by kernel_rfl];exact trivial) (fun x=>ef_I_plain x.1)
noncomputable def o_I_takeHalf_6:List Out:=[⟨.normal,⟨[(9,.b)],[0,1,2,8,9,15,16,17,18,19,22,23,24,25,26,29,30,31,32,33,34,35,55,56,57,58],[]⟩,mkSh 72 [(0,.val S_string .b),(1,.val .str .b),(2,.val (.int .i64) .b),(8,.val S_impl_Row (.row (.pr .b (.pr .b .b)))),(9,.var Y_impl_Row .b),(15,.val S_string .b),(16,.bad .str),(17,.val .str .b),(18,.val (.int .i64) .b),(19,.val .bool .b),(22,.val S_string .b),(23,.bad .str),(24,.val .str .b),(25,.val (.int .u8) .b),(26,.val .bool .b),(29,.val .str .b),(30,.val .str .b),(31,.val S_string .b),(32,.bad .str),(33,.val .str .b),(34,.val .str .b),(35,.val .bool .b)]⟩]
noncomputable def o_I_takeHalf_8:List Out:=[⟨.normal,⟨[],[0,1,2,8,9,15,16,17,18,19,22,23,24,25,26,29,30,31,32,33,34,35,59],[]⟩,mkSh 72 [(0,.val S_string .b),(1,.val .str .b),(2,.val (.int .i64) .b),(8,.val S_impl_Row (.row (.pr .b (.pr .b .b)))),(9,.var Y_impl_Row .b),(15,.val S_string .b),(16,.bad .str),(17,.val .str .b),(18,.val (.int .i64) .b),(19,.val .bool .b),(22,.val S_string .b),(23,.bad .str),(24,.val .str .b),(25,.val (.int .u8) .b),(26,.val .bool .b),(29,.val .str .b),(30,.val .str .b),(31,.val S_string .b),(32,.bad .str),(33,.val .str .b),(34,.val .str .b),(35,.val .bool .b),(59,.val .bool .b)]⟩]
noncomputable def o_I_takeHalf_9:List Out:=[⟨.normal,⟨[(9,.b)],[0,1,2,8,9,15,16,17,18,19,22,23,24,25,26,29,30,31,32,33,34,35,55,56,57,58],[]⟩,mkSh 72 [(0,.val S_string .b),(1,.val .str .b),(2,.val (.int .i64) .b),(8,.val S_impl_Row (.row (.pr .b (.pr .b .b)))),(9,.var Y_impl_Row .b),(15,.val S_string .b),(16,.bad .str),(17,.val .str .b),(18,.val (.int .i64) .b),(19,.val .bool .b),(22,.val S_string .b),(23,.bad .str),(24,.val .str .b),(25,.val (.int .u8) .b),(26,.val .bool .b),(29,.val .str .b),(30,.val .str .b),(31,.val S_string .b),(32,.bad .str),(33,.val .str .b),(34,.val .str .b),(35,.val .bool .b)]⟩]
noncomputable def sh_I_takeHalf_2:List Sh:=mkSh 72 [(0,.val S_string .b),(1,.val .str .b),(2,.val (.int .i64) .b),(8,.val S_impl_Row (.row (.pr .b (.pr .b .b))))]
noncomputable def o_I_takeHalf_2:List Out:=[⟨.exit 0,⟨[],[0,8],[]⟩,mkSh 72 [(0,.val S_string .b),(8,.val S_impl_Row (.row (.pr .b (.pr .b .b))))]⟩]
noncomputable def b_I_takeHalf_2 (t0:PV S_string)(t1:PV .str)(t2:PV (.int .i64))(t8:PV S_impl_Row):Option ((PV S_string×PV .str×PV (.int .i64)×PV S_impl_Row×Unit)⊕((PV S_string×PV S_impl_Row×Unit))):=bif (decide ((t0.length:Int)>0)) then bif inB 0 t0.length then bif (decide (((t0.getD ((0:Int).toNat) []).length:Int)>1)) then bif inB 0 t0.length then bif inB 1 (t0.getD ((0:Int).toNat) []).length then bif ((((t0.getD ((0:Int).toNat) []).getD (1:Int).toNat 0).toNat:Int)==32) then bif decide ([32,33].length+t1.length≤1099511627776) then bif inB 0 t0.length then bif cutB 0 1 (t0.getD ((0:Int).toNat) []).length then(f_strings_Contains ([32,33]++t1) (cutL 0 1 (t0.getD ((0:Int).toNat) []))).bind fun r10=>bif r10.1.1 then bif inB 0 t0.length then bif cutB 2 ((t0.getD ((0:Int).toNat) []).length:Int) (t0.getD ((0:Int).toNat) []).length then((bif inB 0 t0.length then bif inB 0 (t0.getD ((0:Int).toNat) []).length then bif ((((t0.getD ((0:Int).toNat) []).getD (0:Int).toNat 0).toNat:Int)==32) then some (t0,t1,t2,t8,(1,((cutL 2 ((t0.getD ((0:Int).toNat) []).length:Int) (t0.getD ((0:Int).toNat) [])),())),t0,(t0.getD ((0:Int).toNat) []),(t0.getD ((0:Int).toNat) []),((t0.getD ((0:Int).toNat) []).length:Int),(decide (((t0.getD ((0:Int).toNat) []).length:Int)>1)),t0,(t0.getD ((0:Int).toNat) []),(t0.getD ((0:Int).toNat) []),(((t0.getD ((0:Int).toNat) []).getD (1:Int).toNat 0).toNat:Int),((((t0.getD ((0:Int).toNat) []).getD (1:Int).toNat 0).toNat:Int)==32),t1,([32,33]++t1),t0,(t0.getD ((0:Int).toNat) []),(t0.getD ((0:Int).toNat) []),(cutL 0 1 (t0.getD ((0:Int).toNat) [])),r10.1.1,()) else some (t0,t1,t2,t8,(t2,((cutL 2 ((t0.getD ((0:Int).toNat) []).length:Int) (t0.getD ((0:Int).toNat) [])),())),t0,(t0.getD ((0:Int).toNat) []),(t0.getD ((0:Int).toNat) []),((t0.getD ((0:Int).toNat) []).length:Int),(decide (((t0.getD ((0:Int).toNat) []).length:Int)>1)),t0,(t0.getD ((0:Int).toNat) []),(t0.getD ((0:Int).toNat) []),(((t0.getD ((0:Int).toNat) []).getD (1:Int).toNat 0).toNat:Int),((((t0.getD ((0:Int).toNat) []).getD (1:Int).toNat 0).toNat:Int)==32),t1,([32,33]++t1),t0,(t0.getD ((0:Int).toNat) []),(t0.getD ((0:Int).toNat) []),(cutL 0 1 (t0.getD ((0:Int).toNat) [])),r10.1.1,()) else none else none:Option ((PV S_string×PV .str×PV (.int .i64)×PV S_impl_Row×PV Y_impl_Row×PV S_string×PV .str×PV .str×PV (.int .i64)×PV .bool×PV S_string×PV .str×PV .str×PV (.int .u8)×PV .bool×PV .str×PV .str×PV S_string×PV .str×PV .str×PV .str×PV .bool×Unit)))).bind fun j11=>bif cutB 1 (j11.1.length:Int) j11.1.length then((((bif (decide (((cutL 1 (j11.1.length:Int) j11.1).length:Int)>0)) then bif inB 0 (cutL 1 (j11.1.length:Int) j11.1).length then some ((cutL 1 (j11.1.length:Int) j11.1),j11.2.1,j11.2.2.1,j11.2.2.2.1,j11.2.2.2.2.1,j11.2.2.2.2.2.1,j11.2.2.2.2.2.2.1,j11.2.2.2.2.2.2.2.1,j11.2.2.2.2.2.2.2.2.1,j11.2.2.2.2.2.2.2.2.2.1,j11.2.2.2.2.2.2.2.2.2.2.1,j11.2.2.2.2.2.2.2.2.2.2.2.1,j11.2.2.2.2.2.2.2.2.2.2.2.2.1,j11.2.2.2.2.2.2.2.2.2.2.2.2.2.1,j11.2.2.2.2.2.2.2.2.2.2.2.2.2.2.1,j11.2.2.2.2.2.2.2.2.2.2.2.2.2.2.2.1,j11.2.2.2.2.2.2.2.2.2.2.2.2.2.2.2.2.1,j11.2.2.2.2.2.2.2.2.2.2.2.2.2.2.2.2.2.1,j11.2.2.2.2.2.2.2.2.2.2.2.2.2.2.2.2.2.2.1,j11.2.2.2.2.2.2.2.2.2.2.2.2.2.2.2.2.2.2.2.1,j11.2.2.2.2.2.2.2.2.2.2.2.2.2.2.2.2.2.2.2.2.1,j11.2.2.2.2.2.2.2.2.2.2.2.2.2.2.2.2.2.2.2.2.2.1,(((cutL 1 (j11.1.length:Int) j11.1).getD ((0:Int).toNat) [])==[92,32,110,111,110,101,10]),()) else none else some ((cutL 1 (j11.1.length:Int) j11.1),j11.2.1,j11.2.2.1,j11.2.2.2.1,j11.2.2.2.2.1,j11.2.2.2.2.2.1,j11.2.2.2.2.2.2.1,j11.2.2.2.2.2.2.2.1,j11.2.2.2.2.2.2.2.2.1,j11.2.2.2.2.2.2.2.2.2.1,j11.2.2.2.2.2.2.2.2.2.2.1,j11.2.2.2.2.2.2.2.2.2.2.2.1,j11.2.2.2.2.2.2.2.2.2.2.2.2.1,j11.2.2.2.2.2.2.2.2.2.2.2.2.2.1,j11.2.2.2.2.2.2.2.2.2.2.2.2.2.2.1,j11.2.2.2.2.2.2.2.2.2.2.2.2.2.2.2.1,j11.2.2.2.2.2.2.2.2.2.2.2.2.2.2.2.2.1,j11.2.2.2.2.2.2.2.2.2.2.2.2.2.2.2.2.2.1,j11.2.2.2.2.2.2.2.2.2.2.2.2.2.2.2.2.2.2.1,j11.2.2.2.2.2.2.2.2.2.2.2.2.2.2.2.2.2.2.2.1,j11.2.2.2.2.2.2.2.2.2.2.2.2.2.2.2.2.2.2.2.2.1,j11.2.2.2.2.2.2.2.2.2.2.2.2.2.2.2.2.2.2.2.2.2.1,false,()):Option ((PV S_string×PV .str×PV (.int .i64)×PV S_impl_Row×PV Y_impl_Row×PV S_string×PV .str×PV .str×PV (.int .i64)×PV .bool×PV S_string×PV .str×PV .str×PV (.int .u8)×PV .bool×PV .str×PV .str×PV S_string×PV .str×PV .str×PV .str×PV .bool×PV .bool×Unit)))).bind fun j12=>bif j12.2.2.2.2.2.2.2.2.2.2.2.2.2.2.2.2.2.2.2.2.2.2.1 then(f_I_plain j12.2.2.2.2.1.2.1).bind fun r13=>bif cutB 1 (j12.1.length:Int) j12.1.length then some ((cutL 1 (j12.1.length:Int) j12.1),j12.2.1,j12.2.2.1,j12.2.2.2.1,(j12.2.2.2.2.1.1,(r13.1.1,j12.2.2.2.2.1.2.2)),j12.2.2.2.2.2.1,j12.2.2.2.2.2.2.1,j12.2.2.2.2.2.2.2.1,j12.2.2.2.2.2.2.2.2.1,j12.2.2.2.2.2.2.2.2.2.1,j12.2.2.2.2.2.2.2.2.2.2.1,j12.2.2.2.2.2.2.2.2.2.2.2.1,j12.2.2.2.2.2.2.2.2.2.2.2.2.1,j12.2.2.2.2.2.2.2.2.2.2.2.2.2.1,j12.2.2.2.2.2.2.2.2.2.2.2.2.2.2.1,j12.2.2.2.2.2.2.2.2.2.2.2.2.2.2.2.1,j12.2.2.2.2.2.2.2.2.2.2.2.2.2.2.2.2.1,j12.2.2.2.2.2.2.2.2.2.2.2.2.2.2.2.2.2.1,j12.2.2.2.2.2.2.2.2.2.2.2.2.2.2.2.2.2.2.1,j12.2.2.2.2.2.2.2.2.2.2.2.2.2.2.2.2.2.2.2.1,j12.2.2.2.2.2.2.2.2.2.2.2.2.2.2.2.2.2.2.2.2.1,j12.2.2.2.2.2.2.2.2.2.2.2.2.2.2.2.2.2.2.2.2.2.1,()) else none else some (j12.1,j12.2.1,j12.2.2.1,j12.2.2.2.1,j12.2.2.2.2.1,j12.2.2.2.2.2.1,j12.2.2.2.2.2.2.1,j12.2.2.2.2.2.2.2.1,j12.2.2.2.2.2.2.2.2.1,j12.2.2.2.2.2.2.2.2.2.1,j12.2.2.2.2.2.2.2.2.2.2.1,j12.2.2.2.2.2.2.2.2.2.2.2.1,j12.2.2.2.2.2.2.2.2.2.2.2.2.1,j12.2.2.2.2.2.2.2.2.2.2.2.2.2.1,j12.2.2.2.2.2.2.2.2.2.2.2.2.2.2.1,j12.2.2.2.2.2.2.2.2.2.2.2.2.2.2.2.1,j12.2.2.2.2.2.2.2.2.2.2.2.2.2.2.2.2.1,j12.2.2.2.2.2.2.2.2.2.2.2.2.2.2.2.2.2.1,j12.2.2.2.2.2.2.2.2.2.2.2.2.2.2.2.2.2.2.1,j12.2.2.2.2.2.2.2.2.2.2.2.2.2.2.2.2.2.2.2.1,j12.2.2.2.2.2.2.2.2.2.2.2.2.2.2.2.2.2.2.2.2.1,j12.2.2.2.2.2.2.2.2.2.2.2.2.2.2.2.2.2.2.2.2.2.1,()):Option ((PV S_string×PV .str×PV (.int .i64)×PV S_impl_Row×PV Y_impl_Row×PV S_string×PV .str×PV .str×PV (.int .i64)×PV .bool×PV S_string×PV .str×PV .str×PV (.int .u8)×PV .bool×PV .str×PV .str×PV S_string×PV .str×PV .str×PV .str×PV .bool×Unit)))).bind fun j14=>bif roomB (j14.2.2.2.1.length+[j14.2.2.2.2.1].length) then some (.inl (j14.1,j14.2.1,j14.2.2.1,(j14.2.2.2.1++[j14.2.2.2.2.1]),())) else none else none else none else none else some (.inr (t0,t8,())) else none else none else none else some (.inr (t0,t8,())) else none else none else some (.inr (t0,t8,())) else none else some (.inr (t0,t8,()))
noncomputable def w_I_takeHalf_2:PV S_string×PV .str×PV (.int .i64)×PV S_impl_Row×Unit→Option ((PV S_string×PV S_impl_Row×Unit)):=fix fun d=>b_I_takeHalf_2 d.1 d.2.1 d.2.2.1 d.2.2.2.1
noncomputable def lp_I_takeHalf_2:Lp:=⟨⟨[],[0,1,2,8,55,56,57,58],[]⟩,sh_I_takeHalf_2,o_I_takeHalf_2,fun d=>b_I_takeHalf_2 d.1 d.2.1 d.2.2.1 d.2.2.2.1⟩
noncomputable def pl_I_takeHalf:Plan:=⟨[(6,o_I_takeHalf_6),(8,o_I_takeHalf_8),(9,o_I_takeHalf_9)],[(2,lp_I_takeHalf_2)],0,0⟩
noncomputable def f_I_takeHalf (t0:PV S_string)(t1:PV .str)(t2:PV (.int .i64)):Option (PVs [S_impl_Row,S_string]×PVs []):=(w_I_takeHalf_2 (t0,t1,t2,([]:PV S_impl_Row),())).bind fun l16=>some ((l16.2.1,l16.1,()),())
noncomputable def ct_I_takeHalf:Ct:=⟨[(.bor,S_string),(.bor,.str),(.bor,(.int .i64))],[(S_impl_Row,(.row (.pr .b (.pr .b .b)))),(S_string,.b)],fun x=>f_I_takeHalf x.1 x.2.1 x.2.2.1⟩
noncomputable def cx_I_takeHalf:Cx:=⟨tab,arrs,[(141,ct_I_plain),(233,ct_strings_Contains)],[],gl,[]⟩
theorem eb_I_takeHalf_2 (t0:PV S_string)(t1:PV .str)(t2:PV (.int .i64))(t8:PV S_impl_Row):denK cx_I_takeHalf (rcN cx_I_takeHalf 0) pl_I_takeHalf 0 ((loopsOf (bodyOf Tryz.f171)).getD 0 .skip) (fillS sh_I_takeHalf_2 (t0,t1,t2,t8,())) (roundK 0 lp_I_takeHalf_2)=b_I_takeHalf_2 t0 t1 t2 t8:=by kernel_rfl
theorem ef_I_takeHalf (t0:PV S_string)(t1:PV .str)(t2:PV (.int .i64)):denF cx_I_takeHalf 0 pl_I_takeHalf Tryz.f171.ntmps (bodyOf Tryz.f171) Tryz.f171.results.toList [(.bor,S_string),(.bor,.str),(.bor,(.int .i64))] [(S_impl_Row,(.row (.pr .b (.pr .b .b)))),(S_string,.b)] (t0,t1,t2,())=f_I_takeHalf t0 t1 t2:=by kernel_rfl
theorem ok_I_takeHalf:FnOk gl Tryz.prog 171 ct_I_takeHalf:=
 fnOk (cx:=cx_I_takeHalf) (pl:=pl_I_takeHalf) (dp:=0) (ok0_of tabOk (by unfold ArrOk;kernel_rfl) mix ⟨ok_I_plain,ok_strings_Contains,trivial⟩ trivial) Tryz.func171 (by kernel_rfl) (by kernel_rfl) (by kernel_rfl)
  (by rw[show loopsOf (bodyOf Tryz.f171)=[((loopsOf (bodyOf Tryz.f171)).getD 0 .skip)] from by kernel_rfl];exact⟨(by rw[show lookup pl_I_takeHalf.loops (firstId ((loopsOf (bodyOf Tryz.f171)).getD 0 .skip))=some lp_I_takeHalf_2 from by kernel_rfl];exact fun d z h=>(eb_I_takeHalf_2 d.1 d.2.1 d.2.2.1 d.2.2.2.1).trans h),trivial⟩) (fun x=>ef_I_takeHalf x.1 x.2.1 x.2.2.1)
noncomputable def o_I_merged_5:List Out:=[⟨.normal,⟨[],[0,1,5,13,37,38,39,40,41,56,57,58],[]⟩,mkSh 71 [(0,.val S_impl_Row .b),(1,.val S_impl_Row .b),(5,.val S_impl_Row (.row (.pr .b (.pr .b .b)))),(13,.val .bool .b)]⟩]
noncomputable def o_I_merged_7:List Out:=[⟨.normal,⟨[],[0,1,5,18,19,20,21,22,32,56,57,58],[]⟩,mkSh 71 [(0,.val S_impl_Row .b),(1,.val S_impl_Row .b),(5,.val S_impl_Row (.row (.pr .b (.pr .b .b)))),(32,.val .bool .b)]⟩]
noncomputable def o_I_merged_9:List Out:=[⟨.normal,⟨[],[0,1,5,18,19,20,21,22,37,38,39,40,41,51],[]⟩,mkSh 71 [(0,.val S_impl_Row .b),(1,.val S_impl_Row .b),(5,.val S_impl_Row (.row (.pr .b (.pr .b .b)))),(51,.val .bool .b)]⟩]
noncomputable def sh_I_merged_2:List Sh:=mkSh 71 [(0,.val S_impl_Row .b),(1,.val S_impl_Row .b),(5,.val S_impl_Row (.row (.pr .b (.pr .b .b))))]
noncomputable def o_I_merged_2:List Out:=[⟨.exit 0,⟨[],[5],[]⟩,mkSh 71 [(5,.val S_impl_Row (.row (.pr .b (.pr .b .b))))]⟩,⟨.ret,⟨[],[4],[]⟩,mkSh 71 [(4,.val S_impl_Row (.row (.pr .b (.pr .b .b))))]⟩]
noncomputable def b_I_merged_2 (t0:PV S_impl_Row)(t1:PV S_impl_Row)(t5:PV S_impl_Row):Option ((PV S_impl_Row×PV S_impl_Row×PV S_impl_Row×Unit)⊕((PV S_impl_Row×Unit)⊕(PV S_impl_Row×Unit))):=bif (decide ((IntKind.wrap .i64 ((t0.length:Int)+(t1.length:Int)))>0)) then((bif (decide ((t0.length:Int)>0)) then bif inB 0 t0.length then some (t0,t1,t5,(!(((t0.getD ((0:Int).toNat) (dflt Y_impl_Row)).1)==1)),()) else none else some (t0,t1,t5,false,()):Option ((PV S_impl_Row×PV S_impl_Row×PV S_impl_Row×PV .bool×Unit)))).bind fun j1=>bif j1.2.2.2.1 then bif inB 0 j1.1.length then bif roomB (j1.2.2.1.length+[(j1.1.getD ((0:Int).toNat) (dflt Y_impl_Row))].length) then bif cutB 1 (j1.1.length:Int) j1.1.length then some (.inl ((cutL 1 (j1.1.length:Int) j1.1),j1.2.1,(j1.2.2.1++[(j1.1.getD ((0:Int).toNat) (dflt Y_impl_Row))]),())) else none else none else none else((bif (decide ((j1.2.1.length:Int)>0)) then bif inB 0 j1.2.1.length then some (j1.1,j1.2.1,j1.2.2.1,(!(((j1.2.1.getD ((0:Int).toNat) (dflt Y_impl_Row)).1)==1)),()) else none else some (j1.1,j1.2.1,j1.2.2.1,false,()):Option ((PV S_impl_Row×PV S_impl_Row×PV S_impl_Row×PV .bool×Unit)))).bind fun j2=>bif j2.2.2.2.1 then bif inB 0 j2.2.1.length then bif roomB (j2.2.2.1.length+[(j2.2.1.getD ((0:Int).toNat) (dflt Y_impl_Row))].length) then bif cutB 1 (j2.2.1.length:Int) j2.2.1.length then some (.inl (j2.1,(cutL 1 (j2.2.1.length:Int) j2.2.1),(j2.2.2.1++[(j2.2.1.getD ((0:Int).toNat) (dflt Y_impl_Row))]),())) else none else none else none else((bif (decide ((j2.1.length:Int)>0)) then some (j2.1,j2.2.1,j2.2.2.1,(decide ((j2.2.1.length:Int)>0)),()) else some (j2.1,j2.2.1,j2.2.2.1,false,()):Option ((PV S_impl_Row×PV S_impl_Row×PV S_impl_Row×PV .bool×Unit)))).bind fun j3=>bif j3.2.2.2.1 then bif inB 0 j3.1.length then bif roomB (j3.2.2.1.length+[(j3.1.getD ((0:Int).toNat) (dflt Y_impl_Row))].length) then bif cutB 1 (j3.1.length:Int) j3.1.length then bif cutB 1 (j3.2.1.length:Int) j3.2.1.length then some (.inl ((cutL 1 (j3.1.length:Int) j3.1),(cutL 1 (j3.2.1.length:Int) j3.2.1),(j3.2.2.1++[(j3.1.getD ((0:Int).toNat) (dflt Y_impl_Row))]),())) else none else none else none else none else some (.inr (.inr ([],()))) else some (.inr (.inl (t5,())))
noncomputable def w_I_merged_2:PV S_impl_Row×PV S_impl_Row×PV S_impl_Row×Unit→Option ((PV S_impl_Row×Unit)⊕(PV S_impl_Row×Unit)):=fix fun d=>b_I_merged_2 d.1 d.2.1 d.2.2.1
noncomputable def lp_I_merged_2:Lp:=⟨⟨[],[0,1,5,18,19,20,21,22,37,38,39,40,41,56,57,58],[]⟩,sh_I_merged_2,o_I_merged_2,fun d=>b_I_merged_2 d.1 d.2.1 d.2.2.1⟩
noncomputable def pl_I_merged:Plan:=⟨[(5,o_I_merged_5),(7,o_I_merged_7),(9,o_I_merged_9)],[(2,lp_I_merged_2)],0,0⟩
noncomputable def f_I_merged (t0:PV S_impl_Row)(t1:PV S_impl_Row):Option (PVs [S_impl_Row]×PVs []):=
 (w_I_merged_2 (t0,t1,([]:PV S_impl_Row),())).bind fun x8=>
   match x8 with
   | .inl l6=>
     some ((l6.1,()),())
   | .inr l7=>
     some ((l7.1,()),())
noncomputable def ct_I_merged:Ct:=⟨[(.bor,S_impl_Row),(.bor,S_impl_Row)],[(S_impl_Row,(.row (.pr .b (.pr .b .b))))],fun x=>f_I_merged x.1 x.2.1⟩
noncomputable def cx_I_merged:Cx:=⟨tab,arrs,[],[],gl,[]⟩
theorem eb_I_merged_2 (t0:PV S_impl_Row)(t1:PV S_impl_Row)(t5:PV S_impl_Row):denK cx_I_merged (rcN cx_I_merged 0) pl_I_merged 0 ((loopsOf (bodyOf Tryz.f173)).getD 0 .skip) (fillS sh_I_merged_2 (t0,t1,t5,())) (roundK 0 lp_I_merged_2)=b_I_merged_2 t0 t1 t5:=by kernel_rfl
theorem ef_I_merged (t0:PV S_impl_Row)(t1:PV S_impl_Row):denF cx_I_merged 0 pl_I_merged Tryz.f173.ntmps (bodyOf Tryz.f173) Tryz.f173.results.toList [(.bor,S_impl_Row),(.bor,S_impl_Row)] [(S_impl_Row,(.row (.pr .b (.pr .b .b))))] (t0,t1,())=f_I_merged t0 t1:=by kernel_rfl
theorem ok_I_merged:FnOk gl Tryz.prog 173 ct_I_merged:=
 fnOk (cx:=cx_I_merged) (pl:=pl_I_merged) (dp:=0) (ok0_of tabOk (by unfold ArrOk;kernel_rfl) mix trivial trivial) Tryz.func173 (by kernel_rfl) (by kernel_rfl) (by kernel_rfl)
  (by rw[show loopsOf (bodyOf Tryz.f173)=[((loopsOf (bodyOf Tryz.f173)).getD 0 .skip)] from by kernel_rfl];exact⟨(by rw[show lookup pl_I_merged.loops (firstId ((loopsOf (bodyOf Tryz.f173)).getD 0 .skip))=some lp_I_merged_2 from by kernel_rfl];exact fun d z h=>(eb_I_merged_2 d.1 d.2.1 d.2.2.1).trans h),trivial⟩) (fun x=>ef_I_merged x.1 x.2.1)
noncomputable def o_I_readSides_4:List Out:=[⟨.normal,⟨[],[0,4,24],[]⟩,mkSh 90 [(0,.val S_string .b),(4,.val S_impl_Group (.row (.pr .b (.pr .b (.pr (.row (.pr .b (.pr .b .b))) .b))))),(24,.val .bool .b)]⟩]
noncomputable def o_I_readSides_17:List Out:=[⟨.normal,⟨[],[4,5,6,8,9,10,21,22,23],[]⟩,mkSh 90 [(4,.val S_impl_Group (.row (.pr .b (.pr .b (.pr (.row (.pr .b (.pr .b .b))) .b))))),(5,.val (.int .i64) .b),(6,.val S_string .b),(8,.val S_impl_Row (.row (.pr .b (.pr .b .b)))),(9,.val (.int .i64) .b),(10,.val S_impl_Row (.row (.pr .b (.pr .b .b))))]⟩]
noncomputable def o_I_readSides_20:List Out:=[⟨.normal,⟨[],[4,6,10,11,21,22,23],[]⟩,mkSh 90 [(4,.val S_impl_Group (.row (.pr .b (.pr .b (.pr (.row (.pr .b (.pr .b .b))) .b))))),(6,.val S_string .b),(10,.val S_impl_Row (.row (.pr .b (.pr .b .b)))),(11,.var Y_impl_Group (.pr .b (.pr .b (.pr (.row (.pr .b (.pr .b .b))) .b))))]⟩]
noncomputable def o_I_readSides_22:List Out:=[⟨.normal,⟨[],[4,6,11,21,22,23],[]⟩,mkSh 90 [(4,.val S_impl_Group (.row (.pr .b (.pr .b (.pr (.row (.pr .b (.pr .b .b))) .b))))),(6,.val S_string .b),(11,.var Y_impl_Group (.pr .b (.pr .b (.pr (.row (.pr .b (.pr .b .b))) .b))))]⟩]
noncomputable def sh_I_readSides_2:List Sh:=mkSh 90 [(0,.val S_string .b),(4,.val S_impl_Group (.row (.pr .b (.pr .b (.pr (.row (.pr .b (.pr .b .b))) .b)))))]
noncomputable def o_I_readSides_2:List Out:=[⟨.exit 0,⟨[],[4],[]⟩,mkSh 90 [(4,.val S_impl_Group (.row (.pr .b (.pr .b (.pr (.row (.pr .b (.pr .b .b))) .b)))))]⟩,⟨.ret,⟨[],[2,3],[]⟩,mkSh 90 [(2,.val S_impl_Group (.row (.pr .b (.pr .b (.pr (.row (.pr .b (.pr .b .b))) .b))))),(3,.val .bool .b)]⟩]
noncomputable def b_I_readSides_2 (t0:PV S_string)(t4:PV S_impl_Group):Option ((PV S_string×PV S_impl_Group×Unit)⊕((PV S_impl_Group×Unit)⊕(PV S_impl_Group×PV .bool×Unit))):=bif (decide ((t0.length:Int)>0)) then((bif inB 0 t0.length then bif (!((t0.getD ((0:Int).toNat) [])==[42,42,42,42,42,42,42,42,42,42,42,42,42,42,42,10])) then some (t0,t4,true,()) else some (t0,t4,((t4.length:Int)==20),()) else none:Option ((PV S_string×PV S_impl_Group×PV .bool×Unit)))).bind fun j2=>bif j2.2.2.1 then some (.inr (.inr ([],false,()))) else bif cutB 1 (j2.1.length:Int) j2.1.length then(f_I_readHead (cutL 1 (j2.1.length:Int) j2.1) [42,42,42,32] [32,42,42,42,42,10]).bind fun r4=>bif (!r4.1.2.2.1) then some (.inr (.inr ([],false,()))) else(f_I_takeHalf r4.1.2.1 [45] 2).bind fun r6=>(f_I_readHead r6.1.2.1 [45,45,45,32] [32,45,45,45,45,10]).bind fun r8=>bif (!r8.1.2.2.1) then some (.inr (.inr ([],false,()))) else(f_I_takeHalf r8.1.2.1 [43] 3).bind fun r10=>((bif ((r6.1.1.length:Int)==0) then(f_I_keeps r10.1.1).bind fun r11=>some (j2.2.1,r4.1.1,r10.1.2.1,r11.1.1,r8.1.1,r10.1.1,()) else bif ((r10.1.1.length:Int)==0) then(f_I_keeps r6.1.1).bind fun r12=>some (j2.2.1,r4.1.1,r10.1.2.1,r6.1.1,r8.1.1,r12.1.1,()) else some (j2.2.1,r4.1.1,r10.1.2.1,r6.1.1,r8.1.1,r10.1.1,()):Option ((PV S_impl_Group×PV (.int .i64)×PV S_string×PV S_impl_Row×PV (.int .i64)×PV S_impl_Row×Unit)))).bind fun j13=>(f_I_merged j13.2.2.2.1 j13.2.2.2.2.2.1).bind fun r15=>((bif (decide ((j13.2.2.2.1.length:Int)>0)) then some (j13.1,j13.2.2.1,j13.2.2.2.2.2.1,((IntKind.wrap .i64 (j13.2.1 -1)),(j13.2.2.2.2.1,(r15.1.1,()))),()) else some (j13.1,j13.2.2.1,j13.2.2.2.2.2.1,(j13.2.1,(j13.2.2.2.2.1,(r15.1.1,()))),()):Option ((PV S_impl_Group×PV S_string×PV S_impl_Row×PV Y_impl_Group×Unit)))).bind fun j16=>((bif (decide ((j16.2.2.1.length:Int)>0)) then some (j16.1,j16.2.1,(j16.2.2.2.1.1,((IntKind.wrap .i64 (j16.2.2.2.1.2.1 -1)),j16.2.2.2.1.2.2)),()) else some (j16.1,j16.2.1,j16.2.2.2.1,()):Option ((PV S_impl_Group×PV S_string×PV Y_impl_Group×Unit)))).bind fun j17=>bif roomB (j17.1.length+[j17.2.2.1].length) then some (.inl (j17.2.1,(j17.1++[j17.2.2.1]),())) else none else none else some (.inr (.inl (t4,())))
noncomputable def w_I_readSides_2:PV S_string×PV S_impl_Group×Unit→Option ((PV S_impl_Group×Unit)⊕(PV S_impl_Group×PV .bool×Unit)):=fix fun d=>b_I_readSides_2 d.1 d.2.1
noncomputable def lp_I_readSides_2:Lp:=⟨⟨[],[0,4,21,22,23],[]⟩,sh_I_readSides_2,o_I_readSides_2,fun d=>b_I_readSides_2 d.1 d.2.1⟩
noncomputable def pl_I_readSides:Plan:=⟨[(4,o_I_readSides_4),(17,o_I_readSides_17),(20,o_I_readSides_20),(22,o_I_readSides_22)],[(2,lp_I_readSides_2)],0,0⟩
noncomputable def f_I_readSides (t0:PV S_string):Option (PVs [S_impl_Group,.bool]×PVs []):=
 (w_I_readSides_2 (t0,([]:PV S_impl_Group),())).bind fun x22=>
   match x22 with
   | .inl l20=>
     some ((l20.1,true,()),())
   | .inr l21=>
     some ((l21.1,l21.2.1,()),())
noncomputable def ct_I_readSides:Ct:=⟨[(.bor,S_string)],[(S_impl_Group,(.row (.pr .b (.pr .b (.pr (.row (.pr .b (.pr .b .b))) .b))))),(.bool,.b)],fun x=>f_I_readSides x.1⟩
noncomputable def cx_I_readSides:Cx:=⟨tab,arrs,[(170,ct_I_readHead),(171,ct_I_takeHalf),(172,ct_I_keeps),(173,ct_I_merged)],[],gl,[]⟩
theorem eb_I_readSides_2 (t0:PV S_string)(t4:PV S_impl_Group):denK cx_I_readSides (rcN cx_I_readSides 0) pl_I_readSides 0 ((loopsOf (bodyOf Tryz.f101)).getD 0 .skip) (fillS sh_I_readSides_2 (t0,t4,())) (roundK 0 lp_I_readSides_2)=b_I_readSides_2 t0 t4:=by kernel_rfl
theorem ef_I_readSides (t0:PV S_string):denF cx_I_readSides 0 pl_I_readSides Tryz.f101.ntmps (bodyOf Tryz.f101) Tryz.f101.results.toList [(.bor,S_string)] [(S_impl_Group,(.row (.pr .b (.pr .b (.pr (.row (.pr .b (.pr .b .b))) .b))))),(.bool,.b)] (t0,())=f_I_readSides t0:=by kernel_rfl
theorem ok_I_readSides:FnOk gl Tryz.prog 101 ct_I_readSides:=
 fnOk (cx:=cx_I_readSides) (pl:=pl_I_readSides) (dp:=0) (ok0_of tabOk (by unfold ArrOk;kernel_rfl) mix ⟨ok_I_readHead,ok_I_takeHalf,ok_I_keeps,ok_I_merged,trivial⟩ trivial) Tryz.func101 (by kernel_rfl) (by kernel_rfl) (by kernel_rfl)
  (by rw[show loopsOf (bodyOf Tryz.f101)=[((loopsOf (bodyOf Tryz.f101)).getD 0 .skip)] from by kernel_rfl];exact⟨(by rw[show lookup pl_I_readSides.loops (firstId ((loopsOf (bodyOf Tryz.f101)).getD 0 .skip))=some lp_I_readSides_2 from by kernel_rfl];exact fun d z h=>(eb_I_readSides_2 d.1 d.2.1).trans h),trivial⟩) (fun x=>ef_I_readSides x.1)
noncomputable def pl_I_in:Plan:=⟨[],[],0,0⟩
noncomputable def f_I_in (t0:PV (.int .i64))(t1:PV (.int .i64))(t2:PV (.int .i64)):Option (PVs [.bool]×PVs []):=bif (decide (t0≥t1)) then some (((decide (t0≤t2)),()),()) else some ((false,()),())
noncomputable def ct_I_in:Ct:=⟨[(.bor,(.int .i64)),(.bor,(.int .i64)),(.bor,(.int .i64))],[(.bool,.b)],fun x=>f_I_in x.1 x.2.1 x.2.2.1⟩
noncomputable def cx_I_in:Cx:=⟨tab,arrs,[],[],gl,[]⟩
theorem ef_I_in (t0:PV (.int .i64))(t1:PV (.int .i64))(t2:PV (.int .i64)):denF cx_I_in 0 pl_I_in Tryz.f131.ntmps (bodyOf Tryz.f131) Tryz.f131.results.toList [(.bor,(.int .i64)),(.bor,(.int .i64)),(.bor,(.int .i64))] [(.bool,.b)] (t0,t1,t2,())=f_I_in t0 t1 t2:=by kernel_rfl
theorem ok_I_in:FnOk gl Tryz.prog 131 ct_I_in:=
 fnOk (cx:=cx_I_in) (pl:=pl_I_in) (dp:=0) (ok0_of tabOk (by unfold ArrOk;kernel_rfl) mix trivial trivial) Tryz.func131 (by kernel_rfl) (by kernel_rfl) (by kernel_rfl)
  (by rw[show loopsOf (bodyOf Tryz.f131)=[] from by kernel_rfl];exact trivial) (fun x=>ef_I_in x.1 x.2.1 x.2.2.1)
noncomputable def pl_I_isLine:Plan:=⟨[],[],0,0⟩
noncomputable def f_I_isLine (t0:PV .str):Option (PVs [.bool]×PVs []):=(f_I_in (t0.length:Int) 1 30).bind fun r1=>bif r1.1.1 then bif cutB 0 (IntKind.wrap .i64 ((t0.length:Int) -1)) t0.length then(f_strings_Contains (cutL 0 (IntKind.wrap .i64 ((t0.length:Int) -1)) t0) [10]).bind fun r2=>some (((!r2.1.1),()),()) else none else some ((false,()),())
noncomputable def ct_I_isLine:Ct:=⟨[(.bor,.str)],[(.bool,.b)],fun x=>f_I_isLine x.1⟩
noncomputable def cx_I_isLine:Cx:=⟨tab,arrs,[(131,ct_I_in),(233,ct_strings_Contains)],[],gl,[]⟩
theorem ef_I_isLine (t0:PV .str):denF cx_I_isLine 0 pl_I_isLine Tryz.f179.ntmps (bodyOf Tryz.f179) Tryz.f179.results.toList [(.bor,.str)] [(.bool,.b)] (t0,())=f_I_isLine t0:=by kernel_rfl
theorem ok_I_isLine:FnOk gl Tryz.prog 179 ct_I_isLine:=
 fnOk (cx:=cx_I_isLine) (pl:=pl_I_isLine) (dp:=0) (ok0_of tabOk (by unfold ArrOk;kernel_rfl) mix ⟨ok_I_in,ok_strings_Contains,trivial⟩ trivial) Tryz.func179 (by kernel_rfl) (by kernel_rfl) (by kernel_rfl)
  (by rw[show loopsOf (bodyOf Tryz.f179)=[] from by kernel_rfl];exact trivial) (fun x=>ef_I_isLine x.1)
noncomputable def o_I_sideOf_7:List Out:=[⟨.normal,⟨[],[1,5,9,10,11],[]⟩,mkSh 26 [(1,.val (.int .i64) .b),(5,.val S_string (.row .b)),(9,.val S_impl_Row .b),(10,.val (.int .i64) .b),(11,.val (.int .i64) .b)]⟩]
noncomputable def sh_I_sideOf_3:List Sh:=mkSh 26 [(1,.val (.int .i64) .b),(5,.val S_string (.row .b)),(9,.val S_impl_Row .b),(10,.val (.int .i64) .b),(11,.val (.int .i64) .b)]
noncomputable def o_I_sideOf_3:List Out:=[⟨.exit 0,⟨[],[5],[]⟩,mkSh 26 [(5,.val S_string (.row .b))]⟩]
noncomputable def b_I_sideOf_3 (t1:PV (.int .i64))(t5:PV S_string)(t9:PV S_impl_Row)(t10:PV (.int .i64))(t11:PV (.int .i64)):Option ((PV (.int .i64)×PV S_string×PV S_impl_Row×PV (.int .i64)×PV (.int .i64)×Unit)⊕((PV S_string×Unit))):=bif (decide (t11<t10)) then((bif inB t11 t9.length then bif (!(((t9.getD t11.toNat (dflt Y_impl_Row)).1)==t1)) then bif roomB (t5.length+[((t9.getD t11.toNat (dflt Y_impl_Row)).2).1].length) then some (t1,(t5++[((t9.getD t11.toNat (dflt Y_impl_Row)).2).1]),t9,t10,t11,()) else none else some (t1,t5,t9,t10,t11,()) else none:Option ((PV (.int .i64)×PV S_string×PV S_impl_Row×PV (.int .i64)×PV (.int .i64)×Unit)))).bind fun j1=>some (.inl (j1.1,j1.2.1,j1.2.2.1,j1.2.2.2.1,(IntKind.wrap .i64 (j1.2.2.2.2.1+1)),())) else some (.inr (t5,()))
noncomputable def w_I_sideOf_3:PV (.int .i64)×PV S_string×PV S_impl_Row×PV (.int .i64)×PV (.int .i64)×Unit→Option ((PV S_string×Unit)):=fix fun d=>b_I_sideOf_3 d.1 d.2.1 d.2.2.1 d.2.2.2.1 d.2.2.2.2.1
noncomputable def lp_I_sideOf_3:Lp:=⟨⟨[],[1,5,9,10,11],[]⟩,sh_I_sideOf_3,o_I_sideOf_3,fun d=>b_I_sideOf_3 d.1 d.2.1 d.2.2.1 d.2.2.2.1 d.2.2.2.2.1⟩
noncomputable def pl_I_sideOf:Plan:=⟨[(7,o_I_sideOf_7)],[(3,lp_I_sideOf_3)],0,0⟩
noncomputable def f_I_sideOf (t0:PV S_impl_Row)(t1:PV (.int .i64)):Option (PVs [S_string]×PVs []):=(w_I_sideOf_3 (t1,([]:PV S_string),t0,(t0.length:Int),0,())).bind fun l3=>some ((l3.1,()),())
noncomputable def ct_I_sideOf:Ct:=⟨[(.bor,S_impl_Row),(.bor,(.int .i64))],[(S_string,(.row .b))],fun x=>f_I_sideOf x.1 x.2.1⟩
noncomputable def cx_I_sideOf:Cx:=⟨tab,arrs,[],[],gl,[]⟩
theorem eb_I_sideOf_3 (t1:PV (.int .i64))(t5:PV S_string)(t9:PV S_impl_Row)(t10:PV (.int .i64))(t11:PV (.int .i64)):denK cx_I_sideOf (rcN cx_I_sideOf 0) pl_I_sideOf 0 ((loopsOf (bodyOf Tryz.f222)).getD 0 .skip) (fillS sh_I_sideOf_3 (t1,t5,t9,t10,t11,())) (roundK 0 lp_I_sideOf_3)=b_I_sideOf_3 t1 t5 t9 t10 t11:=by kernel_rfl
theorem ef_I_sideOf (t0:PV S_impl_Row)(t1:PV (.int .i64)):denF cx_I_sideOf 0 pl_I_sideOf Tryz.f222.ntmps (bodyOf Tryz.f222) Tryz.f222.results.toList [(.bor,S_impl_Row),(.bor,(.int .i64))] [(S_string,(.row .b))] (t0,t1,())=f_I_sideOf t0 t1:=by kernel_rfl
theorem ok_I_sideOf:FnOk gl Tryz.prog 222 ct_I_sideOf:=
 fnOk (cx:=cx_I_sideOf) (pl:=pl_I_sideOf) (dp:=0) (ok0_of tabOk (by unfold ArrOk;kernel_rfl) mix trivial trivial) Tryz.func222 (by kernel_rfl) (by kernel_rfl) (by kernel_rfl)
  (by rw[show loopsOf (bodyOf Tryz.f222)=[((loopsOf (bodyOf Tryz.f222)).getD 0 .skip)] from by kernel_rfl];exact⟨(by rw[show lookup pl_I_sideOf.loops (firstId ((loopsOf (bodyOf Tryz.f222)).getD 0 .skip))=some lp_I_sideOf_3 from by kernel_rfl];exact fun d z h=>(eb_I_sideOf_3 d.1 d.2.1 d.2.2.1 d.2.2.2.1 d.2.2.2.2.1).trans h),trivial⟩) (fun x=>ef_I_sideOf x.1 x.2.1)
noncomputable def pl_I_Group_old:Plan:=⟨[],[],0,0⟩
noncomputable def f_I_Group_old (t0:PV Y_impl_Group):Option (PVs [S_string]×PVs []):=(f_I_sideOf t0.2.2.1 3).bind fun r1=>some ((r1.1.1,()),())
noncomputable def ct_I_Group_old:Ct:=⟨[(.bor,Y_impl_Group)],[(S_string,(.row .b))],fun x=>f_I_Group_old x.1⟩
noncomputable def cx_I_Group_old:Cx:=⟨tab,arrs,[(222,ct_I_sideOf)],[],gl,[]⟩
theorem ef_I_Group_old (t0:PV Y_impl_Group):denF cx_I_Group_old 0 pl_I_Group_old Tryz.f150.ntmps (bodyOf Tryz.f150) Tryz.f150.results.toList [(.bor,Y_impl_Group)] [(S_string,(.row .b))] (t0,())=f_I_Group_old t0:=by kernel_rfl
theorem ok_I_Group_old:FnOk gl Tryz.prog 150 ct_I_Group_old:=
 fnOk (cx:=cx_I_Group_old) (pl:=pl_I_Group_old) (dp:=0) (ok0_of tabOk (by unfold ArrOk;kernel_rfl) mix ⟨ok_I_sideOf,trivial⟩ trivial) Tryz.func150 (by kernel_rfl) (by kernel_rfl) (by kernel_rfl)
  (by rw[show loopsOf (bodyOf Tryz.f150)=[] from by kernel_rfl];exact trivial) (fun x=>ef_I_Group_old x.1)
noncomputable def pl_I_Group_fresh:Plan:=⟨[],[],0,0⟩
noncomputable def f_I_Group_fresh (t0:PV Y_impl_Group):Option (PVs [S_string]×PVs []):=(f_I_sideOf t0.2.2.1 2).bind fun r1=>some ((r1.1.1,()),())
noncomputable def ct_I_Group_fresh:Ct:=⟨[(.bor,Y_impl_Group)],[(S_string,(.row .b))],fun x=>f_I_Group_fresh x.1⟩
noncomputable def cx_I_Group_fresh:Cx:=⟨tab,arrs,[(222,ct_I_sideOf)],[],gl,[]⟩
theorem ef_I_Group_fresh (t0:PV Y_impl_Group):denF cx_I_Group_fresh 0 pl_I_Group_fresh Tryz.f151.ntmps (bodyOf Tryz.f151) Tryz.f151.results.toList [(.bor,Y_impl_Group)] [(S_string,(.row .b))] (t0,())=f_I_Group_fresh t0:=by kernel_rfl
theorem ok_I_Group_fresh:FnOk gl Tryz.prog 151 ct_I_Group_fresh:=
 fnOk (cx:=cx_I_Group_fresh) (pl:=pl_I_Group_fresh) (dp:=0) (ok0_of tabOk (by unfold ArrOk;kernel_rfl) mix ⟨ok_I_sideOf,trivial⟩ trivial) Tryz.func151 (by kernel_rfl) (by kernel_rfl) (by kernel_rfl)
  (by rw[show loopsOf (bodyOf Tryz.f151)=[] from by kernel_rfl];exact trivial) (fun x=>ef_I_Group_fresh x.1)
noncomputable def pl_I_areLines_1:Plan:=⟨[],[],0,0⟩
noncomputable def f_I_areLines_1 (t0:PV .str):Option (PVs [.bool]×PVs []):=(f_I_isLine t0).bind fun r1=>some (((!r1.1.1),()),())
noncomputable def ct_I_areLines_1:Ct:=⟨[(.bor,.str)],[(.bool,.b)],fun x=>f_I_areLines_1 x.1⟩
noncomputable def cx_I_areLines_1:Cx:=⟨tab,arrs,[(179,ct_I_isLine)],[],gl,[]⟩
theorem ef_I_areLines_1 (t0:PV .str):denF cx_I_areLines_1 0 pl_I_areLines_1 Tryz.f225.ntmps (bodyOf Tryz.f225) Tryz.f225.results.toList [(.bor,.str)] [(.bool,.b)] (t0,())=f_I_areLines_1 t0:=by kernel_rfl
theorem ok_I_areLines_1:FnOk gl Tryz.prog 225 ct_I_areLines_1:=
 fnOk (cx:=cx_I_areLines_1) (pl:=pl_I_areLines_1) (dp:=0) (ok0_of tabOk (by unfold ArrOk;kernel_rfl) mix ⟨ok_I_isLine,trivial⟩ trivial) Tryz.func225 (by kernel_rfl) (by kernel_rfl) (by kernel_rfl)
  (by rw[show loopsOf (bodyOf Tryz.f225)=[] from by kernel_rfl];exact trivial) (fun x=>ef_I_areLines_1 x.1)
noncomputable def pl_I_areLines_224:Plan:=⟨[],[],1,11⟩
noncomputable def sh_I_areLines_264_2:List Sh:=mkSh 39 [(0,.val S_string .b),(2,.val .bool .b),(3,.val S_string .b),(4,.val (.int .i64) .b),(5,.val .bool .b),(6,.val .bool .b),(7,.val S_string .b),(11,.val S_string .b),(12,.fn 225 []),(15,.val .bool .b),(16,.val S_string .b),(17,.fn 225 []),(20,.val S_string .b),(21,.fn 225 []),(27,.val (.int .i64) .b),(28,.val (.int .i64) .b)]
noncomputable def o_I_areLines_264_2:List Out:=[⟨.exit 0,⟨[],[],[]⟩,mkSh 39 [(0,.val S_string .b),(2,.val .bool .b),(3,.val S_string .b),(4,.val (.int .i64) .b),(5,.val .bool .b),(6,.val .bool .b),(7,.val S_string .b),(11,.val S_string .b),(12,.fn 225 []),(15,.val .bool .b),(16,.val S_string .b),(17,.fn 225 [])]⟩,⟨.ret,⟨[],[4],[]⟩,mkSh 39 [(0,.val S_string .b),(2,.val .bool .b),(3,.val S_string .b),(4,.val (.int .i64) .b),(5,.val .bool .b),(6,.val .bool .b),(7,.val S_string .b),(11,.val S_string .b),(12,.fn 225 []),(15,.val .bool .b),(16,.val S_string .b),(17,.fn 225 []),(24,.val (.int .i64) .b)]⟩]
noncomputable def b_I_areLines_264_2 (t0:PV S_string)(t2:PV .bool)(t3:PV S_string)(t4:PV (.int .i64))(t5:PV .bool)(t6:PV .bool)(t7:PV S_string)(t11:PV S_string)(t15:PV .bool)(t16:PV S_string)(t20:PV S_string)(t27:PV (.int .i64))(t28:PV (.int .i64)):Option ((PV S_string×PV .bool×PV S_string×PV (.int .i64)×PV .bool×PV .bool×PV S_string×PV S_string×PV .bool×PV S_string×PV S_string×PV (.int .i64)×PV (.int .i64)×Unit)⊕((PV S_string×PV .bool×PV S_string×PV (.int .i64)×PV .bool×PV .bool×PV S_string×PV S_string×PV .bool×PV S_string×Unit)⊕(PV S_string×PV .bool×PV S_string×PV (.int .i64)×PV .bool×PV .bool×PV S_string×PV S_string×PV .bool×PV S_string×PV (.int .i64)×Unit))):=bif (decide (t28<t27)) then bif inB t28 t20.length then(f_I_areLines_1 (t20.getD t28.toNat [])).bind fun r4=>bif r4.1.1 then some (.inr (.inr (t0,t2,t3,t4,t5,t6,t7,t11,t15,t16,t28,()))) else some (.inl (t0,t2,t3,t4,t5,t6,t7,t11,t15,t16,t20,t27,(IntKind.wrap .i64 (t28+1)),())) else none else some (.inr (.inl (t0,t2,t3,t4,t5,t6,t7,t11,t15,t16,())))
noncomputable def w_I_areLines_264_2:PV S_string×PV .bool×PV S_string×PV (.int .i64)×PV .bool×PV .bool×PV S_string×PV S_string×PV .bool×PV S_string×PV S_string×PV (.int .i64)×PV (.int .i64)×Unit→Option ((PV S_string×PV .bool×PV S_string×PV (.int .i64)×PV .bool×PV .bool×PV S_string×PV S_string×PV .bool×PV S_string×Unit)⊕(PV S_string×PV .bool×PV S_string×PV (.int .i64)×PV .bool×PV .bool×PV S_string×PV S_string×PV .bool×PV S_string×PV (.int .i64)×Unit)):=fix fun d=>b_I_areLines_264_2 d.1 d.2.1 d.2.2.1 d.2.2.2.1 d.2.2.2.2.1 d.2.2.2.2.2.1 d.2.2.2.2.2.2.1 d.2.2.2.2.2.2.2.1 d.2.2.2.2.2.2.2.2.1 d.2.2.2.2.2.2.2.2.2.1 d.2.2.2.2.2.2.2.2.2.2.1 d.2.2.2.2.2.2.2.2.2.2.2.1 d.2.2.2.2.2.2.2.2.2.2.2.2.1
noncomputable def lp_I_areLines_264_2:Lp:=⟨⟨[],[0,1,7,8],[]⟩,sh_I_areLines_264_2,o_I_areLines_264_2,fun d=>b_I_areLines_264_2 d.1 d.2.1 d.2.2.1 d.2.2.2.1 d.2.2.2.2.1 d.2.2.2.2.2.1 d.2.2.2.2.2.2.1 d.2.2.2.2.2.2.2.1 d.2.2.2.2.2.2.2.2.1 d.2.2.2.2.2.2.2.2.2.1 d.2.2.2.2.2.2.2.2.2.2.1 d.2.2.2.2.2.2.2.2.2.2.2.1 d.2.2.2.2.2.2.2.2.2.2.2.2.1⟩
noncomputable def pl_I_areLines_264:Plan:=⟨[],[(2,lp_I_areLines_264_2)],0,20⟩
noncomputable def pl_I_areLines:Plan:=⟨[],[],2,0⟩
noncomputable def f_I_areLines (t0:PV S_string):Option (PVs [.bool]×PVs []):=
 bif (decide ((t0.length:Int)≤40)) then
  (w_I_areLines_264_2 (t0,false,t0,(t0.length:Int),(decide ((t0.length:Int)≤40)),true,t0,t0,false,t0,t0,(t0.length:Int),0,())).bind fun x9=>
    match x9 with
    | .inl l7=>
      bif l7.2.2.2.2.2.1 then
       some (((!(decide ((-1)≥0))),()),())
      else
       some ((false,()),())
    | .inr l8=>
      bif l8.2.2.2.2.2.1 then
       some (((!(decide (l8.2.2.2.2.2.2.2.2.2.2.1≥0))),()),())
      else
       some ((false,()),())
 else
  some ((false,()),())
noncomputable def ct_I_areLines:Ct:=⟨[(.bor,S_string)],[(.bool,.b)],fun x=>f_I_areLines x.1⟩
noncomputable def cx_I_areLines:Cx:=⟨tab,arrs,[(225,ct_I_areLines_1)],[(224,Tryz.f224,pl_I_areLines_224),(264,Tryz.f264,pl_I_areLines_264)],gl,[]⟩
theorem eb_I_areLines_264_2 (t0:PV S_string)(t2:PV .bool)(t3:PV S_string)(t4:PV (.int .i64))(t5:PV .bool)(t6:PV .bool)(t7:PV S_string)(t11:PV S_string)(t15:PV .bool)(t16:PV S_string)(t20:PV S_string)(t27:PV (.int .i64))(t28:PV (.int .i64)):denK cx_I_areLines (rcN cx_I_areLines 0) pl_I_areLines_264 20 ((loopsOf (bodyOf Tryz.f264)).getD 0 .skip) (fillS sh_I_areLines_264_2 (t0,t2,t3,t4,t5,t6,t7,t11,t15,t16,t20,t27,t28,())) (roundK 20 lp_I_areLines_264_2)=b_I_areLines_264_2 t0 t2 t3 t4 t5 t6 t7 t11 t15 t16 t20 t27 t28:=by kernel_rfl
theorem ef_I_areLines (t0:PV S_string):denF cx_I_areLines 2 pl_I_areLines Tryz.f156.ntmps (bodyOf Tryz.f156) Tryz.f156.results.toList [(.bor,S_string)] [(.bool,.b)] (t0,())=f_I_areLines t0:=by kernel_rfl
theorem ok_I_areLines:FnOk gl Tryz.prog 156 ct_I_areLines:=
 fnOk (cx:=cx_I_areLines) (pl:=pl_I_areLines) (dp:=2) (ok0_of tabOk (by unfold ArrOk;kernel_rfl) mix ⟨ok_I_areLines_1,trivial⟩ ⟨⟨Tryz.func224,by kernel_rfl,(by rw[show loopsOf (bodyOf Tryz.f224)=[] from by kernel_rfl];exact trivial)⟩,⟨Tryz.func264,by kernel_rfl,(by rw[show loopsOf (bodyOf Tryz.f264)=[((loopsOf (bodyOf Tryz.f264)).getD 0 .skip)] from by kernel_rfl];exact⟨(by rw[show lookup pl_I_areLines_264.loops (firstId ((loopsOf (bodyOf Tryz.f264)).getD 0 .skip))=some lp_I_areLines_264_2 from by kernel_rfl];exact fun d z h=>(eb_I_areLines_264_2 d.1 d.2.1 d.2.2.1 d.2.2.2.1 d.2.2.2.2.1 d.2.2.2.2.2.1 d.2.2.2.2.2.2.1 d.2.2.2.2.2.2.2.1 d.2.2.2.2.2.2.2.2.1 d.2.2.2.2.2.2.2.2.2.1 d.2.2.2.2.2.2.2.2.2.2.1 d.2.2.2.2.2.2.2.2.2.2.2.1 d.2.2.2.2.2.2.2.2.2.2.2.2.1).trans h),trivial⟩)⟩,trivial⟩) Tryz.func156 (by kernel_rfl) (by kernel_rfl) (by kernel_rfl)
  (by rw[show loopsOf (bodyOf Tryz.f156)=[] from by kernel_rfl];exact trivial) (fun x=>ef_I_areLines x.1)
noncomputable def pl_strings_HasSuffix:Plan:=⟨[],[],0,0⟩
noncomputable def f_strings_HasSuffix (t0:PV .str)(t1:PV .str):Option (PVs [.bool]×PVs []):=(f_internal_stringslite_HasSuffix t0 t1).bind fun r1=>some ((r1.1.1,()),())
noncomputable def ct_strings_HasSuffix:Ct:=⟨[(.bor,.str),(.bor,.str)],[(.bool,.b)],fun x=>f_strings_HasSuffix x.1 x.2.1⟩
noncomputable def cx_strings_HasSuffix:Cx:=⟨tab,arrs,[(265,ct_internal_stringslite_HasSuffix)],[],gl,[]⟩
theorem ef_strings_HasSuffix (t0:PV .str)(t1:PV .str):denF cx_strings_HasSuffix 0 pl_strings_HasSuffix Tryz.f226.ntmps (bodyOf Tryz.f226) Tryz.f226.results.toList [(.bor,.str),(.bor,.str)] [(.bool,.b)] (t0,t1,())=f_strings_HasSuffix t0 t1:=by kernel_rfl
theorem ok_strings_HasSuffix:FnOk gl Tryz.prog 226 ct_strings_HasSuffix:=
 fnOk (cx:=cx_strings_HasSuffix) (pl:=pl_strings_HasSuffix) (dp:=0) (ok0_of tabOk (by unfold ArrOk;kernel_rfl) mix ⟨ok_internal_stringslite_HasSuffix,trivial⟩ trivial) Tryz.func226 (by kernel_rfl) (by kernel_rfl) (by kernel_rfl)
  (by rw[show loopsOf (bodyOf Tryz.f226)=[] from by kernel_rfl];exact trivial) (fun x=>ef_strings_HasSuffix x.1 x.2.1)
noncomputable def pl_I_isEnded:Plan:=⟨[],[],0,0⟩
noncomputable def f_I_isEnded (t0:PV .str):Option (PVs [.bool]×PVs []):=(f_strings_HasSuffix t0 [10]).bind fun r1=>some ((r1.1.1,()),())
noncomputable def ct_I_isEnded:Ct:=⟨[(.bor,.str)],[(.bool,.b)],fun x=>f_I_isEnded x.1⟩
noncomputable def cx_I_isEnded:Cx:=⟨tab,arrs,[(226,ct_strings_HasSuffix)],[],gl,[]⟩
theorem ef_I_isEnded (t0:PV .str):denF cx_I_isEnded 0 pl_I_isEnded Tryz.f157.ntmps (bodyOf Tryz.f157) Tryz.f157.results.toList [(.bor,.str)] [(.bool,.b)] (t0,())=f_I_isEnded t0:=by kernel_rfl
theorem ok_I_isEnded:FnOk gl Tryz.prog 157 ct_I_isEnded:=
 fnOk (cx:=cx_I_isEnded) (pl:=pl_I_isEnded) (dp:=0) (ok0_of tabOk (by unfold ArrOk;kernel_rfl) mix ⟨ok_strings_HasSuffix,trivial⟩ trivial) Tryz.func157 (by kernel_rfl) (by kernel_rfl) (by kernel_rfl)
  (by rw[show loopsOf (bodyOf Tryz.f157)=[] from by kernel_rfl];exact trivial) (fun x=>ef_I_isEnded x.1)
noncomputable def o_I_goodLines_7:List Out:=[⟨.normal,⟨[],[0,8,9,10,24],[]⟩,mkSh 26 [(0,.val S_string .b),(8,.val S_string .b),(9,.val (.int .i64) .b),(10,.val (.int .i64) .b),(24,.val .bool .b)]⟩]
noncomputable def sh_I_goodLines_4:List Sh:=mkSh 26 [(0,.val S_string .b),(8,.val S_string .b),(9,.val (.int .i64) .b),(10,.val (.int .i64) .b)]
noncomputable def o_I_goodLines_4:List Out:=[⟨.exit 0,⟨[],[],[]⟩,mkSh 26 []⟩,⟨.ret,⟨[],[2],[]⟩,mkSh 26 [(2,.val .bool .b)]⟩]
noncomputable def b_I_goodLines_4 (t0:PV S_string)(t8:PV S_string)(t9:PV (.int .i64))(t10:PV (.int .i64)):Option ((PV S_string×PV S_string×PV (.int .i64)×PV (.int .i64)×Unit)⊕((Unit)⊕(PV .bool×Unit))):=bif (decide (t10<t9)) then bif inB t10 t8.length then((bif (decide (t10<(IntKind.wrap .i64 ((t0.length:Int) -1)))) then(f_I_isEnded (t8.getD t10.toNat [])).bind fun r7=>some (t0,t8,t9,t10,(!r7.1.1),()) else some (t0,t8,t9,t10,false,()):Option ((PV S_string×PV S_string×PV (.int .i64)×PV (.int .i64)×PV .bool×Unit)))).bind fun j8=>bif j8.2.2.2.2.1 then some (.inr (.inr (false,()))) else some (.inl (j8.1,j8.2.1,j8.2.2.1,(IntKind.wrap .i64 (j8.2.2.2.1+1)),())) else none else some (.inr (.inl ()))
noncomputable def w_I_goodLines_4:PV S_string×PV S_string×PV (.int .i64)×PV (.int .i64)×Unit→Option ((Unit)⊕(PV .bool×Unit)):=fix fun d=>b_I_goodLines_4 d.1 d.2.1 d.2.2.1 d.2.2.2.1
noncomputable def lp_I_goodLines_4:Lp:=⟨⟨[],[0,8,9,10,21,22,23],[]⟩,sh_I_goodLines_4,o_I_goodLines_4,fun d=>b_I_goodLines_4 d.1 d.2.1 d.2.2.1 d.2.2.2.1⟩
noncomputable def pl_I_goodLines:Plan:=⟨[(7,o_I_goodLines_7)],[(4,lp_I_goodLines_4)],0,0⟩
noncomputable def f_I_goodLines (t0:PV S_string):Option (PVs [.bool]×PVs []):=
 (f_I_areLines t0).bind fun r4=>
   bif (!r4.1.1) then
    some ((false,()),())
   else
    (w_I_goodLines_4 (t0,t0,(t0.length:Int),0,())).bind fun x13=>
      match x13 with
      | .inl l11=>
        some ((true,()),())
      | .inr l12=>
        some ((l12.1,()),())
noncomputable def ct_I_goodLines:Ct:=⟨[(.bor,S_string)],[(.bool,.b)],fun x=>f_I_goodLines x.1⟩
noncomputable def cx_I_goodLines:Cx:=⟨tab,arrs,[(156,ct_I_areLines),(157,ct_I_isEnded)],[],gl,[]⟩
theorem eb_I_goodLines_4 (t0:PV S_string)(t8:PV S_string)(t9:PV (.int .i64))(t10:PV (.int .i64)):denK cx_I_goodLines (rcN cx_I_goodLines 0) pl_I_goodLines 0 ((loopsOf (bodyOf Tryz.f88)).getD 0 .skip) (fillS sh_I_goodLines_4 (t0,t8,t9,t10,())) (roundK 0 lp_I_goodLines_4)=b_I_goodLines_4 t0 t8 t9 t10:=by kernel_rfl
theorem ef_I_goodLines (t0:PV S_string):denF cx_I_goodLines 0 pl_I_goodLines Tryz.f88.ntmps (bodyOf Tryz.f88) Tryz.f88.results.toList [(.bor,S_string)] [(.bool,.b)] (t0,())=f_I_goodLines t0:=by kernel_rfl
theorem ok_I_goodLines:FnOk gl Tryz.prog 88 ct_I_goodLines:=
 fnOk (cx:=cx_I_goodLines) (pl:=pl_I_goodLines) (dp:=0) (ok0_of tabOk (by unfold ArrOk;kernel_rfl) mix ⟨ok_I_areLines,ok_I_isEnded,trivial⟩ trivial) Tryz.func88 (by kernel_rfl) (by kernel_rfl) (by kernel_rfl)
  (by rw[show loopsOf (bodyOf Tryz.f88)=[((loopsOf (bodyOf Tryz.f88)).getD 0 .skip)] from by kernel_rfl];exact⟨(by rw[show lookup pl_I_goodLines.loops (firstId ((loopsOf (bodyOf Tryz.f88)).getD 0 .skip))=some lp_I_goodLines_4 from by kernel_rfl];exact fun d z h=>(eb_I_goodLines_4 d.1 d.2.1 d.2.2.1 d.2.2.2.1).trans h),trivial⟩) (fun x=>ef_I_goodLines x.1)
noncomputable def o_I_goodGroup_2:List Out:=[⟨.normal,⟨[],[1,24,38,39,40,41,44,45,46,47,48,49,50,51,52,53,54,55,56,57,58,59,60,64,65,66,75,76,79,80,83,84,85,86,87,88,91,92,93,94,95,96],[]⟩,mkSh 98 [(1,.var Y_impl_Group .b),(24,.val .bool .b)]⟩]
noncomputable def o_I_goodGroup_8:List Out:=[⟨.normal,⟨[],[1,3,5,26,27,28,61,64,65,66,75,76,79,80,83,84,85,86,87,88,91,92,93,94,95,96],[]⟩,mkSh 98 [(1,.var Y_impl_Group .b),(3,.val .bool .b),(5,.var Y_impl_Row .b),(26,.val S_impl_Row .b),(27,.val (.int .i64) .b),(28,.val (.int .i64) .b),(61,.val .bool .b)]⟩]
noncomputable def o_I_goodGroup_10:List Out:=[⟨.normal,⟨[],[1,3,5,26,27,28,38,39,40,41,44,45,46,47,48,49,50,51,52,53,54,55,56,57,58,59,60,75,76,79,80,83,84,85,86,87,88,91,92,93,94,95,96],[]⟩,mkSh 98 [(1,.var Y_impl_Group .b),(3,.val .bool .b),(5,.var Y_impl_Row .b),(26,.val S_impl_Row .b),(27,.val (.int .i64) .b),(28,.val (.int .i64) .b)]⟩,⟨.ret,⟨[],[2],[]⟩,mkSh 98 [(2,.val .bool .b)]⟩]
noncomputable def sh_I_goodGroup_5:List Sh:=mkSh 98 [(1,.var Y_impl_Group .b),(3,.val .bool .b),(26,.val S_impl_Row .b),(27,.val (.int .i64) .b),(28,.val (.int .i64) .b)]
noncomputable def o_I_goodGroup_5:List Out:=[⟨.exit 0,⟨[],[1,3,75,76,79,80,83,84,85,86,87,88,91,92,93,94,95,96],[]⟩,mkSh 98 [(1,.var Y_impl_Group .b),(3,.val .bool .b)]⟩,⟨.ret,⟨[],[2],[]⟩,mkSh 98 [(2,.val .bool .b)]⟩]
noncomputable def b_I_goodGroup_5 (t1:PV Y_impl_Group)(t3:PV .bool)(t26:PV S_impl_Row)(t27:PV (.int .i64))(t28:PV (.int .i64)):Option ((PV Y_impl_Group×PV .bool×PV S_impl_Row×PV (.int .i64)×PV (.int .i64)×Unit)⊕((PV Y_impl_Group×PV .bool×Unit)⊕(PV .bool×Unit))):=
 bif (decide (t28<t27)) then
  ((
    bif inB t28 t26.length then
     ((
       (f_I_in ((t26.getD t28.toNat (dflt Y_impl_Row)).1) 1 3).bind fun r15=>
         bif (!r15.1.1) then
          some (t1,t3,(t26.getD t28.toNat (dflt Y_impl_Row)),t26,t27,t28,true,())
         else
          (f_I_isLine (((t26.getD t28.toNat (dflt Y_impl_Row)).2).1)).bind fun r16=>
            bif (!r16.1.1) then
             some (t1,t3,(t26.getD t28.toNat (dflt Y_impl_Row)),t26,t27,t28,true,())
            else
             bif (decide (t28>0)) then
              bif (((t26.getD t28.toNat (dflt Y_impl_Row)).1)==2) then
               bif inB (IntKind.wrap .i64 (t28 -1)) t1.2.2.1.length then
                some (t1,t3,(t26.getD t28.toNat (dflt Y_impl_Row)),t26,t27,t28,(((t1.2.2.1.getD ((IntKind.wrap .i64 (t28 -1)).toNat) (dflt Y_impl_Row)).1)==3),())
               else
                none
              else
               some (t1,t3,(t26.getD t28.toNat (dflt Y_impl_Row)),t26,t27,t28,false,())
             else
              some (t1,t3,(t26.getD t28.toNat (dflt Y_impl_Row)),t26,t27,t28,false,()):Option ((PV Y_impl_Group×PV .bool×PV Y_impl_Row×PV S_impl_Row×PV (.int .i64)×PV (.int .i64)×PV .bool×Unit)))).bind fun j17=>
       bif j17.2.2.2.2.2.2.1 then
        some (.inr (false,()))
       else
        bif j17.2.1 then
         some (.inl (j17.1,true,j17.2.2.1,j17.2.2.2.1,j17.2.2.2.2.1,j17.2.2.2.2.2.1,()))
        else
         some (.inl (j17.1,(!(j17.2.2.1.1==1)),j17.2.2.1,j17.2.2.2.1,j17.2.2.2.2.1,j17.2.2.2.2.2.1,()))
    else
     none:Option ((PV Y_impl_Group×PV .bool×PV Y_impl_Row×PV S_impl_Row×PV (.int .i64)×PV (.int .i64)×Unit)⊕(PV .bool×Unit)))).bind fun x30=>
    match x30 with
    | .inl j18=>
      some (.inl (j18.1,j18.2.1,j18.2.2.2.1,j18.2.2.2.2.1,(IntKind.wrap .i64 (j18.2.2.2.2.2.1+1)),()))
    | .inr j19=>
      some (.inr (.inr (j19.1,())))
 else
  some (.inr (.inl (t1,t3,())))
noncomputable def w_I_goodGroup_5:PV Y_impl_Group×PV .bool×PV S_impl_Row×PV (.int .i64)×PV (.int .i64)×Unit→Option ((PV Y_impl_Group×PV .bool×Unit)⊕(PV .bool×Unit)):=fix fun d=>b_I_goodGroup_5 d.1 d.2.1 d.2.2.1 d.2.2.2.1 d.2.2.2.2.1
noncomputable def lp_I_goodGroup_5:Lp:=⟨⟨[],[1,3,26,27,28,38,39,40,41,44,45,46,47,48,49,50,51,52,53,54,55,56,57,58,59,60,64,65,66,75,76,79,80,83,84,85,86,87,88,91,92,93,94,95,96],[]⟩,sh_I_goodGroup_5,o_I_goodGroup_5,fun d=>b_I_goodGroup_5 d.1 d.2.1 d.2.2.1 d.2.2.2.1 d.2.2.2.2.1⟩
noncomputable def pl_I_goodGroup:Plan:=⟨[(2,o_I_goodGroup_2),(8,o_I_goodGroup_8),(10,o_I_goodGroup_10)],[(5,lp_I_goodGroup_5)],0,0⟩
noncomputable def f_I_goodGroup (t0:PV Y_impl_Group):Option (PVs [.bool]×PVs []):=
 ((
   (f_I_in t0.1 0 999).bind fun r8=>
     bif (!r8.1.1) then
      some (t0,true,())
     else
      (f_I_in t0.2.1 0 999).bind fun r9=>
        bif (!r9.1.1) then
         some (t0,true,())
        else
         (f_I_in (t0.2.2.1.length:Int) 1 80).bind fun r10=>
           some (t0,(!r10.1.1),()):Option ((PV Y_impl_Group×PV .bool×Unit)))).bind fun j11=>
   bif j11.2.1 then
    some ((false,()),())
   else
    (w_I_goodGroup_5 (j11.1,false,j11.1.2.2.1,(j11.1.2.2.1.length:Int),0,())).bind fun x31=>
      match x31 with
      | .inl l22=>
        (f_I_Group_old l22.1).bind fun r25=>
          (f_I_Group_fresh l22.1).bind fun r26=>
            bif l22.2.1 then
             (f_I_goodLines r25.1.1).bind fun r27=>
               bif r27.1.1 then
                (f_I_goodLines r26.1.1).bind fun r28=>
                  bif r28.1.1 then
                   bif (decide ((IntKind.wrap .i64 (l22.1.1+(r25.1.1.length:Int)))≤1000)) then
                    some (((decide ((IntKind.wrap .i64 (l22.1.2.1+(r26.1.1.length:Int)))≤1000)),()),())
                   else
                    some ((false,()),())
                  else
                   some ((false,()),())
               else
                some ((false,()),())
            else
             some ((false,()),())
      | .inr l29=>
        some ((l29.1,()),())
noncomputable def ct_I_goodGroup:Ct:=⟨[(.bor,Y_impl_Group)],[(.bool,.b)],fun x=>f_I_goodGroup x.1⟩
noncomputable def cx_I_goodGroup:Cx:=⟨tab,arrs,[(88,ct_I_goodLines),(131,ct_I_in),(150,ct_I_Group_old),(151,ct_I_Group_fresh),(179,ct_I_isLine)],[],gl,[]⟩
theorem eb_I_goodGroup_5 (t1:PV Y_impl_Group)(t3:PV .bool)(t26:PV S_impl_Row)(t27:PV (.int .i64))(t28:PV (.int .i64)):denK cx_I_goodGroup (rcN cx_I_goodGroup 0) pl_I_goodGroup 0 ((loopsOf (bodyOf Tryz.f106)).getD 0 .skip) (fillS sh_I_goodGroup_5 (t1,t3,t26,t27,t28,())) (roundK 0 lp_I_goodGroup_5)=b_I_goodGroup_5 t1 t3 t26 t27 t28:=by kernel_rfl
theorem ef_I_goodGroup (t0:PV Y_impl_Group):denF cx_I_goodGroup 0 pl_I_goodGroup Tryz.f106.ntmps (bodyOf Tryz.f106) Tryz.f106.results.toList [(.bor,Y_impl_Group)] [(.bool,.b)] (t0,())=f_I_goodGroup t0:=by kernel_rfl
theorem ok_I_goodGroup:FnOk gl Tryz.prog 106 ct_I_goodGroup:=
 fnOk (cx:=cx_I_goodGroup) (pl:=pl_I_goodGroup) (dp:=0) (ok0_of tabOk (by unfold ArrOk;kernel_rfl) mix ⟨ok_I_goodLines,ok_I_in,ok_I_Group_old,ok_I_Group_fresh,ok_I_isLine,trivial⟩ trivial) Tryz.func106 (by kernel_rfl) (by kernel_rfl) (by kernel_rfl)
  (by rw[show loopsOf (bodyOf Tryz.f106)=[((loopsOf (bodyOf Tryz.f106)).getD 0 .skip)] from by kernel_rfl];exact⟨(by rw[show lookup pl_I_goodGroup.loops (firstId ((loopsOf (bodyOf Tryz.f106)).getD 0 .skip))=some lp_I_goodGroup_5 from by kernel_rfl];exact fun d z h=>(eb_I_goodGroup_5 d.1 d.2.1 d.2.2.1 d.2.2.2.1 d.2.2.2.2.1).trans h),trivial⟩) (fun x=>ef_I_goodGroup x.1)
noncomputable def o_I_goodGroups_9:List Out:=[⟨.normal,⟨[],[0,4,8,9,10,57],[]⟩,mkSh 59 [(0,.val S_impl_Group .b),(4,.var Y_impl_Group .b),(8,.val S_impl_Group .b),(9,.val (.int .i64) .b),(10,.val (.int .i64) .b),(57,.val .bool .b)]⟩]
noncomputable def sh_I_goodGroups_4:List Sh:=mkSh 59 [(0,.val S_impl_Group .b),(8,.val S_impl_Group .b),(9,.val (.int .i64) .b),(10,.val (.int .i64) .b)]
noncomputable def o_I_goodGroups_4:List Out:=[⟨.exit 0,⟨[],[],[]⟩,mkSh 59 []⟩,⟨.ret,⟨[],[2],[]⟩,mkSh 59 [(2,.val .bool .b)]⟩]
noncomputable def b_I_goodGroups_4 (t0:PV S_impl_Group)(t8:PV S_impl_Group)(t9:PV (.int .i64))(t10:PV (.int .i64)):Option ((PV S_impl_Group×PV S_impl_Group×PV (.int .i64)×PV (.int .i64)×Unit)⊕((Unit)⊕(PV .bool×Unit))):=bif (decide (t10<t9)) then bif inB t10 t8.length then(f_I_goodGroup (t8.getD t10.toNat (dflt Y_impl_Group))).bind fun r11=>bif (!r11.1.1) then some (.inr (.inr (false,()))) else((bif (decide (t10>0)) then bif inB (IntKind.wrap .i64 (t10 -1)) t0.length then bif inB (IntKind.wrap .i64 (t10 -1)) t0.length then(f_I_Group_old (t0.getD ((IntKind.wrap .i64 (t10 -1)).toNat) (dflt Y_impl_Group))).bind fun r12=>bif (decide (((t8.getD t10.toNat (dflt Y_impl_Group)).1)<(IntKind.wrap .i64 (((t0.getD ((IntKind.wrap .i64 (t10 -1)).toNat) (dflt Y_impl_Group)).1)+(r12.1.1.length:Int))))) then some (t0,(t8.getD t10.toNat (dflt Y_impl_Group)),t8,t9,t10,true,()) else bif inB (IntKind.wrap .i64 (t10 -1)) t0.length then bif inB (IntKind.wrap .i64 (t10 -1)) t0.length then(f_I_Group_fresh (t0.getD ((IntKind.wrap .i64 (t10 -1)).toNat) (dflt Y_impl_Group))).bind fun r13=>some (t0,(t8.getD t10.toNat (dflt Y_impl_Group)),t8,t9,t10,(decide ((((t8.getD t10.toNat (dflt Y_impl_Group)).2).1)<(IntKind.wrap .i64 ((((t0.getD ((IntKind.wrap .i64 (t10 -1)).toNat) (dflt Y_impl_Group)).2).1)+(r13.1.1.length:Int))))),()) else none else none else none else none else some (t0,(t8.getD t10.toNat (dflt Y_impl_Group)),t8,t9,t10,false,()):Option ((PV S_impl_Group×PV Y_impl_Group×PV S_impl_Group×PV (.int .i64)×PV (.int .i64)×PV .bool×Unit)))).bind fun j14=>bif j14.2.2.2.2.2.1 then some (.inr (.inr (false,()))) else some (.inl (j14.1,j14.2.2.1,j14.2.2.2.1,(IntKind.wrap .i64 (j14.2.2.2.2.1+1)),())) else none else some (.inr (.inl ()))
noncomputable def w_I_goodGroups_4:PV S_impl_Group×PV S_impl_Group×PV (.int .i64)×PV (.int .i64)×Unit→Option ((Unit)⊕(PV .bool×Unit)):=fix fun d=>b_I_goodGroups_4 d.1 d.2.1 d.2.2.1 d.2.2.2.1
noncomputable def lp_I_goodGroups_4:Lp:=⟨⟨[],[0,8,9,10,21,22,23,24,25,26,27,28,29,30,31,32,33,34,35,36,37,38,39,40,41,42,43,44,45,46,47,48,49,50,51,52,53,54,55,56],[]⟩,sh_I_goodGroups_4,o_I_goodGroups_4,fun d=>b_I_goodGroups_4 d.1 d.2.1 d.2.2.1 d.2.2.2.1⟩
noncomputable def pl_I_goodGroups:Plan:=⟨[(9,o_I_goodGroups_9)],[(4,lp_I_goodGroups_4)],0,0⟩
noncomputable def f_I_goodGroups (t0:PV S_impl_Group):Option (PVs [.bool]×PVs []):=
 bif (decide ((t0.length:Int)>20)) then
  some ((false,()),())
 else
  (w_I_goodGroups_4 (t0,t0,(t0.length:Int),0,())).bind fun x19=>
    match x19 with
    | .inl l17=>
      some ((true,()),())
    | .inr l18=>
      some ((l18.1,()),())
noncomputable def ct_I_goodGroups:Ct:=⟨[(.bor,S_impl_Group)],[(.bool,.b)],fun x=>f_I_goodGroups x.1⟩
noncomputable def cx_I_goodGroups:Cx:=⟨tab,arrs,[(106,ct_I_goodGroup),(150,ct_I_Group_old),(151,ct_I_Group_fresh)],[],gl,[]⟩
theorem eb_I_goodGroups_4 (t0:PV S_impl_Group)(t8:PV S_impl_Group)(t9:PV (.int .i64))(t10:PV (.int .i64)):denK cx_I_goodGroups (rcN cx_I_goodGroups 0) pl_I_goodGroups 0 ((loopsOf (bodyOf Tryz.f86)).getD 0 .skip) (fillS sh_I_goodGroups_4 (t0,t8,t9,t10,())) (roundK 0 lp_I_goodGroups_4)=b_I_goodGroups_4 t0 t8 t9 t10:=by kernel_rfl
theorem ef_I_goodGroups (t0:PV S_impl_Group):denF cx_I_goodGroups 0 pl_I_goodGroups Tryz.f86.ntmps (bodyOf Tryz.f86) Tryz.f86.results.toList [(.bor,S_impl_Group)] [(.bool,.b)] (t0,())=f_I_goodGroups t0:=by kernel_rfl
theorem ok_I_goodGroups:FnOk gl Tryz.prog 86 ct_I_goodGroups:=
 fnOk (cx:=cx_I_goodGroups) (pl:=pl_I_goodGroups) (dp:=0) (ok0_of tabOk (by unfold ArrOk;kernel_rfl) mix ⟨ok_I_goodGroup,ok_I_Group_old,ok_I_Group_fresh,trivial⟩ trivial) Tryz.func86 (by kernel_rfl) (by kernel_rfl) (by kernel_rfl)
  (by rw[show loopsOf (bodyOf Tryz.f86)=[((loopsOf (bodyOf Tryz.f86)).getD 0 .skip)] from by kernel_rfl];exact⟨(by rw[show lookup pl_I_goodGroups.loops (firstId ((loopsOf (bodyOf Tryz.f86)).getD 0 .skip))=some lp_I_goodGroups_4 from by kernel_rfl];exact fun d z h=>(eb_I_goodGroups_4 d.1 d.2.1 d.2.2.1 d.2.2.2.1).trans h),trivial⟩) (fun x=>ef_I_goodGroups x.1)
noncomputable def pl_I_numberOf:Plan:=⟨[],[],0,0⟩
noncomputable def f_I_numberOf (t0:PV (.int .i64))(t1:PV (.int .i64)):Option (PVs [(.int .i64)]×PVs []):=bif (decide (t1>0)) then some (((IntKind.wrap .i64 (t0+1)),()),()) else some ((t0,()),())
noncomputable def ct_I_numberOf:Ct:=⟨[(.bor,(.int .i64)),(.bor,(.int .i64))],[((.int .i64),.b)],fun x=>f_I_numberOf x.1 x.2.1⟩
noncomputable def cx_I_numberOf:Cx:=⟨tab,arrs,[],[],gl,[]⟩
theorem ef_I_numberOf (t0:PV (.int .i64))(t1:PV (.int .i64)):denF cx_I_numberOf 0 pl_I_numberOf Tryz.f165.ntmps (bodyOf Tryz.f165) Tryz.f165.results.toList [(.bor,(.int .i64)),(.bor,(.int .i64))] [((.int .i64),.b)] (t0,t1,())=f_I_numberOf t0 t1:=by kernel_rfl
theorem ok_I_numberOf:FnOk gl Tryz.prog 165 ct_I_numberOf:=
 fnOk (cx:=cx_I_numberOf) (pl:=pl_I_numberOf) (dp:=0) (ok0_of tabOk (by unfold ArrOk;kernel_rfl) mix trivial trivial) Tryz.func165 (by kernel_rfl) (by kernel_rfl) (by kernel_rfl)
  (by rw[show loopsOf (bodyOf Tryz.f165)=[] from by kernel_rfl];exact trivial) (fun x=>ef_I_numberOf x.1 x.2.1)
noncomputable def pl_I_endOf:Plan:=⟨[],[],0,0⟩
noncomputable def f_I_endOf (t0:PV (.int .i64))(t1:PV (.int .i64)):Option (PVs [(.int .i64)]×PVs []):=some (((IntKind.wrap .i64 (t0+t1)),()),())
noncomputable def ct_I_endOf:Ct:=⟨[(.bor,(.int .i64)),(.bor,(.int .i64))],[((.int .i64),.b)],fun x=>f_I_endOf x.1 x.2.1⟩
noncomputable def cx_I_endOf:Cx:=⟨tab,arrs,[],[],gl,[]⟩
theorem ef_I_endOf (t0:PV (.int .i64))(t1:PV (.int .i64)):denF cx_I_endOf 0 pl_I_endOf Tryz.f166.ntmps (bodyOf Tryz.f166) Tryz.f166.results.toList [(.bor,(.int .i64)),(.bor,(.int .i64))] [((.int .i64),.b)] (t0,t1,())=f_I_endOf t0 t1:=by kernel_rfl
theorem ok_I_endOf:FnOk gl Tryz.prog 166 ct_I_endOf:=
 fnOk (cx:=cx_I_endOf) (pl:=pl_I_endOf) (dp:=0) (ok0_of tabOk (by unfold ArrOk;kernel_rfl) mix trivial trivial) Tryz.func166 (by kernel_rfl) (by kernel_rfl) (by kernel_rfl)
  (by rw[show loopsOf (bodyOf Tryz.f166)=[] from by kernel_rfl];exact trivial) (fun x=>ef_I_endOf x.1 x.2.1)
noncomputable def pl_I_pairOf:Plan:=⟨[],[],0,0⟩
noncomputable def f_I_pairOf (t0:PV (.int .i64))(t1:PV (.int .i64)):Option (PVs [.str]×PVs []):=bif (t0==t1) then(f_strconv_Itoa t0).bind fun r2=>some ((r2.1.1,()),()) else(f_strconv_Itoa t0).bind fun r3=>bif decide (r3.1.1.length+[44].length≤1099511627776) then(f_strconv_Itoa t1).bind fun r4=>bif decide ((r3.1.1++[44]).length+r4.1.1.length≤1099511627776) then some ((((r3.1.1++[44])++r4.1.1),()),()) else none else none
noncomputable def ct_I_pairOf:Ct:=⟨[(.bor,(.int .i64)),(.bor,(.int .i64))],[(.str,.b)],fun x=>f_I_pairOf x.1 x.2.1⟩
noncomputable def cx_I_pairOf:Cx:=⟨tab,arrs,[(205,ct_strconv_Itoa)],[],gl,[]⟩
theorem ef_I_pairOf (t0:PV (.int .i64))(t1:PV (.int .i64)):denF cx_I_pairOf 0 pl_I_pairOf Tryz.f136.ntmps (bodyOf Tryz.f136) Tryz.f136.results.toList [(.bor,(.int .i64)),(.bor,(.int .i64))] [(.str,.b)] (t0,t1,())=f_I_pairOf t0 t1:=by kernel_rfl
theorem ok_I_pairOf:FnOk gl Tryz.prog 136 ct_I_pairOf:=
 fnOk (cx:=cx_I_pairOf) (pl:=pl_I_pairOf) (dp:=0) (ok0_of tabOk (by unfold ArrOk;kernel_rfl) mix ⟨ok_strconv_Itoa,trivial⟩ trivial) Tryz.func136 (by kernel_rfl) (by kernel_rfl) (by kernel_rfl)
  (by rw[show loopsOf (bodyOf Tryz.f136)=[] from by kernel_rfl];exact trivial) (fun x=>ef_I_pairOf x.1 x.2.1)
end R
