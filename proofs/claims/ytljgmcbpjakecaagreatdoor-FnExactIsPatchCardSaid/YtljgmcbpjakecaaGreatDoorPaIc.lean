/- The functions, part 4. -/
import Derived.Test.YtljgmcbpjakecaaGreatDoorPaIc3
set_option linter.unusedVariables false
open Go Go.Dn Go.Proofs
namespace R
set_option maxRecDepth 20000
open Go.Shelf
noncomputable section
def qhv:Plan:=⟨[],[],2,48⟩
def qhh:List Sh:=mkSh 76 [(3,.var zh .b),(5,.var (.int .i64) .b),(7,.val (.int .i64) .b),(8,.val (.int .i64) .b),(41,.addr ⟨3,[.r,.r,.l],0,0⟩),(42,.val zi .b),(43,.val (.int .i64) .b),(44,.val (.int .i64) .b),(45,.val zi .b),(46,.fn 237 [⟨5,[],0,0⟩]),(48,.val zi .b),(49,.fn 237 [⟨5,[],0,0⟩]),(52,.val .bool .b),(53,.val zi .b),(54,.fn 237 [⟨5,[],0,0⟩]),(57,.val zi .b),(58,.fn 237 [⟨5,[],0,0⟩]),(64,.val (.int .i64) .b),(65,.val (.int .i64) .b)]
def qhl:List Out:=[⟨.exit 0,⟨[],[],[]⟩,mkSh 76 [(3,.var zh .b),(5,.var (.int .i64) .b),(7,.val (.int .i64) .b),(8,.val (.int .i64) .b),(41,.addr ⟨3,[.r,.r,.l],0,0⟩),(42,.val zi .b),(43,.val (.int .i64) .b),(44,.val (.int .i64) .b),(45,.val zi .b),(46,.fn 237 [⟨5,[],0,0⟩]),(48,.val zi .b),(49,.fn 237 [⟨5,[],0,0⟩]),(52,.val .bool .b),(53,.val zi .b),(54,.fn 237 [⟨5,[],0,0⟩])]⟩,⟨.ret,⟨[],[4],[]⟩,mkSh 76 [(3,.var zh .b),(5,.var (.int .i64) .b),(7,.val (.int .i64) .b),(8,.val (.int .i64) .b),(41,.addr ⟨3,[.r,.r,.l],0,0⟩),(42,.val zi .b),(43,.val (.int .i64) .b),(44,.val (.int .i64) .b),(45,.val zi .b),(46,.fn 237 [⟨5,[],0,0⟩]),(48,.val zi .b),(49,.fn 237 [⟨5,[],0,0⟩]),(52,.val .bool .b),(53,.val zi .b),(54,.fn 237 [⟨5,[],0,0⟩]),(61,.val (.int .i64) .b)]⟩]
def zew (t3:PV zh)(t5:PV (.int .i64))(t7:PV (.int .i64))(t8:PV (.int .i64))(t42:PV zi)(t43:PV (.int .i64))(t44:PV (.int .i64))(t45:PV zi)(t48:PV zi)(t52:PV .bool)(t53:PV zi)(t57:PV zi)(t64:PV (.int .i64))(t65:PV (.int .i64)):Option ((PV zh×PV (.int .i64)×PV (.int .i64)×PV (.int .i64)×PV zi×PV (.int .i64)×PV (.int .i64)×PV zi×PV zi×PV .bool×PV zi×PV zi×PV (.int .i64)×PV (.int .i64)×Unit)⊕((PV zh×PV (.int .i64)×PV (.int .i64)×PV (.int .i64)×PV zi×PV (.int .i64)×PV (.int .i64)×PV zi×PV zi×PV .bool×PV zi×Unit)⊕(PV zh×PV (.int .i64)×PV (.int .i64)×PV (.int .i64)×PV zi×PV (.int .i64)×PV (.int .i64)×PV zi×PV zi×PV .bool×PV zi×PV (.int .i64)×Unit))):=
 bif (decide (t65<t64)) then
  bif inB t65 t57.length then
   bif (((t57.getD t65.toNat (dflt zo)).1)==t5) then
    some (.inr (.inr (t3,t5,t7,t8,t42,t43,t44,t45,t48,t52,t53,t65,())))
   else
    some (.inl (t3,t5,t7,t8,t42,t43,t44,t45,t48,t52,t53,t57,t64,(IntKind.wrap .i64 (t65+1)),()))
  else
   none
 else
  some (.inr (.inl (t3,t5,t7,t8,t42,t43,t44,t45,t48,t52,t53,())))
def zzg:PV zh×PV (.int .i64)×PV (.int .i64)×PV (.int .i64)×PV zi×PV (.int .i64)×PV (.int .i64)×PV zi×PV zi×PV .bool×PV zi×PV zi×PV (.int .i64)×PV (.int .i64)×Unit->Option ((PV zh×PV (.int .i64)×PV (.int .i64)×PV (.int .i64)×PV zi×PV (.int .i64)×PV (.int .i64)×PV zi×PV zi×PV .bool×PV zi×Unit)⊕(PV zh×PV (.int .i64)×PV (.int .i64)×PV (.int .i64)×PV zi×PV (.int .i64)×PV (.int .i64)×PV zi×PV zi×PV .bool×PV zi×PV (.int .i64)×Unit)):=fix λd=>zew d.1 d.2.1 d.2.2.1 d.2.2.2.1 d.2.2.2.2.1 d.2.2.2.2.2.1 d.2.2.2.2.2.2.1 d.2.2.2.2.2.2.2.1 d.2.2.2.2.2.2.2.2.1 d.2.2.2.2.2.2.2.2.2.1 d.2.2.2.2.2.2.2.2.2.2.1 d.2.2.2.2.2.2.2.2.2.2.2.1 d.2.2.2.2.2.2.2.2.2.2.2.2.1 d.2.2.2.2.2.2.2.2.2.2.2.2.2.1
def zzf:Lp:=⟨⟨[],[0,1,7,8],[]⟩,qhh,qhl,λd=>zew d.1 d.2.1 d.2.2.1 d.2.2.2.1 d.2.2.2.2.1 d.2.2.2.2.2.1 d.2.2.2.2.2.2.1 d.2.2.2.2.2.2.2.1 d.2.2.2.2.2.2.2.2.1 d.2.2.2.2.2.2.2.2.2.1 d.2.2.2.2.2.2.2.2.2.2.1 d.2.2.2.2.2.2.2.2.2.2.2.1 d.2.2.2.2.2.2.2.2.2.2.2.2.1 d.2.2.2.2.2.2.2.2.2.2.2.2.2.1⟩
def qhw:Plan:=⟨[],[(2,zzf)],1,57⟩
def qhx:Plan:=⟨[],[],0,76⟩
def qiy:List Sh:=mkSh 48 [(3,.var zh .b),(5,.var (.int .i64) .b),(7,.val (.int .i64) .b),(8,.val (.int .i64) .b)]
def qje:List Out:=[⟨.exit 0,⟨[],[3,5,7,8,31,32,33,34,35,36,37],[]⟩,mkSh 48 [(3,.var zh .b),(5,.var (.int .i64) .b),(7,.val (.int .i64) .b),(8,.val (.int .i64) .b)]⟩]
def ze2 (t3:PV zh)(t5:PV (.int .i64))(t7:PV (.int .i64))(t8:PV (.int .i64)):Option ((PV zh×PV (.int .i64)×PV (.int .i64)×PV (.int .i64)×Unit)⊕((PV zh×PV (.int .i64)×PV (.int .i64)×PV (.int .i64)×Unit))):=
 bif (decide (t7>0)) then
  bif inB (IntKind.wrap .i64 (t7 -1)) t3.2.2.1.length then
   bif (!(((t3.2.2.1.getD ((IntKind.wrap .i64 (t7 -1)).toNat) (dflt zo)).1)==1)) then
    some (.inl (t3,t5,(IntKind.wrap .i64 (t7 -1)),t8,()))
   else
    some (.inr (t3,t5,t7,t8,()))
  else
   none
 else
  some (.inr (t3,t5,t7,t8,()))
def zz8:PV zh×PV (.int .i64)×PV (.int .i64)×PV (.int .i64)×Unit->Option ((PV zh×PV (.int .i64)×PV (.int .i64)×PV (.int .i64)×Unit)):=fix λd=>ze2 d.1 d.2.1 d.2.2.1 d.2.2.2.1
def zz1:Lp:=⟨⟨[],[3,5,7,8,31,32,33,34,35,36,37],[]⟩,qiy,qje,λd=>ze2 d.1 d.2.1 d.2.2.1 d.2.2.2.1⟩
def qiz:List Sh:=mkSh 48 [(3,.var zh .b),(5,.var (.int .i64) .b),(7,.val (.int .i64) .b),(8,.val (.int .i64) .b)]
def qjf:List Out:=[⟨.exit 2,⟨[],[3,5,7,8],[]⟩,mkSh 48 [(3,.var zh .b),(5,.var (.int .i64) .b),(7,.val (.int .i64) .b),(8,.val (.int .i64) .b)]⟩]
def ze3 (t3:PV zh)(t5:PV (.int .i64))(t7:PV (.int .i64))(t8:PV (.int .i64)):Option ((PV zh×PV (.int .i64)×PV (.int .i64)×PV (.int .i64)×Unit)⊕((PV zh×PV (.int .i64)×PV (.int .i64)×PV (.int .i64)×Unit))):=
 bif (decide (t8<(t3.2.2.1.length:Int))) then
  bif inB t8 t3.2.2.1.length then
   bif (!(((t3.2.2.1.getD t8.toNat (dflt zo)).1)==1)) then
    some (.inl (t3,t5,t7,(IntKind.wrap .i64 (t8+1)),()))
   else
    some (.inr (t3,t5,t7,t8,()))
  else
   none
 else
  some (.inr (t3,t5,t7,t8,()))
def zz9:PV zh×PV (.int .i64)×PV (.int .i64)×PV (.int .i64)×Unit->Option ((PV zh×PV (.int .i64)×PV (.int .i64)×PV (.int .i64)×Unit)):=fix λd=>ze3 d.1 d.2.1 d.2.2.1 d.2.2.2.1
def zz2:Lp:=⟨⟨[],[3,5,7,8],[]⟩,qiz,qjf,λd=>ze3 d.1 d.2.1 d.2.2.1 d.2.2.2.1⟩
def qjy:Plan:=⟨[],[(2,zz1),(4,zz2)],3,0⟩
def zo3 (t0:PV zh)(t1:PV (.int .i64))(t2:PV (.int .i64)):Option (PVs [.bool]×PVs []):=
 (zz8 (t0,t2,t1,t1,())).bind λl2=>
   (zz9 (l2.1,l2.2.1,l2.2.2.1,l2.2.2.2.1,())).bind λl4=>
     bif cutB l4.2.2.1 l4.2.2.2.1 l4.1.2.2.1.length then
      (zzg (l4.1,l4.2.1,l4.2.2.1,l4.2.2.2.1,l4.1.2.2.1,l4.2.2.1,l4.2.2.2.1,(cutL l4.2.2.1 l4.2.2.2.1 l4.1.2.2.1),(cutL l4.2.2.1 l4.2.2.2.1 l4.1.2.2.1),false,(cutL l4.2.2.1 l4.2.2.2.1 l4.1.2.2.1),(cutL l4.2.2.1 l4.2.2.2.1 l4.1.2.2.1),((cutL l4.2.2.1 l4.2.2.2.1 l4.1.2.2.1).length:Int),0,())).bind λx9=>
        match x9 with
        | .inl l7=>
          some (((decide ((-1)>=0)),()),())
        | .inr l8=>
          some (((decide (l8.2.2.2.2.2.2.2.2.2.2.2.1>=0)),()),())
     else
      none
def z0l:Ct:=⟨[(.bor,zh),(.bor,(.int .i64)),(.bor,(.int .i64))],[(.bool,.b)],λx=>zo3 x.1 x.2.1 x.2.2.1⟩
def qjz:Cx:=⟨tab,arrs,[],[(230,Tryz.f230,qhv),(266,Tryz.f266,qhw),(237,Tryz.f237,qhx)],gl,[]⟩
theorem qj0:FnOk gl Tryz.prog 180 z0l:=
 fo qjz qjy 3 (oz trivial ⟨⟨Tryz.func230,by kernel_rfl,(ll 0 (by kernel_rfl) trivial)⟩,⟨Tryz.func266,by kernel_rfl,(ll 1 (by kernel_rfl) (lc zzf (by kernel_rfl) (λd=>by kernel_rfl) trivial))⟩,⟨Tryz.func237,by kernel_rfl,(ll 0 (by kernel_rfl) trivial)⟩,trivial⟩) Tryz.func180 (by kernel_rfl) (by kernel_rfl) (by kernel_rfl)
  (ll 2 (by kernel_rfl) (lc zz1 (by kernel_rfl) (λd=>by kernel_rfl) (lc zz2 (by kernel_rfl) (λd=>by kernel_rfl) trivial))) (λx=>by kernel_rfl)
def qk2:List Out:=[⟨.normal,⟨[],[1,2,5,7,9,10,11,29],[]⟩,mkSh 46 [(1,.val (.int .i64) .b),(2,.var zh .b),(5,.val .str .b),(7,.var zo .b),(9,.val zi .b),(10,.val (.int .i64) .b),(11,.val (.int .i64) .b),(29,.val .bool .b)]⟩]
def qk3:List Out:=[⟨.normal,⟨[],[1,2,5,9,10,11,34,35,36,37],[]⟩,mkSh 46 [(1,.val (.int .i64) .b),(2,.var zh .b),(5,.val .str .b),(9,.val zi .b),(10,.val (.int .i64) .b),(11,.val (.int .i64) .b)]⟩]
def qj1:List Sh:=mkSh 46 [(1,.val (.int .i64) .b),(2,.var zh .b),(5,.val .str .b),(9,.val zi .b),(10,.val (.int .i64) .b),(11,.val (.int .i64) .b)]
def qk4:List Out:=[⟨.exit 0,⟨[],[5],[]⟩,mkSh 46 [(5,.val .str .b)]⟩]
def zhl (t1:PV (.int .i64))(t2:PV zh)(t5:PV .str)(t9:PV zi)(t10:PV (.int .i64))(t11:PV (.int .i64)):Option ((PV (.int .i64)×PV zh×PV .str×PV zi×PV (.int .i64)×PV (.int .i64)×Unit)⊕((PV .str×Unit))):=
 bif (decide (t11<t10)) then
  ((
    bif inB t11 t9.length then
     bif (((t9.getD t11.toNat (dflt zo)).1)==t1) then
      some (t1,t2,t5,t9,t10,t11,())
     else
      ((
        bif (!(((t9.getD t11.toNat (dflt zo)).1)==1)) then
         (zo3 t2 t11 t1).bind λr1=>
           some (t1,t2,t5,(t9.getD t11.toNat (dflt zo)),t9,t10,t11,r1.1.1,())
        else
         some (t1,t2,t5,(t9.getD t11.toNat (dflt zo)),t9,t10,t11,false,()):Option ((PV (.int .i64)×PV zh×PV .str×PV zo×PV zi×PV (.int .i64)×PV (.int .i64)×PV .bool×Unit)))).bind λj2=>
        bif j2.2.2.2.2.2.2.2.1 then
         (zcq [33,32] j2.2.2.2.1.2.1).bind λr3=>
           bif decide (j2.2.2.1.length+r3.1.1.length<=1099511627776) then
            some (j2.1,j2.2.1,(j2.2.2.1++r3.1.1),j2.2.2.2.2.1,j2.2.2.2.2.2.1,j2.2.2.2.2.2.2.1,())
           else
            none
        else
         (zh4 j2.2.2.2.1).bind λr4=>
           bif decide (r4.1.1.length+[32].length<=1099511627776) then
            (zcq (r4.1.1++[32]) j2.2.2.2.1.2.1).bind λr5=>
              bif decide (j2.2.2.1.length+r5.1.1.length<=1099511627776) then
               some (j2.1,j2.2.1,(j2.2.2.1++r5.1.1),j2.2.2.2.2.1,j2.2.2.2.2.2.1,j2.2.2.2.2.2.2.1,())
              else
               none
           else
            none
    else
     none:Option ((PV (.int .i64)×PV zh×PV .str×PV zi×PV (.int .i64)×PV (.int .i64)×Unit)))).bind λj6=>
    some (.inl (j6.1,j6.2.1,j6.2.2.1,j6.2.2.2.1,j6.2.2.2.2.1,(IntKind.wrap .i64 (j6.2.2.2.2.2.1+1)),()))
 else
  some (.inr (t5,()))
def z0v:PV (.int .i64)×PV zh×PV .str×PV zi×PV (.int .i64)×PV (.int .i64)×Unit->Option ((PV .str×Unit)):=fix λd=>zhl d.1 d.2.1 d.2.2.1 d.2.2.2.1 d.2.2.2.2.1 d.2.2.2.2.2.1
def z0m:Lp:=⟨⟨[],[1,2,5,9,10,11,34,35,36,37],[]⟩,qj1,qk4,λd=>zhl d.1 d.2.1 d.2.2.1 d.2.2.2.1 d.2.2.2.2.1 d.2.2.2.2.2.1⟩
def qmy:Plan:=⟨[(8,qk2),(9,qk3)],[(3,z0m)],0,0⟩
def zjm (t0:PV zh)(t1:PV (.int .i64)):Option (PVs [.str]×PVs []):=
 (z0v (t1,t0,[],t0.2.2.1,(t0.2.2.1.length:Int),0,())).bind λl8=>
   some ((l8.1,()),())
def z1u:Ct:=⟨[(.bor,zh),(.bor,(.int .i64))],[(.str,.b)],λx=>zjm x.1 x.2.1⟩
def qmz:Cx:=⟨tab,arrs,[(180,z0l),(181,zq5),(182,zuo)],[],gl,[]⟩
theorem qm0:FnOk gl Tryz.prog 107 z1u:=
 fo qmz qmy 0 (oz ⟨qj0,zvz,z4a,trivial⟩ trivial) Tryz.func107 (by kernel_rfl) (by kernel_rfl) (by kernel_rfl)
  (ll 1 (by kernel_rfl) (lc z0m (by kernel_rfl) (λd=>by kernel_rfl) trivial)) (λx=>by kernel_rfl)
def qm1:List Out:=[⟨.normal,⟨[],[3,5,7,8,9,10],[]⟩,mkSh 60 [(3,.val .str .b),(5,.var zh .b),(7,.val (.int .i64) .b),(8,.val zl .b),(9,.val (.int .i64) .b),(10,.val (.int .i64) .b)]⟩]
def qk5:List Out:=[⟨.normal,⟨[],[3,8,9,10],[]⟩,mkSh 60 [(3,.val .str .b),(8,.val zl .b),(9,.val (.int .i64) .b),(10,.val (.int .i64) .b)]⟩]
def qk6:List Sh:=mkSh 60 [(3,.val .str .b),(8,.val zl .b),(9,.val (.int .i64) .b),(10,.val (.int .i64) .b)]
def qm2:List Out:=[⟨.exit 0,⟨[],[3],[]⟩,mkSh 60 [(3,.val .str .b)]⟩]
def zho (t3:PV .str)(t8:PV zl)(t9:PV (.int .i64))(t10:PV (.int .i64)):Option ((PV .str×PV zl×PV (.int .i64)×PV (.int .i64)×Unit)⊕((PV .str×Unit))):=
 bif (decide (t10<t9)) then
  ((
    bif inB t10 t8.length then
     (zhv (t8.getD t10.toNat (dflt zh))).bind λr3=>
       (zhn (t8.getD t10.toNat (dflt zh))).bind λr4=>
         (zjx ((t8.getD t10.toNat (dflt zh)).1) (r3.1.1.length:Int)).bind λr8=>
           (zkp ((t8.getD t10.toNat (dflt zh)).1) (r3.1.1.length:Int)).bind λr9=>
             (zdu r8.1.1 r9.1.1).bind λr10=>
               bif decide ([42,42,42,42,42,42,42,42,42,42,42,42,42,42,42,10,42,42,42,32].length+r10.1.1.length<=1099511627776) then
                bif decide (([42,42,42,42,42,42,42,42,42,42,42,42,42,42,42,10,42,42,42,32]++r10.1.1).length+[32,42,42,42,42,10].length<=1099511627776) then
                 bif decide (t3.length+(([42,42,42,42,42,42,42,42,42,42,42,42,42,42,42,10,42,42,42,32]++r10.1.1)++[32,42,42,42,42,10]).length<=1099511627776) then
                  ((
                    (zjs (t8.getD t10.toNat (dflt zh)) 2).bind λr12=>
                      bif r12.1.1 then
                       (zjm (t8.getD t10.toNat (dflt zh)) 3).bind λr13=>
                         bif decide ((t3++(([42,42,42,42,42,42,42,42,42,42,42,42,42,42,42,10,42,42,42,32]++r10.1.1)++[32,42,42,42,42,10])).length+r13.1.1.length<=1099511627776) then
                          some (((t3++(([42,42,42,42,42,42,42,42,42,42,42,42,42,42,42,10,42,42,42,32]++r10.1.1)++[32,42,42,42,42,10]))++r13.1.1),(t8.getD t10.toNat (dflt zh)),(r4.1.1.length:Int),t8,t9,t10,())
                         else
                          none
                      else
                       some ((t3++(([42,42,42,42,42,42,42,42,42,42,42,42,42,42,42,10,42,42,42,32]++r10.1.1)++[32,42,42,42,42,10])),(t8.getD t10.toNat (dflt zh)),(r4.1.1.length:Int),t8,t9,t10,()):Option ((PV .str×PV zh×PV (.int .i64)×PV zl×PV (.int .i64)×PV (.int .i64)×Unit)))).bind λj14=>
                    (zjx j14.2.1.2.1 j14.2.2.1).bind λr18=>
                      (zkp j14.2.1.2.1 j14.2.2.1).bind λr19=>
                        (zdu r18.1.1 r19.1.1).bind λr20=>
                          bif decide ([45,45,45,32].length+r20.1.1.length<=1099511627776) then
                           bif decide (([45,45,45,32]++r20.1.1).length+[32,45,45,45,45,10].length<=1099511627776) then
                            bif decide (j14.1.length+(([45,45,45,32]++r20.1.1)++[32,45,45,45,45,10]).length<=1099511627776) then
                             (zjs j14.2.1 3).bind λr22=>
                               bif r22.1.1 then
                                (zjm j14.2.1 2).bind λr23=>
                                  bif decide ((j14.1++(([45,45,45,32]++r20.1.1)++[32,45,45,45,45,10])).length+r23.1.1.length<=1099511627776) then
                                   some (((j14.1++(([45,45,45,32]++r20.1.1)++[32,45,45,45,45,10]))++r23.1.1),j14.2.2.2.1,j14.2.2.2.2.1,j14.2.2.2.2.2.1,())
                                  else
                                   none
                               else
                                some ((j14.1++(([45,45,45,32]++r20.1.1)++[32,45,45,45,45,10])),j14.2.2.2.1,j14.2.2.2.2.1,j14.2.2.2.2.2.1,())
                            else
                             none
                           else
                            none
                          else
                           none
                 else
                  none
                else
                 none
               else
                none
    else
     none:Option ((PV .str×PV zl×PV (.int .i64)×PV (.int .i64)×Unit)))).bind λj24=>
    some (.inl (j24.1,j24.2.1,j24.2.2.1,(IntKind.wrap .i64 (j24.2.2.2.1+1)),()))
 else
  some (.inr (t3,()))
def z1s:PV .str×PV zl×PV (.int .i64)×PV (.int .i64)×Unit->Option ((PV .str×Unit)):=fix λd=>zho d.1 d.2.1 d.2.2.1 d.2.2.2.1
def z0w:Lp:=⟨⟨[],[3,8,9,10],[]⟩,qk6,qm2,λd=>zho d.1 d.2.1 d.2.2.1 d.2.2.2.1⟩
def qox:Plan:=⟨[(9,qm1),(12,qk5)],[(3,z0w)],0,0⟩
def zpf (t0:PV zl):Option (PVs [.str]×PVs []):=
 (z1s ([],t0,(t0.length:Int),0,())).bind λl26=>
   some ((l26.1,()),())
def z2r:Ct:=⟨[(.bor,zl)],[(.str,.b)],λx=>zpf x.1⟩
def qoy:Cx:=⟨tab,arrs,[(107,z1u),(136,zp9),(150,zpd),(151,zo5),(165,z4b),(166,qac),(167,z2s)],[],gl,[]⟩
theorem qoz:FnOk gl Tryz.prog 99 z2r:=
 fo qoy qox 0 (oz ⟨qm0,zve,zue,zt5,qq8,q2e,qo0,trivial⟩ trivial) Tryz.func99 (by kernel_rfl) (by kernel_rfl) (by kernel_rfl)
  (ll 1 (by kernel_rfl) (lc z0w (by kernel_rfl) (λd=>by kernel_rfl) trivial)) (λx=>by kernel_rfl)
def qo1:Plan:=⟨[],[],0,0⟩
def zpg (t0:PV zl):Option (PVs [.str,.bool]×PVs []):=
 (zl7 t0).bind λr4=>
   bif (!r4.1.1) then
    some (([],false,()),())
   else
    (zpf t0).bind λr5=>
      (ziq r5.1.1).bind λr6=>
        some ((r6.1.1,r6.1.2.1,()),())
def z2t:Ct:=⟨[(.bor,zl)],[(.str,.b),(.bool,.b)],λx=>zpg x.1⟩
def qo2:Cx:=⟨tab,arrs,[(71,zq6),(86,zt8),(99,z2r)],[],gl,[]⟩
theorem qo3:FnOk gl Tryz.prog 46 z2t:=
 fo qo2 qo1 0 (oz ⟨zv0,z1v,qoz,trivial⟩ trivial) Tryz.func46 (by kernel_rfl) (by kernel_rfl) (by kernel_rfl)
  (ll 0 (by kernel_rfl) trivial) (λx=>by kernel_rfl)
def qj2:List Out:=[⟨.normal,⟨[],[5,31],[]⟩,mkSh 33 [(5,.val zl (.row (.pr .b (.pr .b (.pr (.row (.pr .b (.pr .b .b))) .b))))),(31,.val .bool .b)]⟩]
def qj3:List Out:=[⟨.normal,⟨[],[],[]⟩,mkSh 33 []⟩,⟨.ret,⟨[],[2,3,4],[]⟩,mkSh 33 [(2,.val zl (.row (.pr .b (.pr .b (.pr (.row (.pr .b (.pr .b .b))) .b))))),(3,.val (.int .i64) .b),(4,.val .bool .b)]⟩]
def qk7:Plan:=⟨[(5,qj2),(6,qj3)],[],0,0⟩
def zl3 (t0:PV .str):Option (PVs [zl,(.int .i64),.bool]×PVs []):=
 ((
   bif (decide ((t0.length:Int)<=3000)) then
    (zif t0).bind λr10=>
      (zjt r10.1.1).bind λr11=>
        (zpg r11.1.1).bind λr13=>
          ((
            bif r11.1.2.1 then
             bif r13.1.2.1 then
              some (r11.1.1,(r13.1.1==t0),())
             else
              some (r11.1.1,false,())
            else
             some (r11.1.1,false,()):Option ((PV zl×PV .bool×Unit)))).bind λj14=>
            bif j14.2.1 then
             some (.inr (j14.1,0,true,()))
            else
             some (.inl ())
   else
    some (.inl ()):Option ((Unit)⊕(PV zl×PV (.int .i64)×PV .bool×Unit)))).bind λx17=>
   match x17 with
   | .inl j15=>
     some (([],1,false,()),())
   | .inr j16=>
     some ((j16.1,j16.2.1,j16.2.2.1,()),())
def z0x:Ct:=⟨[(.bor,.str)],[(zl,(.row (.pr .b (.pr .b (.pr (.row (.pr .b (.pr .b .b))) .b))))),((.int .i64),.b),(.bool,.b)],λx=>zl3 x.1⟩
def qk8:Cx:=⟨tab,arrs,[(46,z2t),(75,zmn),(101,z2u)],[],gl,[]⟩
theorem qk9:FnOk gl Tryz.prog 48 z0x:=
 fo qk8 qk7 0 (oz ⟨qo3,zpo,qo4,trivial⟩ trivial) Tryz.func48 (by kernel_rfl) (by kernel_rfl) (by kernel_rfl)
  (ll 0 (by kernel_rfl) trivial) (λx=>by kernel_rfl)
def qhg:List Sh:=mkSh 19 [(0,.val zf .b),(1,.val .str .b),(7,.val (.int .i64) .b),(8,.val (.int .i64) .b)]
def qhi:List Out:=[⟨.exit 0,⟨[],[],[]⟩,mkSh 19 []⟩,⟨.ret,⟨[],[4],[]⟩,mkSh 19 [(4,.val (.int .i64) .b)]⟩]
def zev (t0:PV zf)(t1:PV .str)(t7:PV (.int .i64))(t8:PV (.int .i64)):Option ((PV zf×PV .str×PV (.int .i64)×PV (.int .i64)×Unit)⊕((Unit)⊕(PV (.int .i64)×Unit))):=
 bif (decide (t8<t7)) then
  bif inB t8 t0.length then
   bif (t1==(t0.getD t8.toNat [])) then
    some (.inr (.inr (t8,())))
   else
    some (.inl (t0,t1,t7,(IntKind.wrap .i64 (t8+1)),()))
  else
   none
 else
  some (.inr (.inl ()))
def zze:PV zf×PV .str×PV (.int .i64)×PV (.int .i64)×Unit->Option ((Unit)⊕(PV (.int .i64)×Unit)):=fix λd=>zev d.1 d.2.1 d.2.2.1 d.2.2.2.1
def zzd:Lp:=⟨⟨[],[0,1,7,8],[]⟩,qhg,qhi,λd=>zev d.1 d.2.1 d.2.2.1 d.2.2.2.1⟩
def qhm:Plan:=⟨[],[(2,zzd)],0,0⟩
def zly (t0:PV zf)(t1:PV .str):Option (PVs [(.int .i64)]×PVs []):=
 (zze (t0,t1,(t0.length:Int),0,())).bind λx5=>
   match x5 with
   | .inl l3=>
     some (((-1),()),())
   | .inr l4=>
     some ((l4.1,()),())
def zzh:Ct:=⟨[(.bor,zf),(.bor,.str)],[((.int .i64),.b)],λx=>zly x.1 x.2.1⟩
def qhn:Cx:=⟨tab,arrs,[],[],gl,[]⟩
theorem qho:FnOk gl Tryz.prog 244 zzh:=
 fo qhn qhm 0 (oz trivial trivial) Tryz.func244 (by kernel_rfl) (by kernel_rfl) (by kernel_rfl)
  (ll 1 (by kernel_rfl) (lc zzd (by kernel_rfl) (λd=>by kernel_rfl) trivial)) (λx=>by kernel_rfl)
def qla:List Out:=[⟨.normal,⟨[],[0,4,5,6,28,49,50,51],[]⟩,mkSh 74 [(0,.val zf .b),(4,.val zn (.row (.pr .b (.pr .b (.pr .b (.pr (.row .b) .b)))))),(5,.val .str .b),(6,.val (.int .i64) .b),(28,.val .bool .b)]⟩]
def qj4:List Out:=[⟨.normal,⟨[],[0,4,7,25,26,27,52],[]⟩,mkSh 74 [(0,.val zf .b),(4,.val zn (.row (.pr .b (.pr .b (.pr .b (.pr (.row .b) .b)))))),(7,.var qh (.pr .b (.pr .b (.pr .b (.pr (.row .b) .b))))),(52,.val .bool .b)]⟩]
def qj5:List Out:=[⟨.normal,⟨[],[0,4,7,25,26,27,49,50,51],[]⟩,mkSh 74 [(0,.val zf .b),(4,.val zn (.row (.pr .b (.pr .b (.pr .b (.pr (.row .b) .b)))))),(7,.var qh (.pr .b (.pr .b (.pr .b (.pr (.row .b) .b)))))]⟩,⟨.ret,⟨[],[2,3],[]⟩,mkSh 74 [(2,.val zn (.row (.pr .b (.pr .b (.pr .b (.pr (.row .b) .b)))))),(3,.val .bool .b)]⟩]
def qj6:List Sh:=mkSh 74 [(0,.val zf .b),(4,.val zn (.row (.pr .b (.pr .b (.pr .b (.pr (.row .b) .b))))))]
def qlb:List Out:=[⟨.exit 0,⟨[],[4],[]⟩,mkSh 74 [(4,.val zn (.row (.pr .b (.pr .b (.pr .b (.pr (.row .b) .b))))))]⟩,⟨.ret,⟨[],[2,3],[]⟩,mkSh 74 [(2,.val zn (.row (.pr .b (.pr .b (.pr .b (.pr (.row .b) .b)))))),(3,.val .bool .b)]⟩]
def zd7 (t0:PV zf)(t4:PV zn):Option ((PV zf×PV zn×Unit)⊕((PV zn×Unit)⊕(PV zn×PV .bool×Unit))):=
 bif (decide ((t0.length:Int)>0)) then
  bif inB 0 t0.length then
   (zfy (t0.getD ((0:Int).toNat) [])).bind λr2=>
     bif cutB 1 (t0.length:Int) t0.length then
      (zhj r2.1.1 [97,105,99,100,115]).bind λr4=>
        ((
          bif (decide (r4.1.1<0)) then
           some ((cutL 1 (t0.length:Int) t0),t4,r2.1.1,r4.1.1,true,())
          else
           some ((cutL 1 (t0.length:Int) t0),t4,r2.1.1,r4.1.1,((t4.length:Int)==60),()):Option ((PV zf×PV zn×PV .str×PV (.int .i64)×PV .bool×Unit)))).bind λj6=>
          bif j6.2.2.2.2.1 then
           some (.inr (.inr ([],false,())))
          else
           bif cutB j6.2.2.2.1 (j6.2.2.1.length:Int) j6.2.2.1.length then
            (zly gs0 (cutL j6.2.2.2.1 (j6.2.2.1.length:Int) j6.2.2.1)).bind λr8=>
              bif cutB 0 j6.2.2.2.1 j6.2.2.1.length then
               (zec (cutL 0 j6.2.2.2.1 j6.2.2.1)).bind λr10=>
                 ((
                   bif (!r10.1.2.2.2.1) then
                    some (j6.1,j6.2.1,(r8.1.1,(r10.1.1,(r10.1.2.1,(([]:PV zf),())))),true,())
                   else
                    some (j6.1,j6.2.1,(r8.1.1,(r10.1.1,(r10.1.2.1,(([]:PV zf),())))),(decide (r8.1.1<1)),()):Option ((PV zf×PV zn×PV qh×PV .bool×Unit)))).bind λj12=>
                   bif j12.2.2.2.1 then
                    some (.inr (.inr ([],false,())))
                   else
                    ((
                      bif (decide (j12.2.2.1.1<=3)) then
                       (zly j12.1 [46,10]).bind λr14=>
                         bif (decide (r14.1.1<0)) then
                          some (.inr ([],false,()))
                         else
                          bif cutB 0 r14.1.1 j12.1.length then
                           (ztu (cutL 0 r14.1.1 j12.1)).bind λr15=>
                             bif cutB (IntKind.wrap .i64 (r14.1.1+1)) (j12.1.length:Int) j12.1.length then
                              some (.inl ((cutL (IntKind.wrap .i64 (r14.1.1+1)) (j12.1.length:Int) j12.1),j12.2.1,(j12.2.2.1.1,(j12.2.2.1.2.1,(j12.2.2.1.2.2.1,(r15.1.1,j12.2.2.1.2.2.2.2)))),()))
                             else
                              none
                          else
                           none
                      else
                       some (.inl (j12.1,j12.2.1,j12.2.2.1,())):Option ((PV zf×PV zn×PV qh×Unit)⊕(PV zn×PV .bool×Unit)))).bind λx22=>
                      match x22 with
                      | .inl j16=>
                        bif qw (j16.2.1.length+[j16.2.2.1].length) then
                         some (.inl (j16.1,(j16.2.1++[j16.2.2.1]),()))
                        else
                         none
                      | .inr j17=>
                        some (.inr (.inr (j17.1,j17.2.1,())))
              else
               none
           else
            none
     else
      none
  else
   none
 else
  some (.inr (.inl (t4,())))
def zdo:PV zf×PV zn×Unit->Option ((PV zn×Unit)⊕(PV zn×PV .bool×Unit)):=fix λd=>zd7 d.1 d.2.1
def z0n:Lp:=⟨⟨[],[0,4,25,26,27,49,50,51],[]⟩,qj6,qlb,λd=>zd7 d.1 d.2.1⟩
def qm3:Plan:=⟨[(7,qla),(11,qj4),(17,qj5)],[(2,z0n)],0,0⟩
def zjo (t0:PV zf):Option (PVs [zn,.bool]×PVs []):=
 (zdo (t0,([]:PV zn),())).bind λx23=>
   match x23 with
   | .inl l20=>
     some ((l20.1,true,()),())
   | .inr l21=>
     some ((l21.1,l21.2.1,()),())
def z1w:Ct:=⟨[(.bor,zf)],[(zn,(.row (.pr .b (.pr .b (.pr .b (.pr (.row .b) .b)))))),(.bool,.b)],λx=>zjo x.1⟩
def qm4:Cx:=⟨tab,arrs,[(141,zki),(142,ztz),(143,zmo),(244,zzh),(245,zzi)],[],gl,[]⟩
theorem qm5:FnOk gl Tryz.prog 202 z1w:=
 fo qm4 qm3 0 (oz ⟨zm4,zz3,zpp,qho,qhp,trivial⟩ trivial) Tryz.func202 (by kernel_rfl) (by kernel_rfl) (by kernel_rfl)
  (ll 1 (by kernel_rfl) (lc z0n (by kernel_rfl) (λd=>by kernel_rfl) trivial)) (λx=>by kernel_rfl)
def qlc:Plan:=⟨[],[],0,0⟩
def zo6 (t0:PV .str):Option (PVs [.bool]×PVs []):=
 (zka t0).bind λr1=>
   bif (!r1.1.1) then
    some ((true,()),())
   else
    (zic t0).bind λr2=>
      bif (!r2.1.1) then
       some ((true,()),())
      else
       some (((t0==[46,10]),()),())
def z0y:Ct:=⟨[(.bor,.str)],[(.bool,.b)],λx=>zo6 x.1⟩
def qld:Cx:=⟨tab,arrs,[(157,zpq),(179,zqa)],[],gl,[]⟩
theorem qle:FnOk gl Tryz.prog 285 z0y:=
 fo qld qlc 0 (oz ⟨zu3,zvf,trivial⟩ trivial) Tryz.func285 (by kernel_rfl) (by kernel_rfl) (by kernel_rfl)
  (ll 0 (by kernel_rfl) trivial) (λx=>by kernel_rfl)
def qm6:List Out:=[⟨.normal,⟨[],[1,15,21,22,23,24,32,33,34,35,36,42,43,44,45,46,49,50,51,57,58,59,68,69,70,79,80,81,84,85,86,87,88],[]⟩,mkSh 90 [(1,.var qh .b),(15,.val .bool .b)]⟩]
def qm7:List Out:=[⟨.normal,⟨[],[1,3,32,33,34,35,36,42,43,44,45,46,49,50,51,57,58,59,68,69,70,79,80,81,84,85,86,87,88],[]⟩,mkSh 90 [(1,.var qh .b),(3,.val .bool .b)]⟩]
def qjg:Plan:=⟨[],[],1,90⟩
def qie:List Sh:=mkSh 118 [(1,.var qh .b),(15,.val .bool .b),(16,.addr ⟨1,[.r,.r,.r,.l],0,0⟩),(17,.val zf .b),(18,.val (.int .i64) .b),(19,.val .bool .b),(20,.val .bool .b),(21,.addr ⟨1,[.r,.r,.r,.l],0,0⟩),(22,.val zf .b),(90,.val zf .b),(91,.fn 285 []),(94,.val .bool .b),(95,.val zf .b),(96,.fn 285 []),(99,.val zf .b),(100,.fn 285 []),(106,.val (.int .i64) .b),(107,.val (.int .i64) .b)]
def qi0:List Out:=[⟨.exit 0,⟨[],[],[]⟩,mkSh 118 [(1,.var qh .b),(15,.val .bool .b),(16,.addr ⟨1,[.r,.r,.r,.l],0,0⟩),(17,.val zf .b),(18,.val (.int .i64) .b),(19,.val .bool .b),(20,.val .bool .b),(21,.addr ⟨1,[.r,.r,.r,.l],0,0⟩),(22,.val zf .b),(90,.val zf .b),(91,.fn 285 []),(94,.val .bool .b),(95,.val zf .b),(96,.fn 285 [])]⟩,⟨.ret,⟨[],[4],[]⟩,mkSh 118 [(1,.var qh .b),(15,.val .bool .b),(16,.addr ⟨1,[.r,.r,.r,.l],0,0⟩),(17,.val zf .b),(18,.val (.int .i64) .b),(19,.val .bool .b),(20,.val .bool .b),(21,.addr ⟨1,[.r,.r,.r,.l],0,0⟩),(22,.val zf .b),(90,.val zf .b),(91,.fn 285 []),(94,.val .bool .b),(95,.val zf .b),(96,.fn 285 []),(103,.val (.int .i64) .b)]⟩]
def zez (t1:PV qh)(t15:PV .bool)(t17:PV zf)(t18:PV (.int .i64))(t19:PV .bool)(t20:PV .bool)(t22:PV zf)(t90:PV zf)(t94:PV .bool)(t95:PV zf)(t99:PV zf)(t106:PV (.int .i64))(t107:PV (.int .i64)):Option ((PV qh×PV .bool×PV zf×PV (.int .i64)×PV .bool×PV .bool×PV zf×PV zf×PV .bool×PV zf×PV zf×PV (.int .i64)×PV (.int .i64)×Unit)⊕((PV qh×PV .bool×PV zf×PV (.int .i64)×PV .bool×PV .bool×PV zf×PV zf×PV .bool×PV zf×Unit)⊕(PV qh×PV .bool×PV zf×PV (.int .i64)×PV .bool×PV .bool×PV zf×PV zf×PV .bool×PV zf×PV (.int .i64)×Unit))):=
 bif (decide (t107<t106)) then
  bif inB t107 t99.length then
   (zo6 (t99.getD t107.toNat [])).bind λr13=>
     bif r13.1.1 then
      some (.inr (.inr (t1,t15,t17,t18,t19,t20,t22,t90,t94,t95,t107,())))
     else
      some (.inl (t1,t15,t17,t18,t19,t20,t22,t90,t94,t95,t99,t106,(IntKind.wrap .i64 (t107+1)),()))
  else
   none
 else
  some (.inr (.inl (t1,t15,t17,t18,t19,t20,t22,t90,t94,t95,())))
def zzy:PV qh×PV .bool×PV zf×PV (.int .i64)×PV .bool×PV .bool×PV zf×PV zf×PV .bool×PV zf×PV zf×PV (.int .i64)×PV (.int .i64)×Unit->Option ((PV qh×PV .bool×PV zf×PV (.int .i64)×PV .bool×PV .bool×PV zf×PV zf×PV .bool×PV zf×Unit)⊕(PV qh×PV .bool×PV zf×PV (.int .i64)×PV .bool×PV .bool×PV zf×PV zf×PV .bool×PV zf×PV (.int .i64)×Unit)):=fix λd=>zez d.1 d.2.1 d.2.2.1 d.2.2.2.1 d.2.2.2.2.1 d.2.2.2.2.2.1 d.2.2.2.2.2.2.1 d.2.2.2.2.2.2.2.1 d.2.2.2.2.2.2.2.2.1 d.2.2.2.2.2.2.2.2.2.1 d.2.2.2.2.2.2.2.2.2.2.1 d.2.2.2.2.2.2.2.2.2.2.2.1 d.2.2.2.2.2.2.2.2.2.2.2.2.1
def zzp:Lp:=⟨⟨[],[0,1,7,8],[]⟩,qie,qi0,λd=>zez d.1 d.2.1 d.2.2.1 d.2.2.2.1 d.2.2.2.2.1 d.2.2.2.2.2.1 d.2.2.2.2.2.2.1 d.2.2.2.2.2.2.2.1 d.2.2.2.2.2.2.2.2.1 d.2.2.2.2.2.2.2.2.2.1 d.2.2.2.2.2.2.2.2.2.2.1 d.2.2.2.2.2.2.2.2.2.2.2.1 d.2.2.2.2.2.2.2.2.2.2.2.2.1⟩
def qjh:Plan:=⟨[],[(2,zzp)],0,99⟩
def qo5:Plan:=⟨[(2,qm6),(4,qm7)],[],2,0⟩
def zph (t0:PV qh):Option (PVs [.bool]×PVs []):=
 ((
   (zb4 t0.2.1 0 1000).bind λr6=>
     bif (!r6.1.1) then
      some (t0,true,())
     else
      (zb4 t0.2.2.1 t0.2.1 1000).bind λr7=>
        some (t0,(!r7.1.1),()):Option ((PV qh×PV .bool×Unit)))).bind λj8=>
   bif j8.2.1 then
    some ((false,()),())
   else
    ((
      (zb4 (j8.1.2.2.2.1.length:Int) 1 40).bind λr18=>
        bif r18.1.1 then
         (zzy (j8.1,j8.2.1,j8.1.2.2.2.1,(j8.1.2.2.2.1.length:Int),r18.1.1,true,j8.1.2.2.2.1,j8.1.2.2.2.1,false,j8.1.2.2.2.1,j8.1.2.2.2.1,(j8.1.2.2.2.1.length:Int),0,())).bind λx24=>
           match x24 with
           | .inl l21=>
             bif l21.2.2.2.2.2.1 then
              some (l21.1,(!(decide ((-1)>=0))),())
             else
              some (l21.1,false,())
           | .inr l22=>
             bif l22.2.2.2.2.2.1 then
              some (l22.1,(!(decide (l22.2.2.2.2.2.2.2.2.2.2.1>=0))),())
             else
              some (l22.1,false,())
        else
         some (j8.1,false,()):Option ((PV qh×PV .bool×Unit)))).bind λj23=>
      bif (j23.1.1==1) then
       bif j23.2.1 then
        some (((j23.1.2.2.1==j23.1.2.1),()),())
       else
        some ((false,()),())
      else
       bif (j23.1.1==2) then
        bif j23.2.1 then
         bif (j23.1.2.2.1==j23.1.2.1) then
          some (((decide (j23.1.2.1>=1)),()),())
         else
          some ((false,()),())
        else
         some ((false,()),())
       else
        bif (j23.1.1==3) then
         bif j23.2.1 then
          some (((decide (j23.1.2.1>=1)),()),())
         else
          some ((false,()),())
        else
         bif (j23.1.1==4) then
          bif ((j23.1.2.2.2.1.length:Int)==0) then
           some (((decide (j23.1.2.1>=1)),()),())
          else
           some ((false,()),())
         else
          bif (j23.1.1==5) then
           bif ((j23.1.2.2.2.1.length:Int)==0) then
            bif (decide (j23.1.2.1>=1)) then
             some (((j23.1.2.2.1==j23.1.2.1),()),())
            else
             some ((false,()),())
           else
            some ((false,()),())
          else
           some ((false,()),())
def z2v:Ct:=⟨[(.bor,qh)],[(.bool,.b)],λx=>zph x.1⟩
def qo6:Cx:=⟨tab,arrs,[(131,zi2),(285,z0y)],[(224,Tryz.f224,qjg),(264,Tryz.f264,qjh)],gl,[]⟩
theorem qo7:FnOk gl Tryz.prog 272 z2v:=
 fo qo6 qo5 2 (oz ⟨zle,qle,trivial⟩ ⟨⟨Tryz.func224,by kernel_rfl,(ll 0 (by kernel_rfl) trivial)⟩,⟨Tryz.func264,by kernel_rfl,(ll 1 (by kernel_rfl) (lc zzp (by kernel_rfl) (λd=>by kernel_rfl) trivial))⟩,trivial⟩) Tryz.func272 (by kernel_rfl) (by kernel_rfl) (by kernel_rfl)
  (ll 0 (by kernel_rfl) trivial) (λx=>by kernel_rfl)
def qj7:Plan:=⟨[],[],0,0⟩
def zo4 (t0:PV qh):Option (PVs [.bool]×PVs []):=
 (zph t0).bind λr1=>
   some (((!r1.1.1),()),())
def z0o:Ct:=⟨[(.bor,qh)],[(.bool,.b)],λx=>zo4 x.1⟩
def qj8:Cx:=⟨tab,arrs,[(272,z2v)],[],gl,[]⟩
theorem qj9:FnOk gl Tryz.prog 271 z0o:=
 fo qj8 qj7 0 (oz ⟨qo7,trivial⟩ trivial) Tryz.func271 (by kernel_rfl) (by kernel_rfl) (by kernel_rfl)
  (ll 0 (by kernel_rfl) trivial) (λx=>by kernel_rfl)
def qi1:Plan:=⟨[],[],1,11⟩
def qhy:List Sh:=mkSh 39 [(0,.val zn .b),(2,.val .bool .b),(3,.val zn .b),(4,.val (.int .i64) .b),(5,.val .bool .b),(6,.val .bool .b),(7,.val zn .b),(11,.val zn .b),(12,.fn 271 []),(15,.val .bool .b),(16,.val zn .b),(17,.fn 271 []),(20,.val zn .b),(21,.fn 271 []),(27,.val (.int .i64) .b),(28,.val (.int .i64) .b)]
def qif:List Out:=[⟨.exit 0,⟨[],[],[]⟩,mkSh 39 [(0,.val zn .b),(2,.val .bool .b),(3,.val zn .b),(4,.val (.int .i64) .b),(5,.val .bool .b),(6,.val .bool .b),(7,.val zn .b),(11,.val zn .b),(12,.fn 271 []),(15,.val .bool .b),(16,.val zn .b),(17,.fn 271 [])]⟩,⟨.ret,⟨[],[4],[]⟩,mkSh 39 [(0,.val zn .b),(2,.val .bool .b),(3,.val zn .b),(4,.val (.int .i64) .b),(5,.val .bool .b),(6,.val .bool .b),(7,.val zn .b),(11,.val zn .b),(12,.fn 271 []),(15,.val .bool .b),(16,.val zn .b),(17,.fn 271 []),(24,.val (.int .i64) .b)]⟩]
def zex (t0:PV zn)(t2:PV .bool)(t3:PV zn)(t4:PV (.int .i64))(t5:PV .bool)(t6:PV .bool)(t7:PV zn)(t11:PV zn)(t15:PV .bool)(t16:PV zn)(t20:PV zn)(t27:PV (.int .i64))(t28:PV (.int .i64)):Option ((PV zn×PV .bool×PV zn×PV (.int .i64)×PV .bool×PV .bool×PV zn×PV zn×PV .bool×PV zn×PV zn×PV (.int .i64)×PV (.int .i64)×Unit)⊕((PV zn×PV .bool×PV zn×PV (.int .i64)×PV .bool×PV .bool×PV zn×PV zn×PV .bool×PV zn×Unit)⊕(PV zn×PV .bool×PV zn×PV (.int .i64)×PV .bool×PV .bool×PV zn×PV zn×PV .bool×PV zn×PV (.int .i64)×Unit))):=
 bif (decide (t28<t27)) then
  bif inB t28 t20.length then
   (zo4 (t20.getD t28.toNat (dflt qh))).bind λr4=>
     bif r4.1.1 then
      some (.inr (.inr (t0,t2,t3,t4,t5,t6,t7,t11,t15,t16,t28,())))
     else
      some (.inl (t0,t2,t3,t4,t5,t6,t7,t11,t15,t16,t20,t27,(IntKind.wrap .i64 (t28+1)),()))
  else
   none
 else
  some (.inr (.inl (t0,t2,t3,t4,t5,t6,t7,t11,t15,t16,())))
def zzo:PV zn×PV .bool×PV zn×PV (.int .i64)×PV .bool×PV .bool×PV zn×PV zn×PV .bool×PV zn×PV zn×PV (.int .i64)×PV (.int .i64)×Unit->Option ((PV zn×PV .bool×PV zn×PV (.int .i64)×PV .bool×PV .bool×PV zn×PV zn×PV .bool×PV zn×Unit)⊕(PV zn×PV .bool×PV zn×PV (.int .i64)×PV .bool×PV .bool×PV zn×PV zn×PV .bool×PV zn×PV (.int .i64)×Unit)):=fix λd=>zex d.1 d.2.1 d.2.2.1 d.2.2.2.1 d.2.2.2.2.1 d.2.2.2.2.2.1 d.2.2.2.2.2.2.1 d.2.2.2.2.2.2.2.1 d.2.2.2.2.2.2.2.2.1 d.2.2.2.2.2.2.2.2.2.1 d.2.2.2.2.2.2.2.2.2.2.1 d.2.2.2.2.2.2.2.2.2.2.2.1 d.2.2.2.2.2.2.2.2.2.2.2.2.1
def zzj:Lp:=⟨⟨[],[0,1,7,8],[]⟩,qhy,qif,λd=>zex d.1 d.2.1 d.2.2.1 d.2.2.2.1 d.2.2.2.2.1 d.2.2.2.2.2.1 d.2.2.2.2.2.2.1 d.2.2.2.2.2.2.2.1 d.2.2.2.2.2.2.2.2.1 d.2.2.2.2.2.2.2.2.2.1 d.2.2.2.2.2.2.2.2.2.2.1 d.2.2.2.2.2.2.2.2.2.2.2.1 d.2.2.2.2.2.2.2.2.2.2.2.2.1⟩
def qi2:Plan:=⟨[],[(2,zzj)],0,20⟩
def qm8:Plan:=⟨[],[],2,0⟩
def zo9 (t0:PV zn):Option (PVs [.bool]×PVs []):=
 bif (decide ((t0.length:Int)<=60)) then
  (zzo (t0,false,t0,(t0.length:Int),(decide ((t0.length:Int)<=60)),true,t0,t0,false,t0,t0,(t0.length:Int),0,())).bind λx9=>
    match x9 with
    | .inl l7=>
      bif l7.2.2.2.2.2.1 then
       some (((!(decide ((-1)>=0))),()),())
      else
       some ((false,()),())
    | .inr l8=>
      bif l8.2.2.2.2.2.1 then
       some (((!(decide (l8.2.2.2.2.2.2.2.2.2.2.1>=0))),()),())
      else
       some ((false,()),())
 else
  some ((false,()),())
def z1x:Ct:=⟨[(.bor,zn)],[(.bool,.b)],λx=>zo9 x.1⟩
def qm9:Cx:=⟨tab,arrs,[(271,z0o)],[(270,Tryz.f270,qi1),(284,Tryz.f284,qi2)],gl,[]⟩
theorem qna:FnOk gl Tryz.prog 246 z1x:=
 fo qm9 qm8 2 (oz ⟨qj9,trivial⟩ ⟨⟨Tryz.func270,by kernel_rfl,(ll 0 (by kernel_rfl) trivial)⟩,⟨Tryz.func284,by kernel_rfl,(ll 1 (by kernel_rfl) (lc zzj (by kernel_rfl) (λd=>by kernel_rfl) trivial))⟩,trivial⟩) Tryz.func246 (by kernel_rfl) (by kernel_rfl) (by kernel_rfl)
  (ll 0 (by kernel_rfl) trivial) (λx=>by kernel_rfl)
def qka:List Out:=[⟨.normal,⟨[],[4,10,11,12],[]⟩,mkSh 44 [(4,.val .str .b),(10,.val zn .b),(11,.val (.int .i64) .b),(12,.val (.int .i64) .b)]⟩]
def qkb:List Sh:=mkSh 44 [(4,.val .str .b),(10,.val zn .b),(11,.val (.int .i64) .b),(12,.val (.int .i64) .b)]
def qlf:List Out:=[⟨.exit 0,⟨[],[4],[]⟩,mkSh 44 [(4,.val .str .b)]⟩]
def zhm (t4:PV .str)(t10:PV zn)(t11:PV (.int .i64))(t12:PV (.int .i64)):Option ((PV .str×PV zn×PV (.int .i64)×PV (.int .i64)×Unit)⊕((PV .str×Unit))):=
 bif (decide (t12<t11)) then
  ((
    bif inB t12 t10.length then
     (zdu (((t10.getD t12.toNat (dflt qh)).2).1) ((((t10.getD t12.toNat (dflt qh)).2).2).1)).bind λr7=>
       bif inB ((t10.getD t12.toNat (dflt qh)).1) gs0.length then
        bif decide (r7.1.1.length+(gs0.getD ((t10.getD t12.toNat (dflt qh)).1).toNat []).length<=1099511627776) then
         bif decide ((r7.1.1++(gs0.getD ((t10.getD t12.toNat (dflt qh)).1).toNat [])).length+[10].length<=1099511627776) then
          (zpa (((((t10.getD t12.toNat (dflt qh)).2).2).2).1) []).bind λr8=>
            bif decide (((r7.1.1++(gs0.getD ((t10.getD t12.toNat (dflt qh)).1).toNat []))++[10]).length+r8.1.1.length<=1099511627776) then
             bif decide (t4.length+(((r7.1.1++(gs0.getD ((t10.getD t12.toNat (dflt qh)).1).toNat []))++[10])++r8.1.1).length<=1099511627776) then
              bif (decide (((((((t10.getD t12.toNat (dflt qh)).2).2).2).1).length:Int)>0)) then
               bif decide ((t4++(((r7.1.1++(gs0.getD ((t10.getD t12.toNat (dflt qh)).1).toNat []))++[10])++r8.1.1)).length+[46,10].length<=1099511627776) then
                some (((t4++(((r7.1.1++(gs0.getD ((t10.getD t12.toNat (dflt qh)).1).toNat []))++[10])++r8.1.1))++[46,10]),t10,t11,t12,())
               else
                none
              else
               some ((t4++(((r7.1.1++(gs0.getD ((t10.getD t12.toNat (dflt qh)).1).toNat []))++[10])++r8.1.1)),t10,t11,t12,())
             else
              none
            else
             none
         else
          none
        else
         none
       else
        none
    else
     none:Option ((PV .str×PV zn×PV (.int .i64)×PV (.int .i64)×Unit)))).bind λj9=>
    some (.inl (j9.1,j9.2.1,j9.2.2.1,(IntKind.wrap .i64 (j9.2.2.2.1+1)),()))
 else
  some (.inr (t4,()))
def zt4:PV .str×PV zn×PV (.int .i64)×PV (.int .i64)×Unit->Option ((PV .str×Unit)):=fix λd=>zhm d.1 d.2.1 d.2.2.1 d.2.2.2.1
def z0p:Lp:=⟨⟨[],[4,10,11,12],[]⟩,qkb,qlf,λd=>zhm d.1 d.2.1 d.2.2.1 d.2.2.2.1⟩
def qnb:Plan:=⟨[(10,qka)],[(5,z0p)],0,0⟩
def zpb (t0:PV zn):Option (PVs [.str,.bool]×PVs []):=
 (zo9 t0).bind λr4=>
   bif (!r4.1.1) then
    some (([],false,()),())
   else
    (zt4 ([],t0,(t0.length:Int),0,())).bind λl11=>
      (ziq l11.1).bind λr12=>
        some ((r12.1.1,r12.1.2.1,()),())
def z1y:Ct:=⟨[(.bor,zn)],[(.str,.b),(.bool,.b)],λx=>zpb x.1⟩
def qnc:Cx:=⟨tab,arrs,[(71,zq6),(136,zp9),(246,z1x),(247,z1z)],[],gl,[]⟩
theorem qnd:FnOk gl Tryz.prog 203 z1y:=
 fo qnc qnb 0 (oz ⟨zv0,zve,qna,qne,trivial⟩ trivial) Tryz.func203 (by kernel_rfl) (by kernel_rfl) (by kernel_rfl)
  (ll 1 (by kernel_rfl) (lc z0p (by kernel_rfl) (λd=>by kernel_rfl) trivial)) (λx=>by kernel_rfl)
def qlg:List Out:=[⟨.normal,⟨[],[5,31],[]⟩,mkSh 33 [(5,.val zn (.row (.pr .b (.pr .b (.pr .b (.pr (.row .b) .b)))))),(31,.val .bool .b)]⟩]
def qlh:List Out:=[⟨.normal,⟨[],[],[]⟩,mkSh 33 []⟩,⟨.ret,⟨[],[2,3,4],[]⟩,mkSh 33 [(2,.val zn (.row (.pr .b (.pr .b (.pr .b (.pr (.row .b) .b)))))),(3,.val (.int .i64) .b),(4,.val .bool .b)]⟩]
def qnf:Plan:=⟨[(5,qlg),(6,qlh)],[],0,0⟩
def zl9 (t0:PV .str):Option (PVs [zn,(.int .i64),.bool]×PVs []):=
 ((
   bif (decide ((t0.length:Int)<=3000)) then
    (zif t0).bind λr10=>
      (zjo r10.1.1).bind λr11=>
        (zpb r11.1.1).bind λr13=>
          ((
            bif r11.1.2.1 then
             bif r13.1.2.1 then
              some (r11.1.1,(r13.1.1==t0),())
             else
              some (r11.1.1,false,())
            else
             some (r11.1.1,false,()):Option ((PV zn×PV .bool×Unit)))).bind λj14=>
            bif j14.2.1 then
             some (.inr (j14.1,0,true,()))
            else
             some (.inl ())
   else
    some (.inl ()):Option ((Unit)⊕(PV zn×PV (.int .i64)×PV .bool×Unit)))).bind λx17=>
   match x17 with
   | .inl j15=>
     some (([],1,false,()),())
   | .inr j16=>
     some ((j16.1,j16.2.1,j16.2.2.1,()),())
def z2a:Ct:=⟨[(.bor,.str)],[(zn,(.row (.pr .b (.pr .b (.pr .b (.pr (.row .b) .b)))))),((.int .i64),.b),(.bool,.b)],λx=>zl9 x.1⟩
def qng:Cx:=⟨tab,arrs,[(75,zmn),(202,z1w),(203,z1y)],[],gl,[]⟩
theorem qnh:FnOk gl Tryz.prog 132 z2a:=
 fo qng qnf 0 (oz ⟨zpo,qm5,qnd,trivial⟩ trivial) Tryz.func132 (by kernel_rfl) (by kernel_rfl) (by kernel_rfl)
  (ll 0 (by kernel_rfl) trivial) (λx=>by kernel_rfl)
def qo8:List Out:=[⟨.normal,⟨[],[5],[]⟩,mkSh 40 [(5,.val .bool .b)]⟩]
def qub:Plan:=⟨[(11,qo8)],[],0,0⟩
def zp6 (t0:PV (.int .i64))(t1:PV .str):Option (PVs [.bool]×PVs []):=
 ((
   bif (t0==1) then
    (zmb t1).bind λr5=>
      some (r5.1.2.2.1,())
   else
    bif (t0==2) then
     (zl5 t1).bind λr6=>
       some (r6.1.2.2.1,())
    else
     bif (t0==3) then
      (zl3 t1).bind λr7=>
        some (r7.1.2.2.1,())
     else
      bif (t0==4) then
       (zl9 t1).bind λr8=>
         some (r8.1.2.2.1,())
      else
       some (false,()):Option ((PV .bool×Unit)))).bind λj9=>
   some ((j9.1,()),())
def z6d:Ct:=⟨[(.bor,(.int .i64)),(.bor,.str)],[(.bool,.b)],λx=>zp6 x.1 x.2.1⟩
def quc:Cx:=⟨tab,arrs,[(30,z2c),(36,z0z),(48,z0x),(132,z2a)],[],gl,[]⟩
theorem qud:FnOk gl Tryz.prog 67 z6d:=
 fo quc qub 0 (oz ⟨qni,qli,qk9,qnh,trivial⟩ trivial) Tryz.func67 (by kernel_rfl) (by kernel_rfl) (by kernel_rfl)
  (ll 0 (by kernel_rfl) trivial) (λx=>by kernel_rfl)
def que:Plan:=⟨[],[],0,0⟩
def zp7 (t0:PV (.int .i64))(t1:PV .str):Option (PVs [.bool,.bool]×PVs []):=
 (zrv t0).bind λr4=>
   bif (!r4.1.1) then
    some ((false,false,()),())
   else
    (zp6 t0 t1).bind λr5=>
      some ((r5.1.1,true,()),())
def z6e:Ct:=⟨[(.bor,(.int .i64)),(.bor,.str)],[(.bool,.b),(.bool,.b)],λx=>zp7 x.1 x.2.1⟩
def quf:Cx:=⟨tab,arrs,[(66,qad),(67,z6d)],[],gl,[]⟩
theorem qug:FnOk gl Tryz.prog 19 z6e:=
 fo quf que 0 (oz ⟨q2f,qud,trivial⟩ trivial) Tryz.func19 (by kernel_rfl) (by kernel_rfl) (by kernel_rfl)
  (ll 0 (by kernel_rfl) trivial) (λx=>by kernel_rfl)
def qig:List Out:=[⟨.normal,⟨[],[31],[]⟩,mkSh 32 [(31,.val .bool .b)]⟩]
def qi3:Plan:=⟨[(6,qig)],[],0,0⟩
def zt2 (t0:PV (.int .i64))(t1:PV .str):Option (PVs [.bool]×PVs []):=
 bif (decide ((t1.length:Int)>1048576)) then
  some ((true,()),())
 else
  (zp8 t0 t1).bind λr2=>
    (zp7 t0 t1).bind λr4=>
      ((
        bif (!(r4.1.1==r2.1.1)) then
         some (true,())
        else
         some ((!(r4.1.2.1==r2.1.2.1)),()):Option ((PV .bool×Unit)))).bind λj6=>
        bif j6.1 then
         some ((false,()),())
        else
         some ((true,()),())
def qi4:Ct:=⟨[(.bor,(.int .i64)),(.bor,.str)],[(.bool,.b)],λx=>zt2 x.1 x.2.1⟩
def qi5:Cx:=⟨tab,arrs,[(18,z6f),(19,z6e)],[],gl,[]⟩
theorem qiw:FnOk gl Tryz.prog 4 qi4:=
 fo qi5 qi3 0 (oz ⟨quh,qug,trivial⟩ trivial) Tryz.func4 (by kernel_rfl) (by kernel_rfl) (by kernel_rfl)
  (ll 0 (by kernel_rfl) trivial) (λx=>by kernel_rfl)
end
end R
