/- The functions, part 4. -/
import Derived.Test.YtljgmcbpjakecaaGreatDoorPaId3
set_option linter.unusedVariables false
open Go Go.Dn Go.Proofs
namespace R
set_option maxRecDepth 20000
open Go.Shelf
noncomputable section
def qij:Plan:=⟨[],[],2,48⟩
def qh6:List Sh:=mkSh 76 [(3,.var zh .b),(5,.var (.int .i64) .b),(7,.val (.int .i64) .b),(8,.val (.int .i64) .b),(41,.addr ⟨3,[.r,.r,.l],0,0⟩),(42,.val zi .b),(43,.val (.int .i64) .b),(44,.val (.int .i64) .b),(45,.val zi .b),(46,.fn 237 [⟨5,[],0,0⟩]),(48,.val zi .b),(49,.fn 237 [⟨5,[],0,0⟩]),(52,.val .bool .b),(53,.val zi .b),(54,.fn 237 [⟨5,[],0,0⟩]),(57,.val zi .b),(58,.fn 237 [⟨5,[],0,0⟩]),(64,.val (.int .i64) .b),(65,.val (.int .i64) .b)]
def qia:List Out:=[⟨.exit 0,⟨[],[],[]⟩,mkSh 76 [(3,.var zh .b),(5,.var (.int .i64) .b),(7,.val (.int .i64) .b),(8,.val (.int .i64) .b),(41,.addr ⟨3,[.r,.r,.l],0,0⟩),(42,.val zi .b),(43,.val (.int .i64) .b),(44,.val (.int .i64) .b),(45,.val zi .b),(46,.fn 237 [⟨5,[],0,0⟩]),(48,.val zi .b),(49,.fn 237 [⟨5,[],0,0⟩]),(52,.val .bool .b),(53,.val zi .b),(54,.fn 237 [⟨5,[],0,0⟩])]⟩,⟨.ret,⟨[],[4],[]⟩,mkSh 76 [(3,.var zh .b),(5,.var (.int .i64) .b),(7,.val (.int .i64) .b),(8,.val (.int .i64) .b),(41,.addr ⟨3,[.r,.r,.l],0,0⟩),(42,.val zi .b),(43,.val (.int .i64) .b),(44,.val (.int .i64) .b),(45,.val zi .b),(46,.fn 237 [⟨5,[],0,0⟩]),(48,.val zi .b),(49,.fn 237 [⟨5,[],0,0⟩]),(52,.val .bool .b),(53,.val zi .b),(54,.fn 237 [⟨5,[],0,0⟩]),(61,.val (.int .i64) .b)]⟩]
def zez (t3:PV zh)(t5:PV (.int .i64))(t7:PV (.int .i64))(t8:PV (.int .i64))(t42:PV zi)(t43:PV (.int .i64))(t44:PV (.int .i64))(t45:PV zi)(t48:PV zi)(t52:PV .bool)(t53:PV zi)(t57:PV zi)(t64:PV (.int .i64))(t65:PV (.int .i64)):Option ((PV zh×PV (.int .i64)×PV (.int .i64)×PV (.int .i64)×PV zi×PV (.int .i64)×PV (.int .i64)×PV zi×PV zi×PV .bool×PV zi×PV zi×PV (.int .i64)×PV (.int .i64)×Unit)⊕((PV zh×PV (.int .i64)×PV (.int .i64)×PV (.int .i64)×PV zi×PV (.int .i64)×PV (.int .i64)×PV zi×PV zi×PV .bool×PV zi×Unit)⊕(PV zh×PV (.int .i64)×PV (.int .i64)×PV (.int .i64)×PV zi×PV (.int .i64)×PV (.int .i64)×PV zi×PV zi×PV .bool×PV zi×PV (.int .i64)×Unit))):=
 bif (decide (t65<t64)) then
  bif inB t65 t57.length then
   bif (((t57.getD t65.toNat (dflt zo)).1)==t5) then
    some (.inr (.inr (t3,t5,t7,t8,t42,t43,t44,t45,t48,t52,t53,t65,())))
   else
    some (.inl (t3,t5,t7,t8,t42,t43,t44,t45,t48,t52,t53,t57,t64,(IntKind.wrap .i64 (t65+1)),()))
  else
   none
 else
  some (.inr (.inl (t3,t5,t7,t8,t42,t43,t44,t45,t48,t52,t53,())))
def zzo:PV zh×PV (.int .i64)×PV (.int .i64)×PV (.int .i64)×PV zi×PV (.int .i64)×PV (.int .i64)×PV zi×PV zi×PV .bool×PV zi×PV zi×PV (.int .i64)×PV (.int .i64)×Unit->Option ((PV zh×PV (.int .i64)×PV (.int .i64)×PV (.int .i64)×PV zi×PV (.int .i64)×PV (.int .i64)×PV zi×PV zi×PV .bool×PV zi×Unit)⊕(PV zh×PV (.int .i64)×PV (.int .i64)×PV (.int .i64)×PV zi×PV (.int .i64)×PV (.int .i64)×PV zi×PV zi×PV .bool×PV zi×PV (.int .i64)×Unit)):=fix λd=>zez d.1 d.2.1 d.2.2.1 d.2.2.2.1 d.2.2.2.2.1 d.2.2.2.2.2.1 d.2.2.2.2.2.2.1 d.2.2.2.2.2.2.2.1 d.2.2.2.2.2.2.2.2.1 d.2.2.2.2.2.2.2.2.2.1 d.2.2.2.2.2.2.2.2.2.2.1 d.2.2.2.2.2.2.2.2.2.2.2.1 d.2.2.2.2.2.2.2.2.2.2.2.2.1 d.2.2.2.2.2.2.2.2.2.2.2.2.2.1
def zzn:Lp:=⟨⟨[],[0,1,7,8],[]⟩,qh6,qia,λd=>zez d.1 d.2.1 d.2.2.1 d.2.2.2.1 d.2.2.2.2.1 d.2.2.2.2.2.1 d.2.2.2.2.2.2.1 d.2.2.2.2.2.2.2.1 d.2.2.2.2.2.2.2.2.1 d.2.2.2.2.2.2.2.2.2.1 d.2.2.2.2.2.2.2.2.2.2.1 d.2.2.2.2.2.2.2.2.2.2.2.1 d.2.2.2.2.2.2.2.2.2.2.2.2.1 d.2.2.2.2.2.2.2.2.2.2.2.2.2.1⟩
def qik:Plan:=⟨[],[(2,zzn)],1,57⟩
def qil:Plan:=⟨[],[],0,76⟩
def qjl:List Sh:=mkSh 48 [(3,.var zh .b),(5,.var (.int .i64) .b),(7,.val (.int .i64) .b),(8,.val (.int .i64) .b)]
def qj1:List Out:=[⟨.exit 0,⟨[],[3,5,7,8,31,32,33,34,35,36,37],[]⟩,mkSh 48 [(3,.var zh .b),(5,.var (.int .i64) .b),(7,.val (.int .i64) .b),(8,.val (.int .i64) .b)]⟩]
def ze5 (t3:PV zh)(t5:PV (.int .i64))(t7:PV (.int .i64))(t8:PV (.int .i64)):Option ((PV zh×PV (.int .i64)×PV (.int .i64)×PV (.int .i64)×Unit)⊕((PV zh×PV (.int .i64)×PV (.int .i64)×PV (.int .i64)×Unit))):=
 bif (decide (t7>0)) then
  bif inB (IntKind.wrap .i64 (t7 -1)) t3.2.2.1.length then
   bif (!(((t3.2.2.1.getD ((IntKind.wrap .i64 (t7 -1)).toNat) (dflt zo)).1)==1)) then
    some (.inl (t3,t5,(IntKind.wrap .i64 (t7 -1)),t8,()))
   else
    some (.inr (t3,t5,t7,t8,()))
  else
   none
 else
  some (.inr (t3,t5,t7,t8,()))
def z0g:PV zh×PV (.int .i64)×PV (.int .i64)×PV (.int .i64)×Unit->Option ((PV zh×PV (.int .i64)×PV (.int .i64)×PV (.int .i64)×Unit)):=fix λd=>ze5 d.1 d.2.1 d.2.2.1 d.2.2.2.1
def zz9:Lp:=⟨⟨[],[3,5,7,8,31,32,33,34,35,36,37],[]⟩,qjl,qj1,λd=>ze5 d.1 d.2.1 d.2.2.1 d.2.2.2.1⟩
def qjm:List Sh:=mkSh 48 [(3,.var zh .b),(5,.var (.int .i64) .b),(7,.val (.int .i64) .b),(8,.val (.int .i64) .b)]
def qj2:List Out:=[⟨.exit 2,⟨[],[3,5,7,8],[]⟩,mkSh 48 [(3,.var zh .b),(5,.var (.int .i64) .b),(7,.val (.int .i64) .b),(8,.val (.int .i64) .b)]⟩]
def ze6 (t3:PV zh)(t5:PV (.int .i64))(t7:PV (.int .i64))(t8:PV (.int .i64)):Option ((PV zh×PV (.int .i64)×PV (.int .i64)×PV (.int .i64)×Unit)⊕((PV zh×PV (.int .i64)×PV (.int .i64)×PV (.int .i64)×Unit))):=
 bif (decide (t8<(t3.2.2.1.length:Int))) then
  bif inB t8 t3.2.2.1.length then
   bif (!(((t3.2.2.1.getD t8.toNat (dflt zo)).1)==1)) then
    some (.inl (t3,t5,t7,(IntKind.wrap .i64 (t8+1)),()))
   else
    some (.inr (t3,t5,t7,t8,()))
  else
   none
 else
  some (.inr (t3,t5,t7,t8,()))
def z0h:PV zh×PV (.int .i64)×PV (.int .i64)×PV (.int .i64)×Unit->Option ((PV zh×PV (.int .i64)×PV (.int .i64)×PV (.int .i64)×Unit)):=fix λd=>ze6 d.1 d.2.1 d.2.2.1 d.2.2.2.1
def z0a:Lp:=⟨⟨[],[3,5,7,8],[]⟩,qjm,qj2,λd=>ze6 d.1 d.2.1 d.2.2.1 d.2.2.2.1⟩
def qko:Plan:=⟨[],[(2,zz9),(4,z0a)],3,0⟩
def zpc (t0:PV zh)(t1:PV (.int .i64))(t2:PV (.int .i64)):Option (PVs [.bool]×PVs []):=
 (z0g (t0,t2,t1,t1,())).bind λl2=>
   (z0h (l2.1,l2.2.1,l2.2.2.1,l2.2.2.2.1,())).bind λl4=>
     bif cutB l4.2.2.1 l4.2.2.2.1 l4.1.2.2.1.length then
      (zzo (l4.1,l4.2.1,l4.2.2.1,l4.2.2.2.1,l4.1.2.2.1,l4.2.2.1,l4.2.2.2.1,(cutL l4.2.2.1 l4.2.2.2.1 l4.1.2.2.1),(cutL l4.2.2.1 l4.2.2.2.1 l4.1.2.2.1),false,(cutL l4.2.2.1 l4.2.2.2.1 l4.1.2.2.1),(cutL l4.2.2.1 l4.2.2.2.1 l4.1.2.2.1),((cutL l4.2.2.1 l4.2.2.2.1 l4.1.2.2.1).length:Int),0,())).bind λx9=>
        match x9 with
        | .inl l7=>
          some (((decide ((-1)>=0)),()),())
        | .inr l8=>
          some (((decide (l8.2.2.2.2.2.2.2.2.2.2.2.1>=0)),()),())
     else
      none
def z0t:Ct:=⟨[(.bor,zh),(.bor,(.int .i64)),(.bor,(.int .i64))],[(.bool,.b)],λx=>zpc x.1 x.2.1 x.2.2.1⟩
def qkp:Cx:=⟨tab,arrs,[],[(230,Tryz.f230,qij),(266,Tryz.f266,qik),(237,Tryz.f237,qil)],gl,[]⟩
theorem qkq:FnOk gl Tryz.prog 180 z0t:=
 fo qkp qko 3 (oz trivial ⟨⟨Tryz.func230,by kernel_rfl,(ll 0 (by kernel_rfl) trivial)⟩,⟨Tryz.func266,by kernel_rfl,(ll 1 (by kernel_rfl) (lc zzn (by kernel_rfl) (λd=>by kernel_rfl) trivial))⟩,⟨Tryz.func237,by kernel_rfl,(ll 0 (by kernel_rfl) trivial)⟩,trivial⟩) Tryz.func180 (by kernel_rfl) (by kernel_rfl) (by kernel_rfl)
  (ll 2 (by kernel_rfl) (lc zz9 (by kernel_rfl) (λd=>by kernel_rfl) (lc z0a (by kernel_rfl) (λd=>by kernel_rfl) trivial))) (λx=>by kernel_rfl)
def qls:List Out:=[⟨.normal,⟨[],[1,2,5,7,9,10,11,29],[]⟩,mkSh 46 [(1,.val (.int .i64) .b),(2,.var zh .b),(5,.val .str .b),(7,.var zo .b),(9,.val zi .b),(10,.val (.int .i64) .b),(11,.val (.int .i64) .b),(29,.val .bool .b)]⟩]
def qlt:List Out:=[⟨.normal,⟨[],[1,2,5,9,10,11,34,35,36,37],[]⟩,mkSh 46 [(1,.val (.int .i64) .b),(2,.var zh .b),(5,.val .str .b),(9,.val zi .b),(10,.val (.int .i64) .b),(11,.val (.int .i64) .b)]⟩]
def qkr:List Sh:=mkSh 46 [(1,.val (.int .i64) .b),(2,.var zh .b),(5,.val .str .b),(9,.val zi .b),(10,.val (.int .i64) .b),(11,.val (.int .i64) .b)]
def qlu:List Out:=[⟨.exit 0,⟨[],[5],[]⟩,mkSh 46 [(5,.val .str .b)]⟩]
def zhn (t1:PV (.int .i64))(t2:PV zh)(t5:PV .str)(t9:PV zi)(t10:PV (.int .i64))(t11:PV (.int .i64)):Option ((PV (.int .i64)×PV zh×PV .str×PV zi×PV (.int .i64)×PV (.int .i64)×Unit)⊕((PV .str×Unit))):=
 bif (decide (t11<t10)) then
  ((
    bif inB t11 t9.length then
     bif (((t9.getD t11.toNat (dflt zo)).1)==t1) then
      some (t1,t2,t5,t9,t10,t11,())
     else
      ((
        bif (!(((t9.getD t11.toNat (dflt zo)).1)==1)) then
         (zpc t2 t11 t1).bind λr1=>
           some (t1,t2,t5,(t9.getD t11.toNat (dflt zo)),t9,t10,t11,r1.1.1,())
        else
         some (t1,t2,t5,(t9.getD t11.toNat (dflt zo)),t9,t10,t11,false,()):Option ((PV (.int .i64)×PV zh×PV .str×PV zo×PV zi×PV (.int .i64)×PV (.int .i64)×PV .bool×Unit)))).bind λj2=>
        bif j2.2.2.2.2.2.2.2.1 then
         (zcs [33,32] j2.2.2.2.1.2.1).bind λr3=>
           bif decide (j2.2.2.1.length+r3.1.1.length<=1099511627776) then
            some (j2.1,j2.2.1,(j2.2.2.1++r3.1.1),j2.2.2.2.2.1,j2.2.2.2.2.2.1,j2.2.2.2.2.2.2.1,())
           else
            none
        else
         (zh8 j2.2.2.2.1).bind λr4=>
           bif decide (r4.1.1.length+[32].length<=1099511627776) then
            (zcs (r4.1.1++[32]) j2.2.2.2.1.2.1).bind λr5=>
              bif decide (j2.2.2.1.length+r5.1.1.length<=1099511627776) then
               some (j2.1,j2.2.1,(j2.2.2.1++r5.1.1),j2.2.2.2.2.1,j2.2.2.2.2.2.1,j2.2.2.2.2.2.2.1,())
              else
               none
           else
            none
    else
     none:Option ((PV (.int .i64)×PV zh×PV .str×PV zi×PV (.int .i64)×PV (.int .i64)×Unit)))).bind λj6=>
    some (.inl (j6.1,j6.2.1,j6.2.2.1,j6.2.2.2.1,j6.2.2.2.2.1,(IntKind.wrap .i64 (j6.2.2.2.2.2.1+1)),()))
 else
  some (.inr (t5,()))
def z1d:PV (.int .i64)×PV zh×PV .str×PV zi×PV (.int .i64)×PV (.int .i64)×Unit->Option ((PV .str×Unit)):=fix λd=>zhn d.1 d.2.1 d.2.2.1 d.2.2.2.1 d.2.2.2.2.1 d.2.2.2.2.2.1
def z0u:Lp:=⟨⟨[],[1,2,5,9,10,11,34,35,36,37],[]⟩,qkr,qlu,λd=>zhn d.1 d.2.1 d.2.2.1 d.2.2.2.1 d.2.2.2.2.1 d.2.2.2.2.2.1⟩
def qnp:Plan:=⟨[(8,qls),(9,qlt)],[(3,z0u)],0,0⟩
def zjs (t0:PV zh)(t1:PV (.int .i64)):Option (PVs [.str]×PVs []):=
 (z1d (t1,t0,[],t0.2.2.1,(t0.2.2.1.length:Int),0,())).bind λl8=>
   some ((l8.1,()),())
def z2d:Ct:=⟨[(.bor,zh),(.bor,(.int .i64))],[(.str,.b)],λx=>zjs x.1 x.2.1⟩
def qnq:Cx:=⟨tab,arrs,[(180,z0t),(181,zre),(182,zuy)],[],gl,[]⟩
theorem qnr:FnOk gl Tryz.prog 107 z2d:=
 fo qnq qnp 0 (oz ⟨qkq,zv9,z4m,trivial⟩ trivial) Tryz.func107 (by kernel_rfl) (by kernel_rfl) (by kernel_rfl)
  (ll 1 (by kernel_rfl) (lc z0u (by kernel_rfl) (λd=>by kernel_rfl) trivial)) (λx=>by kernel_rfl)
def qns:List Out:=[⟨.normal,⟨[],[3,5,7,8,9,10],[]⟩,mkSh 60 [(3,.val .str .b),(5,.var zh .b),(7,.val (.int .i64) .b),(8,.val zl .b),(9,.val (.int .i64) .b),(10,.val (.int .i64) .b)]⟩]
def qlv:List Out:=[⟨.normal,⟨[],[3,8,9,10],[]⟩,mkSh 60 [(3,.val .str .b),(8,.val zl .b),(9,.val (.int .i64) .b),(10,.val (.int .i64) .b)]⟩]
def qlw:List Sh:=mkSh 60 [(3,.val .str .b),(8,.val zl .b),(9,.val (.int .i64) .b),(10,.val (.int .i64) .b)]
def qnt:List Out:=[⟨.exit 0,⟨[],[3],[]⟩,mkSh 60 [(3,.val .str .b)]⟩]
def zhq (t3:PV .str)(t8:PV zl)(t9:PV (.int .i64))(t10:PV (.int .i64)):Option ((PV .str×PV zl×PV (.int .i64)×PV (.int .i64)×Unit)⊕((PV .str×Unit))):=
 bif (decide (t10<t9)) then
  ((
    bif inB t10 t8.length then
     (zhz (t8.getD t10.toNat (dflt zh))).bind λr3=>
       (zhp (t8.getD t10.toNat (dflt zh))).bind λr4=>
         (zj1 ((t8.getD t10.toNat (dflt zh)).1) (r3.1.1.length:Int)).bind λr8=>
           (zkt ((t8.getD t10.toNat (dflt zh)).1) (r3.1.1.length:Int)).bind λr9=>
             (zdx r8.1.1 r9.1.1).bind λr10=>
               bif decide ([42,42,42,42,42,42,42,42,42,42,42,42,42,42,42,10,42,42,42,32].length+r10.1.1.length<=1099511627776) then
                bif decide (([42,42,42,42,42,42,42,42,42,42,42,42,42,42,42,10,42,42,42,32]++r10.1.1).length+[32,42,42,42,42,10].length<=1099511627776) then
                 bif decide (t3.length+(([42,42,42,42,42,42,42,42,42,42,42,42,42,42,42,10,42,42,42,32]++r10.1.1)++[32,42,42,42,42,10]).length<=1099511627776) then
                  ((
                    (zjx (t8.getD t10.toNat (dflt zh)) 2).bind λr12=>
                      bif r12.1.1 then
                       (zjs (t8.getD t10.toNat (dflt zh)) 3).bind λr13=>
                         bif decide ((t3++(([42,42,42,42,42,42,42,42,42,42,42,42,42,42,42,10,42,42,42,32]++r10.1.1)++[32,42,42,42,42,10])).length+r13.1.1.length<=1099511627776) then
                          some (((t3++(([42,42,42,42,42,42,42,42,42,42,42,42,42,42,42,10,42,42,42,32]++r10.1.1)++[32,42,42,42,42,10]))++r13.1.1),(t8.getD t10.toNat (dflt zh)),(r4.1.1.length:Int),t8,t9,t10,())
                         else
                          none
                      else
                       some ((t3++(([42,42,42,42,42,42,42,42,42,42,42,42,42,42,42,10,42,42,42,32]++r10.1.1)++[32,42,42,42,42,10])),(t8.getD t10.toNat (dflt zh)),(r4.1.1.length:Int),t8,t9,t10,()):Option ((PV .str×PV zh×PV (.int .i64)×PV zl×PV (.int .i64)×PV (.int .i64)×Unit)))).bind λj14=>
                    (zj1 j14.2.1.2.1 j14.2.2.1).bind λr18=>
                      (zkt j14.2.1.2.1 j14.2.2.1).bind λr19=>
                        (zdx r18.1.1 r19.1.1).bind λr20=>
                          bif decide ([45,45,45,32].length+r20.1.1.length<=1099511627776) then
                           bif decide (([45,45,45,32]++r20.1.1).length+[32,45,45,45,45,10].length<=1099511627776) then
                            bif decide (j14.1.length+(([45,45,45,32]++r20.1.1)++[32,45,45,45,45,10]).length<=1099511627776) then
                             (zjx j14.2.1 3).bind λr22=>
                               bif r22.1.1 then
                                (zjs j14.2.1 2).bind λr23=>
                                  bif decide ((j14.1++(([45,45,45,32]++r20.1.1)++[32,45,45,45,45,10])).length+r23.1.1.length<=1099511627776) then
                                   some (((j14.1++(([45,45,45,32]++r20.1.1)++[32,45,45,45,45,10]))++r23.1.1),j14.2.2.2.1,j14.2.2.2.2.1,j14.2.2.2.2.2.1,())
                                  else
                                   none
                               else
                                some ((j14.1++(([45,45,45,32]++r20.1.1)++[32,45,45,45,45,10])),j14.2.2.2.1,j14.2.2.2.2.1,j14.2.2.2.2.2.1,())
                            else
                             none
                           else
                            none
                          else
                           none
                 else
                  none
                else
                 none
               else
                none
    else
     none:Option ((PV .str×PV zl×PV (.int .i64)×PV (.int .i64)×Unit)))).bind λj24=>
    some (.inl (j24.1,j24.2.1,j24.2.2.1,(IntKind.wrap .i64 (j24.2.2.2.1+1)),()))
 else
  some (.inr (t3,()))
def z2a:PV .str×PV zl×PV (.int .i64)×PV (.int .i64)×Unit->Option ((PV .str×Unit)):=fix λd=>zhq d.1 d.2.1 d.2.2.1 d.2.2.2.1
def z1e:Lp:=⟨⟨[],[3,8,9,10],[]⟩,qlw,qnt,λd=>zhq d.1 d.2.1 d.2.2.1 d.2.2.2.1⟩
def qpo:Plan:=⟨[(9,qns),(12,qlv)],[(3,z1e)],0,0⟩
def zpo (t0:PV zl):Option (PVs [.str]×PVs []):=
 (z2a ([],t0,(t0.length:Int),0,())).bind λl26=>
   some ((l26.1,()),())
def z3b:Ct:=⟨[(.bor,zl)],[(.str,.b)],λx=>zpo x.1⟩
def qpp:Cx:=⟨tab,arrs,[(107,z2d),(136,zqh),(150,zpm),(151,zpe),(165,z4n),(166,qav),(167,z3c)],[],gl,[]⟩
theorem qpq:FnOk gl Tryz.prog 99 z3b:=
 fo qpp qpo 0 (oz ⟨qnr,zvq,zuo,zui,qr2,q4a,qpr,trivial⟩ trivial) Tryz.func99 (by kernel_rfl) (by kernel_rfl) (by kernel_rfl)
  (ll 1 (by kernel_rfl) (lc z1e (by kernel_rfl) (λd=>by kernel_rfl) trivial)) (λx=>by kernel_rfl)
def qps:Plan:=⟨[],[],0,0⟩
def zpp (t0:PV zl):Option (PVs [.str,.bool]×PVs []):=
 (zmd t0).bind λr4=>
   bif (!r4.1.1) then
    some (([],false,()),())
   else
    (zpo t0).bind λr5=>
      (zix r5.1.1).bind λr6=>
        some ((r6.1.1,r6.1.2.1,()),())
def z3d:Ct:=⟨[(.bor,zl)],[(.str,.b),(.bool,.b)],λx=>zpp x.1⟩
def qpt:Cx:=⟨tab,arrs,[(71,zrf),(86,zul),(99,z3b)],[],gl,[]⟩
theorem qpu:FnOk gl Tryz.prog 46 z3d:=
 fo qpt qps 0 (oz ⟨zwa,z2e,qpq,trivial⟩ trivial) Tryz.func46 (by kernel_rfl) (by kernel_rfl) (by kernel_rfl)
  (ll 0 (by kernel_rfl) trivial) (λx=>by kernel_rfl)
def qks:List Out:=[⟨.normal,⟨[],[5,31],[]⟩,mkSh 33 [(5,.val zl (.row (.pr .b (.pr .b (.pr (.row (.pr .b (.pr .b .b))) .b))))),(31,.val .bool .b)]⟩]
def qkt:List Out:=[⟨.normal,⟨[],[],[]⟩,mkSh 33 []⟩,⟨.ret,⟨[],[2,3,4],[]⟩,mkSh 33 [(2,.val zl (.row (.pr .b (.pr .b (.pr (.row (.pr .b (.pr .b .b))) .b))))),(3,.val (.int .i64) .b),(4,.val .bool .b)]⟩]
def qlx:Plan:=⟨[(5,qks),(6,qkt)],[],0,0⟩
def zl9 (t0:PV .str):Option (PVs [zl,(.int .i64),.bool]×PVs []):=
 ((
   bif (decide ((t0.length:Int)<=3000)) then
    (zin t0).bind λr10=>
      (zjy r10.1.1).bind λr11=>
        (zpp r11.1.1).bind λr13=>
          ((
            bif r11.1.2.1 then
             bif r13.1.2.1 then
              some (r11.1.1,(r13.1.1==t0),())
             else
              some (r11.1.1,false,())
            else
             some (r11.1.1,false,()):Option ((PV zl×PV .bool×Unit)))).bind λj14=>
            bif j14.2.1 then
             some (.inr (j14.1,0,true,()))
            else
             some (.inl ())
   else
    some (.inl ()):Option ((Unit)⊕(PV zl×PV (.int .i64)×PV .bool×Unit)))).bind λx17=>
   match x17 with
   | .inl j15=>
     some (([],1,false,()),())
   | .inr j16=>
     some ((j16.1,j16.2.1,j16.2.2.1,()),())
def z1f:Ct:=⟨[(.bor,.str)],[(zl,(.row (.pr .b (.pr .b (.pr (.row (.pr .b (.pr .b .b))) .b))))),((.int .i64),.b),(.bool,.b)],λx=>zl9 x.1⟩
def qly:Cx:=⟨tab,arrs,[(46,z3d),(75,zmu),(101,z3e)],[],gl,[]⟩
theorem qlz:FnOk gl Tryz.prog 48 z1f:=
 fo qly qlx 0 (oz ⟨qpu,zpx,qpv,trivial⟩ trivial) Tryz.func48 (by kernel_rfl) (by kernel_rfl) (by kernel_rfl)
  (ll 0 (by kernel_rfl) trivial) (λx=>by kernel_rfl)
def qh5:List Sh:=mkSh 19 [(0,.val zf .b),(1,.val .str .b),(7,.val (.int .i64) .b),(8,.val (.int .i64) .b)]
def qh7:List Out:=[⟨.exit 0,⟨[],[],[]⟩,mkSh 19 []⟩,⟨.ret,⟨[],[4],[]⟩,mkSh 19 [(4,.val (.int .i64) .b)]⟩]
def zey (t0:PV zf)(t1:PV .str)(t7:PV (.int .i64))(t8:PV (.int .i64)):Option ((PV zf×PV .str×PV (.int .i64)×PV (.int .i64)×Unit)⊕((Unit)⊕(PV (.int .i64)×Unit))):=
 bif (decide (t8<t7)) then
  bif inB t8 t0.length then
   bif (t1==(t0.getD t8.toNat [])) then
    some (.inr (.inr (t8,())))
   else
    some (.inl (t0,t1,t7,(IntKind.wrap .i64 (t8+1)),()))
  else
   none
 else
  some (.inr (.inl ()))
def zzm:PV zf×PV .str×PV (.int .i64)×PV (.int .i64)×Unit->Option ((Unit)⊕(PV (.int .i64)×Unit)):=fix λd=>zey d.1 d.2.1 d.2.2.1 d.2.2.2.1
def zzl:Lp:=⟨⟨[],[0,1,7,8],[]⟩,qh5,qh7,λd=>zey d.1 d.2.1 d.2.2.1 d.2.2.2.1⟩
def qib:Plan:=⟨[],[(2,zzl)],0,0⟩
def zl4 (t0:PV zf)(t1:PV .str):Option (PVs [(.int .i64)]×PVs []):=
 (zzm (t0,t1,(t0.length:Int),0,())).bind λx5=>
   match x5 with
   | .inl l3=>
     some (((-1),()),())
   | .inr l4=>
     some ((l4.1,()),())
def zzp:Ct:=⟨[(.bor,zf),(.bor,.str)],[((.int .i64),.b)],λx=>zl4 x.1 x.2.1⟩
def qic:Cx:=⟨tab,arrs,[],[],gl,[]⟩
theorem qid:FnOk gl Tryz.prog 244 zzp:=
 fo qic qib 0 (oz trivial trivial) Tryz.func244 (by kernel_rfl) (by kernel_rfl) (by kernel_rfl)
  (ll 1 (by kernel_rfl) (lc zzl (by kernel_rfl) (λd=>by kernel_rfl) trivial)) (λx=>by kernel_rfl)
def ql0:List Out:=[⟨.normal,⟨[],[0,4,5,6,28,49,50,51],[]⟩,mkSh 74 [(0,.val zf .b),(4,.val zn (.row (.pr .b (.pr .b (.pr .b (.pr (.row .b) .b)))))),(5,.val .str .b),(6,.val (.int .i64) .b),(28,.val .bool .b)]⟩]
def qku:List Out:=[⟨.normal,⟨[],[0,4,7,25,26,27,52],[]⟩,mkSh 74 [(0,.val zf .b),(4,.val zn (.row (.pr .b (.pr .b (.pr .b (.pr (.row .b) .b)))))),(7,.var qh (.pr .b (.pr .b (.pr .b (.pr (.row .b) .b))))),(52,.val .bool .b)]⟩]
def qkv:List Out:=[⟨.normal,⟨[],[0,4,7,25,26,27,49,50,51],[]⟩,mkSh 74 [(0,.val zf .b),(4,.val zn (.row (.pr .b (.pr .b (.pr .b (.pr (.row .b) .b)))))),(7,.var qh (.pr .b (.pr .b (.pr .b (.pr (.row .b) .b)))))]⟩,⟨.ret,⟨[],[2,3],[]⟩,mkSh 74 [(2,.val zn (.row (.pr .b (.pr .b (.pr .b (.pr (.row .b) .b)))))),(3,.val .bool .b)]⟩]
def qkw:List Sh:=mkSh 74 [(0,.val zf .b),(4,.val zn (.row (.pr .b (.pr .b (.pr .b (.pr (.row .b) .b))))))]
def ql1:List Out:=[⟨.exit 0,⟨[],[4],[]⟩,mkSh 74 [(4,.val zn (.row (.pr .b (.pr .b (.pr .b (.pr (.row .b) .b))))))]⟩,⟨.ret,⟨[],[2,3],[]⟩,mkSh 74 [(2,.val zn (.row (.pr .b (.pr .b (.pr .b (.pr (.row .b) .b)))))),(3,.val .bool .b)]⟩]
def zea (t0:PV zf)(t4:PV zn):Option ((PV zf×PV zn×Unit)⊕((PV zn×Unit)⊕(PV zn×PV .bool×Unit))):=
 bif (decide ((t0.length:Int)>0)) then
  bif inB 0 t0.length then
   (zf0 (t0.getD ((0:Int).toNat) [])).bind λr2=>
     bif cutB 1 (t0.length:Int) t0.length then
      (zhl r2.1.1 [97,105,99,100,115]).bind λr4=>
        ((
          bif (decide (r4.1.1<0)) then
           some ((cutL 1 (t0.length:Int) t0),t4,r2.1.1,r4.1.1,true,())
          else
           some ((cutL 1 (t0.length:Int) t0),t4,r2.1.1,r4.1.1,((t4.length:Int)==60),()):Option ((PV zf×PV zn×PV .str×PV (.int .i64)×PV .bool×Unit)))).bind λj6=>
          bif j6.2.2.2.2.1 then
           some (.inr (.inr ([],false,())))
          else
           bif cutB j6.2.2.2.1 (j6.2.2.1.length:Int) j6.2.2.1.length then
            (zl4 gs0 (cutL j6.2.2.2.1 (j6.2.2.1.length:Int) j6.2.2.1)).bind λr8=>
              bif cutB 0 j6.2.2.2.1 j6.2.2.1.length then
               (zef (cutL 0 j6.2.2.2.1 j6.2.2.1)).bind λr10=>
                 ((
                   bif (!r10.1.2.2.2.1) then
                    some (j6.1,j6.2.1,(r8.1.1,(r10.1.1,(r10.1.2.1,(([]:PV zf),())))),true,())
                   else
                    some (j6.1,j6.2.1,(r8.1.1,(r10.1.1,(r10.1.2.1,(([]:PV zf),())))),(decide (r8.1.1<1)),()):Option ((PV zf×PV zn×PV qh×PV .bool×Unit)))).bind λj12=>
                   bif j12.2.2.2.1 then
                    some (.inr (.inr ([],false,())))
                   else
                    ((
                      bif (decide (j12.2.2.1.1<=3)) then
                       (zl4 j12.1 [46,10]).bind λr14=>
                         bif (decide (r14.1.1<0)) then
                          some (.inr ([],false,()))
                         else
                          bif cutB 0 r14.1.1 j12.1.length then
                           (zt4 (cutL 0 r14.1.1 j12.1)).bind λr15=>
                             bif cutB (IntKind.wrap .i64 (r14.1.1+1)) (j12.1.length:Int) j12.1.length then
                              some (.inl ((cutL (IntKind.wrap .i64 (r14.1.1+1)) (j12.1.length:Int) j12.1),j12.2.1,(j12.2.2.1.1,(j12.2.2.1.2.1,(j12.2.2.1.2.2.1,(r15.1.1,j12.2.2.1.2.2.2.2)))),()))
                             else
                              none
                          else
                           none
                      else
                       some (.inl (j12.1,j12.2.1,j12.2.2.1,())):Option ((PV zf×PV zn×PV qh×Unit)⊕(PV zn×PV .bool×Unit)))).bind λx22=>
                      match x22 with
                      | .inl j16=>
                        bif qw (j16.2.1.length+[j16.2.2.1].length) then
                         some (.inl (j16.1,(j16.2.1++[j16.2.2.1]),()))
                        else
                         none
                      | .inr j17=>
                        some (.inr (.inr (j17.1,j17.2.1,())))
              else
               none
           else
            none
     else
      none
  else
   none
 else
  some (.inr (.inl (t4,())))
def zdr:PV zf×PV zn×Unit->Option ((PV zn×Unit)⊕(PV zn×PV .bool×Unit)):=fix λd=>zea d.1 d.2.1
def z0v:Lp:=⟨⟨[],[0,4,25,26,27,49,50,51],[]⟩,qkw,ql1,λd=>zea d.1 d.2.1⟩
def qnu:Plan:=⟨[(7,ql0),(11,qku),(17,qkv)],[(2,z0v)],0,0⟩
def zju (t0:PV zf):Option (PVs [zn,.bool]×PVs []):=
 (zdr (t0,([]:PV zn),())).bind λx23=>
   match x23 with
   | .inl l20=>
     some ((l20.1,true,()),())
   | .inr l21=>
     some ((l21.1,l21.2.1,()),())
def z2f:Ct:=⟨[(.bor,zf)],[(zn,(.row (.pr .b (.pr .b (.pr .b (.pr (.row .b) .b)))))),(.bool,.b)],λx=>zju x.1⟩
def qnv:Cx:=⟨tab,arrs,[(141,zkm),(142,zt9),(143,zmv),(244,zzp),(245,zzq)],[],gl,[]⟩
theorem qnw:FnOk gl Tryz.prog 202 z2f:=
 fo qnv qnu 0 (oz ⟨znd,z0b,zpy,qid,qie,trivial⟩ trivial) Tryz.func202 (by kernel_rfl) (by kernel_rfl) (by kernel_rfl)
  (ll 1 (by kernel_rfl) (lc z0v (by kernel_rfl) (λd=>by kernel_rfl) trivial)) (λx=>by kernel_rfl)
def ql2:Plan:=⟨[],[],0,0⟩
def zpf (t0:PV .str):Option (PVs [.bool]×PVs []):=
 (zke t0).bind λr1=>
   bif (!r1.1.1) then
    some ((true,()),())
   else
    (zik t0).bind λr2=>
      bif (!r2.1.1) then
       some ((true,()),())
      else
       some (((t0==[46,10]),()),())
def z1g:Ct:=⟨[(.bor,.str)],[(.bool,.b)],λx=>zpf x.1⟩
def ql3:Cx:=⟨tab,arrs,[(157,zpz),(179,zqi)],[],gl,[]⟩
theorem ql4:FnOk gl Tryz.prog 285 z1g:=
 fo ql3 ql2 0 (oz ⟨zvf,zvr,trivial⟩ trivial) Tryz.func285 (by kernel_rfl) (by kernel_rfl) (by kernel_rfl)
  (ll 0 (by kernel_rfl) trivial) (λx=>by kernel_rfl)
def qnx:List Out:=[⟨.normal,⟨[],[1,15,21,22,23,24,32,33,34,35,36,42,43,44,45,46,49,50,51,57,58,59,68,69,70,79,80,81,84,85,86,87,88],[]⟩,mkSh 90 [(1,.var qh .b),(15,.val .bool .b)]⟩]
def qny:List Out:=[⟨.normal,⟨[],[1,3,32,33,34,35,36,42,43,44,45,46,49,50,51,57,58,59,68,69,70,79,80,81,84,85,86,87,88],[]⟩,mkSh 90 [(1,.var qh .b),(3,.val .bool .b)]⟩]
def qj3:Plan:=⟨[],[],1,90⟩
def qi3:List Sh:=mkSh 118 [(1,.var qh .b),(15,.val .bool .b),(16,.addr ⟨1,[.r,.r,.r,.l],0,0⟩),(17,.val zf .b),(18,.val (.int .i64) .b),(19,.val .bool .b),(20,.val .bool .b),(21,.addr ⟨1,[.r,.r,.r,.l],0,0⟩),(22,.val zf .b),(90,.val zf .b),(91,.fn 285 []),(94,.val .bool .b),(95,.val zf .b),(96,.fn 285 []),(99,.val zf .b),(100,.fn 285 []),(106,.val (.int .i64) .b),(107,.val (.int .i64) .b)]
def qjn:List Out:=[⟨.exit 0,⟨[],[],[]⟩,mkSh 118 [(1,.var qh .b),(15,.val .bool .b),(16,.addr ⟨1,[.r,.r,.r,.l],0,0⟩),(17,.val zf .b),(18,.val (.int .i64) .b),(19,.val .bool .b),(20,.val .bool .b),(21,.addr ⟨1,[.r,.r,.r,.l],0,0⟩),(22,.val zf .b),(90,.val zf .b),(91,.fn 285 []),(94,.val .bool .b),(95,.val zf .b),(96,.fn 285 [])]⟩,⟨.ret,⟨[],[4],[]⟩,mkSh 118 [(1,.var qh .b),(15,.val .bool .b),(16,.addr ⟨1,[.r,.r,.r,.l],0,0⟩),(17,.val zf .b),(18,.val (.int .i64) .b),(19,.val .bool .b),(20,.val .bool .b),(21,.addr ⟨1,[.r,.r,.r,.l],0,0⟩),(22,.val zf .b),(90,.val zf .b),(91,.fn 285 []),(94,.val .bool .b),(95,.val zf .b),(96,.fn 285 []),(103,.val (.int .i64) .b)]⟩]
def ze2 (t1:PV qh)(t15:PV .bool)(t17:PV zf)(t18:PV (.int .i64))(t19:PV .bool)(t20:PV .bool)(t22:PV zf)(t90:PV zf)(t94:PV .bool)(t95:PV zf)(t99:PV zf)(t106:PV (.int .i64))(t107:PV (.int .i64)):Option ((PV qh×PV .bool×PV zf×PV (.int .i64)×PV .bool×PV .bool×PV zf×PV zf×PV .bool×PV zf×PV zf×PV (.int .i64)×PV (.int .i64)×Unit)⊕((PV qh×PV .bool×PV zf×PV (.int .i64)×PV .bool×PV .bool×PV zf×PV zf×PV .bool×PV zf×Unit)⊕(PV qh×PV .bool×PV zf×PV (.int .i64)×PV .bool×PV .bool×PV zf×PV zf×PV .bool×PV zf×PV (.int .i64)×Unit))):=
 bif (decide (t107<t106)) then
  bif inB t107 t99.length then
   (zpf (t99.getD t107.toNat [])).bind λr13=>
     bif r13.1.1 then
      some (.inr (.inr (t1,t15,t17,t18,t19,t20,t22,t90,t94,t95,t107,())))
     else
      some (.inl (t1,t15,t17,t18,t19,t20,t22,t90,t94,t95,t99,t106,(IntKind.wrap .i64 (t107+1)),()))
  else
   none
 else
  some (.inr (.inl (t1,t15,t17,t18,t19,t20,t22,t90,t94,t95,())))
def zz7:PV qh×PV .bool×PV zf×PV (.int .i64)×PV .bool×PV .bool×PV zf×PV zf×PV .bool×PV zf×PV zf×PV (.int .i64)×PV (.int .i64)×Unit->Option ((PV qh×PV .bool×PV zf×PV (.int .i64)×PV .bool×PV .bool×PV zf×PV zf×PV .bool×PV zf×Unit)⊕(PV qh×PV .bool×PV zf×PV (.int .i64)×PV .bool×PV .bool×PV zf×PV zf×PV .bool×PV zf×PV (.int .i64)×Unit)):=fix λd=>ze2 d.1 d.2.1 d.2.2.1 d.2.2.2.1 d.2.2.2.2.1 d.2.2.2.2.2.1 d.2.2.2.2.2.2.1 d.2.2.2.2.2.2.2.1 d.2.2.2.2.2.2.2.2.1 d.2.2.2.2.2.2.2.2.2.1 d.2.2.2.2.2.2.2.2.2.2.1 d.2.2.2.2.2.2.2.2.2.2.2.1 d.2.2.2.2.2.2.2.2.2.2.2.2.1
def zzx:Lp:=⟨⟨[],[0,1,7,8],[]⟩,qi3,qjn,λd=>ze2 d.1 d.2.1 d.2.2.1 d.2.2.2.1 d.2.2.2.2.1 d.2.2.2.2.2.1 d.2.2.2.2.2.2.1 d.2.2.2.2.2.2.2.1 d.2.2.2.2.2.2.2.2.1 d.2.2.2.2.2.2.2.2.2.1 d.2.2.2.2.2.2.2.2.2.2.1 d.2.2.2.2.2.2.2.2.2.2.2.1 d.2.2.2.2.2.2.2.2.2.2.2.2.1⟩
def qj4:Plan:=⟨[],[(2,zzx)],0,99⟩
def qpw:Plan:=⟨[(2,qnx),(4,qny)],[],2,0⟩
def zpq (t0:PV qh):Option (PVs [.bool]×PVs []):=
 ((
   (zcd t0.2.1 0 1000).bind λr6=>
     bif (!r6.1.1) then
      some (t0,true,())
     else
      (zcd t0.2.2.1 t0.2.1 1000).bind λr7=>
        some (t0,(!r7.1.1),()):Option ((PV qh×PV .bool×Unit)))).bind λj8=>
   bif j8.2.1 then
    some ((false,()),())
   else
    ((
      (zcd (j8.1.2.2.2.1.length:Int) 1 40).bind λr18=>
        bif r18.1.1 then
         (zz7 (j8.1,j8.2.1,j8.1.2.2.2.1,(j8.1.2.2.2.1.length:Int),r18.1.1,true,j8.1.2.2.2.1,j8.1.2.2.2.1,false,j8.1.2.2.2.1,j8.1.2.2.2.1,(j8.1.2.2.2.1.length:Int),0,())).bind λx24=>
           match x24 with
           | .inl l21=>
             bif l21.2.2.2.2.2.1 then
              some (l21.1,(!(decide ((-1)>=0))),())
             else
              some (l21.1,false,())
           | .inr l22=>
             bif l22.2.2.2.2.2.1 then
              some (l22.1,(!(decide (l22.2.2.2.2.2.2.2.2.2.2.1>=0))),())
             else
              some (l22.1,false,())
        else
         some (j8.1,false,()):Option ((PV qh×PV .bool×Unit)))).bind λj23=>
      bif (j23.1.1==1) then
       bif j23.2.1 then
        some (((j23.1.2.2.1==j23.1.2.1),()),())
       else
        some ((false,()),())
      else
       bif (j23.1.1==2) then
        bif j23.2.1 then
         bif (j23.1.2.2.1==j23.1.2.1) then
          some (((decide (j23.1.2.1>=1)),()),())
         else
          some ((false,()),())
        else
         some ((false,()),())
       else
        bif (j23.1.1==3) then
         bif j23.2.1 then
          some (((decide (j23.1.2.1>=1)),()),())
         else
          some ((false,()),())
        else
         bif (j23.1.1==4) then
          bif ((j23.1.2.2.2.1.length:Int)==0) then
           some (((decide (j23.1.2.1>=1)),()),())
          else
           some ((false,()),())
         else
          bif (j23.1.1==5) then
           bif ((j23.1.2.2.2.1.length:Int)==0) then
            bif (decide (j23.1.2.1>=1)) then
             some (((j23.1.2.2.1==j23.1.2.1),()),())
            else
             some ((false,()),())
           else
            some ((false,()),())
          else
           some ((false,()),())
def z3f:Ct:=⟨[(.bor,qh)],[(.bool,.b)],λx=>zpq x.1⟩
def qpx:Cx:=⟨tab,arrs,[(131,zlj),(285,z1g)],[(224,Tryz.f224,qj3),(264,Tryz.f264,qj4)],gl,[]⟩
theorem qpy:FnOk gl Tryz.prog 272 z3f:=
 fo qpx qpw 2 (oz ⟨zoi,ql4,trivial⟩ ⟨⟨Tryz.func224,by kernel_rfl,(ll 0 (by kernel_rfl) trivial)⟩,⟨Tryz.func264,by kernel_rfl,(ll 1 (by kernel_rfl) (lc zzx (by kernel_rfl) (λd=>by kernel_rfl) trivial))⟩,trivial⟩) Tryz.func272 (by kernel_rfl) (by kernel_rfl) (by kernel_rfl)
  (ll 0 (by kernel_rfl) trivial) (λx=>by kernel_rfl)
def qkx:Plan:=⟨[],[],0,0⟩
def zpd (t0:PV qh):Option (PVs [.bool]×PVs []):=
 (zpq t0).bind λr1=>
   some (((!r1.1.1),()),())
def z0w:Ct:=⟨[(.bor,qh)],[(.bool,.b)],λx=>zpd x.1⟩
def qky:Cx:=⟨tab,arrs,[(272,z3f)],[],gl,[]⟩
theorem qkz:FnOk gl Tryz.prog 271 z0w:=
 fo qky qkx 0 (oz ⟨qpy,trivial⟩ trivial) Tryz.func271 (by kernel_rfl) (by kernel_rfl) (by kernel_rfl)
  (ll 0 (by kernel_rfl) trivial) (λx=>by kernel_rfl)
def qjo:Plan:=⟨[],[],1,11⟩
def qim:List Sh:=mkSh 39 [(0,.val zn .b),(2,.val .bool .b),(3,.val zn .b),(4,.val (.int .i64) .b),(5,.val .bool .b),(6,.val .bool .b),(7,.val zn .b),(11,.val zn .b),(12,.fn 271 []),(15,.val .bool .b),(16,.val zn .b),(17,.fn 271 []),(20,.val zn .b),(21,.fn 271 []),(27,.val (.int .i64) .b),(28,.val (.int .i64) .b)]
def qi4:List Out:=[⟨.exit 0,⟨[],[],[]⟩,mkSh 39 [(0,.val zn .b),(2,.val .bool .b),(3,.val zn .b),(4,.val (.int .i64) .b),(5,.val .bool .b),(6,.val .bool .b),(7,.val zn .b),(11,.val zn .b),(12,.fn 271 []),(15,.val .bool .b),(16,.val zn .b),(17,.fn 271 [])]⟩,⟨.ret,⟨[],[4],[]⟩,mkSh 39 [(0,.val zn .b),(2,.val .bool .b),(3,.val zn .b),(4,.val (.int .i64) .b),(5,.val .bool .b),(6,.val .bool .b),(7,.val zn .b),(11,.val zn .b),(12,.fn 271 []),(15,.val .bool .b),(16,.val zn .b),(17,.fn 271 []),(24,.val (.int .i64) .b)]⟩]
def ze0 (t0:PV zn)(t2:PV .bool)(t3:PV zn)(t4:PV (.int .i64))(t5:PV .bool)(t6:PV .bool)(t7:PV zn)(t11:PV zn)(t15:PV .bool)(t16:PV zn)(t20:PV zn)(t27:PV (.int .i64))(t28:PV (.int .i64)):Option ((PV zn×PV .bool×PV zn×PV (.int .i64)×PV .bool×PV .bool×PV zn×PV zn×PV .bool×PV zn×PV zn×PV (.int .i64)×PV (.int .i64)×Unit)⊕((PV zn×PV .bool×PV zn×PV (.int .i64)×PV .bool×PV .bool×PV zn×PV zn×PV .bool×PV zn×Unit)⊕(PV zn×PV .bool×PV zn×PV (.int .i64)×PV .bool×PV .bool×PV zn×PV zn×PV .bool×PV zn×PV (.int .i64)×Unit))):=
 bif (decide (t28<t27)) then
  bif inB t28 t20.length then
   (zpd (t20.getD t28.toNat (dflt qh))).bind λr4=>
     bif r4.1.1 then
      some (.inr (.inr (t0,t2,t3,t4,t5,t6,t7,t11,t15,t16,t28,())))
     else
      some (.inl (t0,t2,t3,t4,t5,t6,t7,t11,t15,t16,t20,t27,(IntKind.wrap .i64 (t28+1)),()))
  else
   none
 else
  some (.inr (.inl (t0,t2,t3,t4,t5,t6,t7,t11,t15,t16,())))
def zzw:PV zn×PV .bool×PV zn×PV (.int .i64)×PV .bool×PV .bool×PV zn×PV zn×PV .bool×PV zn×PV zn×PV (.int .i64)×PV (.int .i64)×Unit->Option ((PV zn×PV .bool×PV zn×PV (.int .i64)×PV .bool×PV .bool×PV zn×PV zn×PV .bool×PV zn×Unit)⊕(PV zn×PV .bool×PV zn×PV (.int .i64)×PV .bool×PV .bool×PV zn×PV zn×PV .bool×PV zn×PV (.int .i64)×Unit)):=fix λd=>ze0 d.1 d.2.1 d.2.2.1 d.2.2.2.1 d.2.2.2.2.1 d.2.2.2.2.2.1 d.2.2.2.2.2.2.1 d.2.2.2.2.2.2.2.1 d.2.2.2.2.2.2.2.2.1 d.2.2.2.2.2.2.2.2.2.1 d.2.2.2.2.2.2.2.2.2.2.1 d.2.2.2.2.2.2.2.2.2.2.2.1 d.2.2.2.2.2.2.2.2.2.2.2.2.1
def zzr:Lp:=⟨⟨[],[0,1,7,8],[]⟩,qim,qi4,λd=>ze0 d.1 d.2.1 d.2.2.1 d.2.2.2.1 d.2.2.2.2.1 d.2.2.2.2.2.1 d.2.2.2.2.2.2.1 d.2.2.2.2.2.2.2.1 d.2.2.2.2.2.2.2.2.1 d.2.2.2.2.2.2.2.2.2.1 d.2.2.2.2.2.2.2.2.2.2.1 d.2.2.2.2.2.2.2.2.2.2.2.1 d.2.2.2.2.2.2.2.2.2.2.2.2.1⟩
def qjp:Plan:=⟨[],[(2,zzr)],0,20⟩
def qnz:Plan:=⟨[],[],2,0⟩
def zpi (t0:PV zn):Option (PVs [.bool]×PVs []):=
 bif (decide ((t0.length:Int)<=60)) then
  (zzw (t0,false,t0,(t0.length:Int),(decide ((t0.length:Int)<=60)),true,t0,t0,false,t0,t0,(t0.length:Int),0,())).bind λx9=>
    match x9 with
    | .inl l7=>
      bif l7.2.2.2.2.2.1 then
       some (((!(decide ((-1)>=0))),()),())
      else
       some ((false,()),())
    | .inr l8=>
      bif l8.2.2.2.2.2.1 then
       some (((!(decide (l8.2.2.2.2.2.2.2.2.2.2.1>=0))),()),())
      else
       some ((false,()),())
 else
  some ((false,()),())
def z2g:Ct:=⟨[(.bor,zn)],[(.bool,.b)],λx=>zpi x.1⟩
def qn0:Cx:=⟨tab,arrs,[(271,z0w)],[(270,Tryz.f270,qjo),(284,Tryz.f284,qjp)],gl,[]⟩
theorem qn1:FnOk gl Tryz.prog 246 z2g:=
 fo qn0 qnz 2 (oz ⟨qkz,trivial⟩ ⟨⟨Tryz.func270,by kernel_rfl,(ll 0 (by kernel_rfl) trivial)⟩,⟨Tryz.func284,by kernel_rfl,(ll 1 (by kernel_rfl) (lc zzr (by kernel_rfl) (λd=>by kernel_rfl) trivial))⟩,trivial⟩) Tryz.func246 (by kernel_rfl) (by kernel_rfl) (by kernel_rfl)
  (ll 0 (by kernel_rfl) trivial) (λx=>by kernel_rfl)
def qk0:List Out:=[⟨.normal,⟨[],[4,10,11,12],[]⟩,mkSh 44 [(4,.val .str .b),(10,.val zn .b),(11,.val (.int .i64) .b),(12,.val (.int .i64) .b)]⟩]
def qk1:List Sh:=mkSh 44 [(4,.val .str .b),(10,.val zn .b),(11,.val (.int .i64) .b),(12,.val (.int .i64) .b)]
def ql5:List Out:=[⟨.exit 0,⟨[],[4],[]⟩,mkSh 44 [(4,.val .str .b)]⟩]
def zho (t4:PV .str)(t10:PV zn)(t11:PV (.int .i64))(t12:PV (.int .i64)):Option ((PV .str×PV zn×PV (.int .i64)×PV (.int .i64)×Unit)⊕((PV .str×Unit))):=
 bif (decide (t12<t11)) then
  ((
    bif inB t12 t10.length then
     (zdx (((t10.getD t12.toNat (dflt qh)).2).1) ((((t10.getD t12.toNat (dflt qh)).2).2).1)).bind λr7=>
       bif inB ((t10.getD t12.toNat (dflt qh)).1) gs0.length then
        bif decide (r7.1.1.length+(gs0.getD ((t10.getD t12.toNat (dflt qh)).1).toNat []).length<=1099511627776) then
         bif decide ((r7.1.1++(gs0.getD ((t10.getD t12.toNat (dflt qh)).1).toNat [])).length+[10].length<=1099511627776) then
          (zpj (((((t10.getD t12.toNat (dflt qh)).2).2).2).1) []).bind λr8=>
            bif decide (((r7.1.1++(gs0.getD ((t10.getD t12.toNat (dflt qh)).1).toNat []))++[10]).length+r8.1.1.length<=1099511627776) then
             bif decide (t4.length+(((r7.1.1++(gs0.getD ((t10.getD t12.toNat (dflt qh)).1).toNat []))++[10])++r8.1.1).length<=1099511627776) then
              bif (decide (((((((t10.getD t12.toNat (dflt qh)).2).2).2).1).length:Int)>0)) then
               bif decide ((t4++(((r7.1.1++(gs0.getD ((t10.getD t12.toNat (dflt qh)).1).toNat []))++[10])++r8.1.1)).length+[46,10].length<=1099511627776) then
                some (((t4++(((r7.1.1++(gs0.getD ((t10.getD t12.toNat (dflt qh)).1).toNat []))++[10])++r8.1.1))++[46,10]),t10,t11,t12,())
               else
                none
              else
               some ((t4++(((r7.1.1++(gs0.getD ((t10.getD t12.toNat (dflt qh)).1).toNat []))++[10])++r8.1.1)),t10,t11,t12,())
             else
              none
            else
             none
         else
          none
        else
         none
       else
        none
    else
     none:Option ((PV .str×PV zn×PV (.int .i64)×PV (.int .i64)×Unit)))).bind λj9=>
    some (.inl (j9.1,j9.2.1,j9.2.2.1,(IntKind.wrap .i64 (j9.2.2.2.1+1)),()))
 else
  some (.inr (t4,()))
def zuh:PV .str×PV zn×PV (.int .i64)×PV (.int .i64)×Unit->Option ((PV .str×Unit)):=fix λd=>zho d.1 d.2.1 d.2.2.1 d.2.2.2.1
def z0x:Lp:=⟨⟨[],[4,10,11,12],[]⟩,qk1,ql5,λd=>zho d.1 d.2.1 d.2.2.1 d.2.2.2.1⟩
def qn2:Plan:=⟨[(10,qk0)],[(5,z0x)],0,0⟩
def zpk (t0:PV zn):Option (PVs [.str,.bool]×PVs []):=
 (zpi t0).bind λr4=>
   bif (!r4.1.1) then
    some (([],false,()),())
   else
    (zuh ([],t0,(t0.length:Int),0,())).bind λl11=>
      (zix l11.1).bind λr12=>
        some ((r12.1.1,r12.1.2.1,()),())
def z2h:Ct:=⟨[(.bor,zn)],[(.str,.b),(.bool,.b)],λx=>zpk x.1⟩
def qn3:Cx:=⟨tab,arrs,[(71,zrf),(136,zqh),(246,z2g),(247,z2i)],[],gl,[]⟩
theorem qn4:FnOk gl Tryz.prog 203 z2h:=
 fo qn3 qn2 0 (oz ⟨zwa,zvq,qn1,qn5,trivial⟩ trivial) Tryz.func203 (by kernel_rfl) (by kernel_rfl) (by kernel_rfl)
  (ll 1 (by kernel_rfl) (lc z0x (by kernel_rfl) (λd=>by kernel_rfl) trivial)) (λx=>by kernel_rfl)
def ql6:List Out:=[⟨.normal,⟨[],[5,31],[]⟩,mkSh 33 [(5,.val zn (.row (.pr .b (.pr .b (.pr .b (.pr (.row .b) .b)))))),(31,.val .bool .b)]⟩]
def ql7:List Out:=[⟨.normal,⟨[],[],[]⟩,mkSh 33 []⟩,⟨.ret,⟨[],[2,3,4],[]⟩,mkSh 33 [(2,.val zn (.row (.pr .b (.pr .b (.pr .b (.pr (.row .b) .b)))))),(3,.val (.int .i64) .b),(4,.val .bool .b)]⟩]
def qn6:Plan:=⟨[(5,ql6),(6,ql7)],[],0,0⟩
def zmf (t0:PV .str):Option (PVs [zn,(.int .i64),.bool]×PVs []):=
 ((
   bif (decide ((t0.length:Int)<=3000)) then
    (zin t0).bind λr10=>
      (zju r10.1.1).bind λr11=>
        (zpk r11.1.1).bind λr13=>
          ((
            bif r11.1.2.1 then
             bif r13.1.2.1 then
              some (r11.1.1,(r13.1.1==t0),())
             else
              some (r11.1.1,false,())
            else
             some (r11.1.1,false,()):Option ((PV zn×PV .bool×Unit)))).bind λj14=>
            bif j14.2.1 then
             some (.inr (j14.1,0,true,()))
            else
             some (.inl ())
   else
    some (.inl ()):Option ((Unit)⊕(PV zn×PV (.int .i64)×PV .bool×Unit)))).bind λx17=>
   match x17 with
   | .inl j15=>
     some (([],1,false,()),())
   | .inr j16=>
     some ((j16.1,j16.2.1,j16.2.2.1,()),())
def z2j:Ct:=⟨[(.bor,.str)],[(zn,(.row (.pr .b (.pr .b (.pr .b (.pr (.row .b) .b)))))),((.int .i64),.b),(.bool,.b)],λx=>zmf x.1⟩
def qn7:Cx:=⟨tab,arrs,[(75,zmu),(202,z2f),(203,z2h)],[],gl,[]⟩
theorem qn8:FnOk gl Tryz.prog 132 z2j:=
 fo qn7 qn6 0 (oz ⟨zpx,qnw,qn4,trivial⟩ trivial) Tryz.func132 (by kernel_rfl) (by kernel_rfl) (by kernel_rfl)
  (ll 0 (by kernel_rfl) trivial) (λx=>by kernel_rfl)
def qpz:List Out:=[⟨.normal,⟨[],[5],[]⟩,mkSh 40 [(5,.val .bool .b)]⟩]
def qvi:Plan:=⟨[(11,qpz)],[],0,0⟩
def zqg (t0:PV (.int .i64))(t1:PV .str):Option (PVs [.bool]×PVs []):=
 ((
   bif (t0==1) then
    (zmh t1).bind λr5=>
      some (r5.1.2.2.1,())
   else
    bif (t0==2) then
     (zmb t1).bind λr6=>
       some (r6.1.2.2.1,())
    else
     bif (t0==3) then
      (zl9 t1).bind λr7=>
        some (r7.1.2.2.1,())
     else
      bif (t0==4) then
       (zmf t1).bind λr8=>
         some (r8.1.2.2.1,())
      else
       some (false,()):Option ((PV .bool×Unit)))).bind λj9=>
   some ((j9.1,()),())
def z6u:Ct:=⟨[(.bor,(.int .i64)),(.bor,.str)],[(.bool,.b)],λx=>zqg x.1 x.2.1⟩
def qvj:Cx:=⟨tab,arrs,[(30,z2k),(36,z1h),(48,z1f),(132,z2j)],[],gl,[]⟩
theorem qvk:FnOk gl Tryz.prog 67 z6u:=
 fo qvj qvi 0 (oz ⟨qn9,ql8,qlz,qn8,trivial⟩ trivial) Tryz.func67 (by kernel_rfl) (by kernel_rfl) (by kernel_rfl)
  (ll 0 (by kernel_rfl) trivial) (λx=>by kernel_rfl)
def qvl:List Out:=[⟨.normal,⟨[],[0,4,5],[]⟩,mkSh 22 [(0,.val .str .b),(4,.val qm (.row .b)),(5,.val (.int .i64) .b)]⟩]
def qr3:List Sh:=mkSh 22 [(0,.val .str .b),(4,.val qm (.row .b)),(5,.val (.int .i64) .b)]
def qvm:List Out:=[⟨.exit 0,⟨[],[4],[]⟩,mkSh 22 [(4,.val qm (.row .b))]⟩]
def zih (t0:PV .str)(t4:PV qm)(t5:PV (.int .i64)):Option ((PV .str×PV qm×PV (.int .i64)×Unit)⊕((PV qm×Unit))):=
 bif (decide (t5<=4)) then
  ((
    (zqg t5 t0).bind λr2=>
      bif r2.1.1 then
       bif qw (t4.length+[t5].length) then
        some (t0,(t4++[t5]),t5,())
       else
        none
      else
       some (t0,t4,t5,()):Option ((PV .str×PV qm×PV (.int .i64)×Unit)))).bind λj3=>
    some (.inl (j3.1,j3.2.1,(IntKind.wrap .i64 (j3.2.2.1+1)),()))
 else
  some (.inr (t4,()))
def zvd:PV .str×PV qm×PV (.int .i64)×Unit->Option ((PV qm×Unit)):=fix λd=>zih d.1 d.2.1 d.2.2.1
def z4o:Lp:=⟨⟨[],[0,4,5],[]⟩,qr3,qvm,λd=>zih d.1 d.2.1 d.2.2.1⟩
def qy0:Plan:=⟨[(6,qvl)],[(5,z4o)],0,0⟩
def znc (t0:PV .str):Option (PVs [qm,.bool]×PVs []):=
 bif (decide ((t0.length:Int)>3000)) then
  some (([],false,()),())
 else
  (zvd (t0,([]:PV qm),1,())).bind λl5=>
    some ((l5.1,true,()),())
def z8e:Ct:=⟨[(.bor,.str)],[(qm,(.row .b)),(.bool,.b)],λx=>znc x.1⟩
def qy1:Cx:=⟨tab,arrs,[(67,z6u)],[],gl,[]⟩
theorem qy2:FnOk gl Tryz.prog 21 z8e:=
 fo qy1 qy0 0 (oz ⟨qvk,trivial⟩ trivial) Tryz.func21 (by kernel_rfl) (by kernel_rfl) (by kernel_rfl)
  (ll 1 (by kernel_rfl) (lc z4o (by kernel_rfl) (λd=>by kernel_rfl) trivial)) (λx=>by kernel_rfl)
def qr4:List Sh:=mkSh 26 [(0,.val qm .b),(1,.val qm .b),(5,.val (.int .i64) .b)]
def qvn:List Out:=[⟨.exit 0,⟨[],[],[]⟩,mkSh 26 []⟩,⟨.ret,⟨[],[4],[]⟩,mkSh 26 [(4,.val .bool .b)]⟩]
def zij (t0:PV qm)(t1:PV qm)(t5:PV (.int .i64)):Option ((PV qm×PV qm×PV (.int .i64)×Unit)⊕((Unit)⊕(PV .bool×Unit))):=
 bif (decide (t5<(t0.length:Int))) then
  bif inB t5 t0.length then
   bif inB t5 t1.length then
    bif (!((t0.getD t5.toNat (0:Int))==(t1.getD t5.toNat (0:Int)))) then
     some (.inr (.inr (false,())))
    else
     some (.inl (t0,t1,(IntKind.wrap .i64 (t5+1)),()))
   else
    none
  else
   none
 else
  some (.inr (.inl ()))
def z6v:PV qm×PV qm×PV (.int .i64)×Unit->Option ((Unit)⊕(PV .bool×Unit)):=fix λd=>zij d.1 d.2.1 d.2.2.1
def z4p:Lp:=⟨⟨[],[0,1,5],[]⟩,qr4,qvn,λd=>zij d.1 d.2.1 d.2.2.1⟩
def qy3:Plan:=⟨[],[(4,z4p)],0,0⟩
def zne (t0:PV qm)(t1:PV qm):Option (PVs [.bool]×PVs []):=
 bif (!((t0.length:Int)==(t1.length:Int))) then
  some ((false,()),())
 else
  (z6v (t0,t1,0,())).bind λx5=>
    match x5 with
    | .inl l3=>
      some ((true,()),())
    | .inr l4=>
      some ((l4.1,()),())
def z8f:Ct:=⟨[(.bor,qm),(.bor,qm)],[(.bool,.b)],λx=>zne x.1 x.2.1⟩
def qy4:Cx:=⟨tab,arrs,[],[],gl,[]⟩
theorem qy5:FnOk gl Tryz.prog 22 z8f:=
 fo qy4 qy3 0 (oz trivial trivial) Tryz.func22 (by kernel_rfl) (by kernel_rfl) (by kernel_rfl)
  (ll 1 (by kernel_rfl) (lc z4p (by kernel_rfl) (λd=>by kernel_rfl) trivial)) (λx=>by kernel_rfl)
def qoa:List Sh:=mkSh 20 [(0,.val qm (.row .b)),(1,.sub ⟨0,[],0,0⟩),(2,.val (.int .i64) .b),(6,.val (.int .i64) .b)]
def qp0:List Out:=[⟨.exit 0,⟨[],[1],[]⟩,mkSh 20 [(0,.val qm (.row .b)),(2,.val (.int .i64) .b)]⟩]
def zhx (t0:PV qm)(t2:PV (.int .i64))(t6:PV (.int .i64)):Option ((PV qm×PV (.int .i64)×PV (.int .i64)×Unit)⊕((PV qm×PV (.int .i64)×Unit))):=
 bif (decide (t6<(t0.length:Int))) then
  bif inB t6 t0.length then
   some (.inl ((t0.set t6.toNat t2),(IntKind.wrap .i64 (t2+1)),(IntKind.wrap .i64 (t6+1)),()))
  else
   none
 else
  some (.inr (t0,t2,()))
def z3g:PV qm×PV (.int .i64)×PV (.int .i64)×Unit->Option ((PV qm×PV (.int .i64)×Unit)):=fix λd=>zhx d.1 d.2.1 d.2.2.1
def z2l:Lp:=⟨⟨[],[0,1,5],[]⟩,qoa,qp0,λd=>zhx d.1 d.2.1 d.2.2.1⟩
def qr5:Plan:=⟨[],[(2,z2l)],0,1⟩
def zp0 (t0:PV qm)(t1:PV (.int .i64)):Option (PVs [(.int .i64)]×PVs [qm]):=
 (z3g (t0,t1,0,())).bind λl2=>
   some ((l2.2.1,()),(l2.1,()))
def z4q:Ct:=⟨[(.mut,qm),(.bor,(.int .i64))],[((.int .i64),.b)],λx=>zp0 x.1 x.2.1⟩
def qr6:Cx:=⟨tab,arrs,[],[],gl,[]⟩
theorem qr7:FnOk gl Tryz.prog 23 z4q:=
 fo qr6 qr5 0 (oz trivial trivial) Tryz.func23 (by kernel_rfl) (by kernel_rfl) (by kernel_rfl)
  (ll 1 (by kernel_rfl) (lc z2l (by kernel_rfl) (λd=>by kernel_rfl) trivial)) (λx=>by kernel_rfl)
def qob:List Sh:=mkSh 21 [(0,.val qm .b),(1,.val (.int .i64) .b),(5,.val (.int .i64) .b)]
def qp1:List Out:=[⟨.exit 0,⟨[],[1],[]⟩,mkSh 21 [(1,.val (.int .i64) .b)]⟩,⟨.ret,⟨[],[4],[]⟩,mkSh 21 [(4,.val (.int .i64) .b)]⟩]
def zhy (t0:PV qm)(t1:PV (.int .i64))(t5:PV (.int .i64)):Option ((PV qm×PV (.int .i64)×PV (.int .i64)×Unit)⊕((PV (.int .i64)×Unit)⊕(PV (.int .i64)×Unit))):=
 bif (decide (t5<(t0.length:Int))) then
  bif inB t5 t0.length then
   bif (!((t0.getD t5.toNat (0:Int))==t1)) then
    some (.inr (.inr ((-1),())))
   else
    some (.inl (t0,(IntKind.wrap .i64 (t1+1)),(IntKind.wrap .i64 (t5+1)),()))
  else
   none
 else
  some (.inr (.inl (t1,())))
def z3h:PV qm×PV (.int .i64)×PV (.int .i64)×Unit->Option ((PV (.int .i64)×Unit)⊕(PV (.int .i64)×Unit)):=fix λd=>zhy d.1 d.2.1 d.2.2.1
def z2m:Lp:=⟨⟨[],[0,1,5],[]⟩,qob,qp1,λd=>zhy d.1 d.2.1 d.2.2.1⟩
def qr8:Plan:=⟨[],[(2,z2m)],0,0⟩
def zmw (t0:PV qm)(t1:PV (.int .i64)):Option (PVs [(.int .i64)]×PVs []):=
 (z3h (t0,t1,0,())).bind λx5=>
   match x5 with
   | .inl l3=>
     some ((l3.1,()),())
   | .inr l4=>
     some ((l4.1,()),())
def z4r:Ct:=⟨[(.bor,qm),(.bor,(.int .i64))],[((.int .i64),.b)],λx=>zmw x.1 x.2.1⟩
def qr9:Cx:=⟨tab,arrs,[],[],gl,[]⟩
theorem qsa:FnOk gl Tryz.prog 24 z4r:=
 fo qr9 qr8 0 (oz trivial trivial) Tryz.func24 (by kernel_rfl) (by kernel_rfl) (by kernel_rfl)
  (ll 1 (by kernel_rfl) (lc z2m (by kernel_rfl) (λd=>by kernel_rfl) trivial)) (λx=>by kernel_rfl)
def qjq:List Out:=[⟨.normal,⟨[],[0,3,4,5,32,54,55,56],[]⟩,mkSh 66 [(0,.val .str .b),(3,.val qm (.row .b)),(4,.val .bool .b),(5,.val qm (.row .b)),(32,.val .bool .b)]⟩]
def qi5:List Out:=[⟨.normal,⟨[],[5,7,57],[]⟩,mkSh 66 [(5,.val qm (.row .b)),(7,.val (.int .i64) .b),(57,.val .bool .b)]⟩]
def qj5:Plan:=⟨[(6,qjq),(17,qi5)],[],0,0⟩
def zuf (t0:PV .str):Option (PVs [.bool]×PVs []):=
 bif (decide ((t0.length:Int)>1048576)) then
  some ((true,()),())
 else
  (zrd t0).bind λr2=>
    (znc t0).bind λr4=>
      ((
        (zne r4.1.1 r2.1.1).bind λr8=>
          bif (!r8.1.1) then
           some (t0,r2.1.1,r2.1.2.1,r4.1.1,true,())
          else
           some (t0,r2.1.1,r2.1.2.1,r4.1.1,(!(r4.1.2.1==r2.1.2.1)),()):Option ((PV .str×PV qm×PV .bool×PV qm×PV .bool×Unit)))).bind λj9=>
        bif j9.2.2.2.2.1 then
         some ((false,()),())
        else
         (zp0 j9.2.2.2.1 1).bind λr11=>
           (zmw r11.2.1 1).bind λr13=>
             bif (decide (r13.1.1<0)) then
              some ((false,()),())
             else
              bif (!(r13.1.1==r11.1.1)) then
               some ((false,()),())
              else
               (znc j9.1).bind λr15=>
                 ((
                   (zne r15.1.1 j9.2.1).bind λr19=>
                     bif (!r19.1.1) then
                      some (r11.2.1,r11.1.1,true,())
                     else
                      some (r11.2.1,r11.1.1,(!(r15.1.2.1==j9.2.2.1)),()):Option ((PV qm×PV (.int .i64)×PV .bool×Unit)))).bind λj20=>
                   bif j20.2.2.1 then
                    some ((false,()),())
                   else
                    (zmw j20.1 1).bind λr22=>
                      bif (decide (r22.1.1<0)) then
                       some ((false,()),())
                      else
                       bif (!(r22.1.1==j20.2.1)) then
                        some ((false,()),())
                       else
                        some ((true,()),())
def qj6:Ct:=⟨[(.bor,.str)],[(.bool,.b)],λx=>zuf x.1⟩
def qj7:Cx:=⟨tab,arrs,[(20,z8g),(21,z8e),(22,z8f),(23,z4q),(24,z4r)],[],gl,[]⟩
theorem qjz:FnOk gl Tryz.prog 5 qj6:=
 fo qj7 qj5 0 (oz ⟨qy6,qy2,qy5,qr7,qsa,trivial⟩ trivial) Tryz.func5 (by kernel_rfl) (by kernel_rfl) (by kernel_rfl)
  (ll 0 (by kernel_rfl) trivial) (λx=>by kernel_rfl)
end
end R
