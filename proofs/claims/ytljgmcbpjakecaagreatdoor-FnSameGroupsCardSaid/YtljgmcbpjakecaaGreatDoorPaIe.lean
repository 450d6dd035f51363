/- The functions, part 4. -/
import Derived.Test.YtljgmcbpjakecaaGreatDoorPaIe3
set_option linter.unusedVariables false
open Go Go.Dn Go.Proofs
namespace R
set_option maxRecDepth 20000
open Go.Shelf
noncomputable section
def qko:List Out:=[⟨.normal,⟨[],[3],[]⟩,mkSh 27 [(0,.var qh .b),(4,.val zf (.row .b))]⟩]
def qiu:Plan:=⟨[],[],0,27⟩
def qjk:List Sh:=mkSh 27 [(0,.var qh .b),(1,.addr ⟨0,[],0,0⟩),(4,.val zf (.row .b)),(5,.val (.int .i64) .b)]
def qkp:List Out:=[⟨.exit 0,⟨[],[0,3],[]⟩,mkSh 27 [(0,.var qh .b),(1,.addr ⟨0,[],0,0⟩),(4,.val zf (.row .b))]⟩]
def zft (t0:PV qh)(t4:PV zf)(t5:PV (.int .i64)):Option ((PV qh×PV zf×PV (.int .i64)×Unit)⊕((PV qh×PV zf×Unit))):=
 bif (decide (t5>0)) then
  (zjb t0).bind λr4=>
    bif decide (r4.1.1.length+[10].length<=1099511627776) then
     bif qm (t4.length+[(r4.1.1++[10])].length) then
      some (.inl (r4.2.1,(t4++[(r4.1.1++[10])]),(IntKind.wrap .i64 (t5 -1)),()))
     else
      none
    else
     none
 else
  some (.inr (t0,t4,()))
def zzk:PV qh×PV zf×PV (.int .i64)×Unit->Option ((PV qh×PV zf×Unit)):=fix λd=>zft d.1 d.2.1 d.2.2.1
def zy9:Lp:=⟨⟨[],[0,3,4],[]⟩,qjk,qkp,λd=>zft d.1 d.2.1 d.2.2.1⟩
def qmn:Plan:=⟨[(8,qko)],[(3,zy9)],1,1⟩
def zoi (t0:PV qh):Option (PVs [zf]×PVs [qh]):=
 (zau t0 9).bind λr7=>
   (zzk (r7.2.1,[],r7.1.1,())).bind λl8=>
     ((
       (zlq l8.1 5).bind λr13=>
         bif r13.1.1 then
          (zau r13.2.1 ([[97],[101,110,100],[46]].length:Int)).bind λr14=>
            bif inB r14.1.1 [[97],[101,110,100],[46]].length then
             bif qm (l8.2.1.length+[([[97],[101,110,100],[46]].getD r14.1.1.toNat [])].length) then
              some (r14.2.1,(l8.2.1++[([[97],[101,110,100],[46]].getD r14.1.1.toNat [])]),())
             else
              none
            else
             none
         else
          some (r13.2.1,l8.2.1,()):Option ((PV qh×PV zf×Unit)))).bind λj15=>
       some ((j15.2.1,()),(j15.1,()))
def z0c:Ct:=⟨[(.ptr,qh)],[(zf,.b)],λx=>zoi x.1⟩
def qmo:Cx:=⟨tab,arrs,[(61,zdq),(105,zsp),(120,zoc)],[(78,Tryz.f78,qiu)],gl,[]⟩
theorem qmp:FnOk gl Tryz.prog 59 z0c:=
 fo qmo qmn 1 (oz ⟨zel,z1a,zsj,trivial⟩ ⟨⟨Tryz.func78,by kernel_rfl,(ll 0 (by kernel_rfl) trivial)⟩,trivial⟩) Tryz.func59 (by kernel_rfl) (by kernel_rfl) (by kernel_rfl)
  (ll 1 (by kernel_rfl) (lc zy9 (by kernel_rfl) (λd=>by kernel_rfl) trivial)) (λx=>by kernel_rfl)
def qqu:List Out:=[⟨.normal,⟨[],[5],[]⟩,mkSh 18 [(5,.val .str .b)]⟩]
def qts:Plan:=⟨[(4,qqu)],[],0,0⟩
def ze5 (t0:PV (.int .i64))(t1:PV (.int .i64)):Option (PVs [.str]×PVs []):=
 (zlu t0 t1).bind λr3=>
   (zie r3.1.1).bind λr4=>
     ((
       bif (!(t1==1)) then
        (zie t1).bind λr6=>
          bif decide ([44].length+r6.1.1.length<=1099511627776) then
           bif decide (r4.1.1.length+([44]++r6.1.1).length<=1099511627776) then
            some ((r4.1.1++([44]++r6.1.1)),())
           else
            none
          else
           none
       else
        some (r4.1.1,()):Option ((PV .str×Unit)))).bind λj7=>
       some ((j7.1,()),())
def zte:Ct:=⟨[(.bor,(.int .i64)),(.bor,(.int .i64))],[(.str,.b)],λx=>ze5 x.1 x.2.1⟩
def qtt:Cx:=⟨tab,arrs,[(196,zuf),(197,zsv)],[],gl,[]⟩
theorem z4h:FnOk gl Tryz.prog 126 zte:=
 fo qtt qts 0 (oz ⟨z8a,z2j,trivial⟩ trivial) Tryz.func126 (by kernel_rfl) (by kernel_rfl) (by kernel_rfl)
  (ll 0 (by kernel_rfl) trivial) (λx=>by kernel_rfl)
def qxi:Plan:=⟨[],[],0,0⟩
def zpi (t0:PV (.int .i64)):Option (PVs [.str]×PVs []):=
 bif cutB t0 (IntKind.wrap .i64 (t0+1)) [63,32,45,43].length then
  some (((cutL t0 (IntKind.wrap .i64 (t0+1)) [63,32,45,43]),()),())
 else
  none
def z6e:Ct:=⟨[(.bor,(.int .i64))],[(.str,.b)],λx=>zpi x.1⟩
def qxj:Cx:=⟨tab,arrs,[],[],gl,[]⟩
theorem qxk:FnOk gl Tryz.prog 198 z6e:=
 fo qxj qxi 0 (oz trivial trivial) Tryz.func198 (by kernel_rfl) (by kernel_rfl) (by kernel_rfl)
  (ll 0 (by kernel_rfl) trivial) (λx=>by kernel_rfl)
def qqv:List Sh:=mkSh 50 [(3,.val .str .b),(8,.val zk .b),(9,.val (.int .i64) .b),(10,.val (.int .i64) .b),(33,.val zi .b),(34,.val (.int .i64) .b),(35,.val (.int .i64) .b)]
def qtu:List Out:=[⟨.exit 2,⟨[],[3,8,9,10],[]⟩,mkSh 50 [(3,.val .str .b),(8,.val zk .b),(9,.val (.int .i64) .b),(10,.val (.int .i64) .b)]⟩]
def zhm (t3:PV .str)(t8:PV zk)(t9:PV (.int .i64))(t10:PV (.int .i64))(t33:PV zi)(t34:PV (.int .i64))(t35:PV (.int .i64)):Option ((PV .str×PV zk×PV (.int .i64)×PV (.int .i64)×PV zi×PV (.int .i64)×PV (.int .i64)×Unit)⊕((PV .str×PV zk×PV (.int .i64)×PV (.int .i64)×Unit))):=
 bif (decide (t35<t34)) then
  bif inB t35 t33.length then
   (zpi ((t33.getD t35.toNat (dflt zo)).1)).bind λr11=>
     (zhx r11.1.1 (((t33.getD t35.toNat (dflt zo)).2).1)).bind λr12=>
       bif decide (t3.length+r12.1.1.length<=1099511627776) then
        some (.inl ((t3++r12.1.1),t8,t9,t10,t33,t34,(IntKind.wrap .i64 (t35+1)),()))
       else
        none
  else
   none
 else
  some (.inr (t3,t8,t9,t10,()))
def z4i:PV .str×PV zk×PV (.int .i64)×PV (.int .i64)×PV zi×PV (.int .i64)×PV (.int .i64)×Unit->Option ((PV .str×PV zk×PV (.int .i64)×PV (.int .i64)×Unit)):=fix λd=>zhm d.1 d.2.1 d.2.2.1 d.2.2.2.1 d.2.2.2.2.1 d.2.2.2.2.2.1 d.2.2.2.2.2.2.1
def z2k:Lp:=⟨⟨[],[3,8,9,10,33,34,35],[]⟩,qqv,qtu,λd=>zhm d.1 d.2.1 d.2.2.1 d.2.2.2.1 d.2.2.2.2.1 d.2.2.2.2.2.1 d.2.2.2.2.2.2.1⟩
def qqw:List Sh:=mkSh 50 [(3,.val .str .b),(8,.val zk .b),(9,.val (.int .i64) .b),(10,.val (.int .i64) .b)]
def qtv:List Out:=[⟨.exit 0,⟨[],[3],[]⟩,mkSh 50 [(3,.val .str .b)]⟩]
def zhn (t3:PV .str)(t8:PV zk)(t9:PV (.int .i64))(t10:PV (.int .i64)):Option ((PV .str×PV zk×PV (.int .i64)×PV (.int .i64)×Unit)⊕((PV .str×Unit))):=
 bif (decide (t10<t9)) then
  bif inB t10 t8.length then
   (ze9 (t8.getD t10.toNat (dflt zh))).bind λr14=>
     (ze5 ((t8.getD t10.toNat (dflt zh)).1) (r14.1.1.length:Int)).bind λr15=>
       bif decide ([64,64,32,45].length+r15.1.1.length<=1099511627776) then
        bif decide (([64,64,32,45]++r15.1.1).length+[32,43].length<=1099511627776) then
         (zdy (t8.getD t10.toNat (dflt zh))).bind λr16=>
           (ze5 (((t8.getD t10.toNat (dflt zh)).2).1) (r16.1.1.length:Int)).bind λr17=>
             bif decide ((([64,64,32,45]++r15.1.1)++[32,43]).length+r17.1.1.length<=1099511627776) then
              bif decide (((([64,64,32,45]++r15.1.1)++[32,43])++r17.1.1).length+[32,64,64,10].length<=1099511627776) then
               bif decide (t3.length+(((([64,64,32,45]++r15.1.1)++[32,43])++r17.1.1)++[32,64,64,10]).length<=1099511627776) then
                (z4i ((t3++(((([64,64,32,45]++r15.1.1)++[32,43])++r17.1.1)++[32,64,64,10])),t8,t9,t10,(((t8.getD t10.toNat (dflt zh)).2).2).1,(((((t8.getD t10.toNat (dflt zh)).2).2).1).length:Int),0,())).bind λl18=>
                  some (.inl (l18.1,l18.2.1,l18.2.2.1,(IntKind.wrap .i64 (l18.2.2.2.1+1)),()))
               else
                none
              else
               none
             else
              none
        else
         none
       else
        none
  else
   none
 else
  some (.inr (t3,()))
def z4j:PV .str×PV zk×PV (.int .i64)×PV (.int .i64)×Unit->Option ((PV .str×Unit)):=fix λd=>zhn d.1 d.2.1 d.2.2.1 d.2.2.2.1
def z2l:Lp:=⟨⟨[],[3,8,9,10],[]⟩,qqw,qtv,λd=>zhn d.1 d.2.1 d.2.2.1 d.2.2.2.1⟩
def qxl:Plan:=⟨[],[(7,z2k),(3,z2l)],0,0⟩
def zjt (t0:PV zk):Option (PVs [.str]×PVs []):=
 (z4j ([],t0,(t0.length:Int),0,())).bind λl20=>
   some ((l20.1,()),())
def ztw:Ct:=⟨[(.bor,zk)],[(.str,.b)],λx=>zjt x.1⟩
def qxm:Cx:=⟨tab,arrs,[(126,zte),(139,ztf),(163,zju),(164,zjv),(198,z6e)],[],gl,[]⟩
theorem z6f:FnOk gl Tryz.prog 129 ztw:=
 fo qxm qxl 0 (oz ⟨z4h,z4k,zmd,zme,qxk,trivial⟩ trivial) Tryz.func129 (by kernel_rfl) (by kernel_rfl) (by kernel_rfl)
  (ll 2 (by kernel_rfl) (lc z2l (by kernel_rfl) (λd=>by kernel_rfl) (lc z2k (by kernel_rfl) (λd=>by kernel_rfl) trivial))) (λx=>by kernel_rfl)
def qkq:List Out:=[⟨.normal,⟨[],[0,12],[]⟩,mkSh 15 [(0,.val zk .b),(12,.val .bool .b)]⟩]
def qmq:Plan:=⟨[(2,qkq)],[],0,0⟩
def zoj (t0:PV zk):Option (PVs [.str,.bool]×PVs []):=
 ((
   (zh9 t0).bind λr6=>
     bif (!r6.1.1) then
      some (t0,true,())
     else
      (zjt t0).bind λr7=>
        some (t0,(decide ((r7.1.1.length:Int)>3000)),()):Option ((PV zk×PV .bool×Unit)))).bind λj8=>
   bif j8.2.1 then
    some (([],false,()),())
   else
    (zjt j8.1).bind λr9=>
      some ((r9.1.1,true,()),())
def z0d:Ct:=⟨[(.bor,zk)],[(.str,.b),(.bool,.b)],λx=>zoj x.1⟩
def qmr:Cx:=⟨tab,arrs,[(95,zl1),(129,ztw)],[],gl,[]⟩
theorem qms:FnOk gl Tryz.prog 84 z0d:=
 fo qmr qmq 0 (oz ⟨zo4,z6f,trivial⟩ trivial) Tryz.func84 (by kernel_rfl) (by kernel_rfl) (by kernel_rfl)
  (ll 0 (by kernel_rfl) trivial) (λx=>by kernel_rfl)
def qkr:Plan:=⟨[],[],0,0⟩
def zod (t0:PV zf)(t1:PV zn)(t2:PV (.int .i64)):Option (PVs [.str,.bool]×PVs []):=
 (zlv t0 t1 t2).bind λr2=>
   bif (!r2.1.2.1) then
    some (([],false,()),())
   else
    (zoj r2.1.1).bind λr3=>
      some ((r3.1.1,r3.1.2.1,()),())
def zzl:Ct:=⟨[(.bor,zf),(.bor,zn),(.bor,(.int .i64))],[(.str,.b),(.bool,.b)],λx=>zod x.1 x.2.1 x.2.2.1⟩
def qks:Cx:=⟨tab,arrs,[(56,zsw),(84,z0d)],[],gl,[]⟩
theorem qkt:FnOk gl Tryz.prog 35 zzl:=
 fo qks qkr 0 (oz ⟨z2m,qms,trivial⟩ trivial) Tryz.func35 (by kernel_rfl) (by kernel_rfl) (by kernel_rfl)
  (ll 0 (by kernel_rfl) trivial) (λx=>by kernel_rfl)
def qiv:Plan:=⟨[],[],0,0⟩
def zld (t0:PV xu):Option (PVs [.str,.str]×PVs []):=
 (zoi (t0,(0,(0,())))).bind λr2=>
   (zlg r2.2.1 r2.1.1).bind λr4=>
     (zau r4.2.1 3).bind λr6=>
       (zlh r2.1.1 r4.1.1 r6.1.1).bind λr8=>
         (zau r6.2.1 5).bind λr11=>
           bif 4==0 then
            none
           else
            (zod r2.1.1 r4.1.1 (IntKind.wrap .i64 (r6.1.1+(IntKind.wrap .i64 (r11.1.1.tdiv 4))))).bind λr12=>
              some ((r8.1.1,r12.1.1,()),())
def zyw:Ct:=⟨[(.bor,xu)],[(.str,.b),(.str,.b)],λx=>zld x.1⟩
def qiw:Cx:=⟨tab,arrs,[(13,zsd),(35,zzl),(59,z0c),(60,zse),(61,zdq)],[],gl,[]⟩
theorem qix:FnOk gl Tryz.prog 16 zyw:=
 fo qiw qiv 0 (oz ⟨zzm,qkt,qmp,zzn,zel,trivial⟩ trivial) Tryz.func16 (by kernel_rfl) (by kernel_rfl) (by kernel_rfl)
  (ll 0 (by kernel_rfl) trivial) (λx=>by kernel_rfl)
def qxn:List Out:=[⟨.normal,⟨[],[0,3,4,5],[]⟩,mkSh 37 [(0,.val .str .b),(3,.val zf (.row .b)),(4,.val (.int .i64) .b),(5,.val (.int .i64) .b)]⟩]
def qtw:List Out:=[⟨.normal,⟨[],[3],[]⟩,mkSh 37 [(3,.val zf (.row .b))]⟩]
def qtx:List Sh:=mkSh 37 [(0,.val .str .b),(3,.val zf (.row .b)),(4,.val (.int .i64) .b),(5,.val (.int .i64) .b)]
def qxo:List Out:=[⟨.exit 0,⟨[],[0,3,4],[]⟩,mkSh 37 [(0,.val .str .b),(3,.val zf (.row .b)),(4,.val (.int .i64) .b)]⟩]
def zf3 (t0:PV .str)(t3:PV zf)(t4:PV (.int .i64))(t5:PV (.int .i64)):Option ((PV .str×PV zf×PV (.int .i64)×PV (.int .i64)×Unit)⊕((PV .str×PV zf×PV (.int .i64)×Unit))):=
 bif (decide (t5<(t0.length:Int))) then
  ((
    bif inB t5 t0.length then
     bif (((t0.getD t5.toNat 0).toNat:Int)==10) then
      bif cutB t4 (IntKind.wrap .i64 (t5+1)) t0.length then
       bif qm (t3.length+[(cutL t4 (IntKind.wrap .i64 (t5+1)) t0)].length) then
        some (t0,(t3++[(cutL t4 (IntKind.wrap .i64 (t5+1)) t0)]),(IntKind.wrap .i64 (t5+1)),t5,())
       else
        none
      else
       none
     else
      some (t0,t3,t4,t5,())
    else
     none:Option ((PV .str×PV zf×PV (.int .i64)×PV (.int .i64)×Unit)))).bind λj1=>
    some (.inl (j1.1,j1.2.1,j1.2.2.1,(IntKind.wrap .i64 (j1.2.2.2.1+1)),()))
 else
  some (.inr (t0,t3,t4,()))
def zhy:PV .str×PV zf×PV (.int .i64)×PV (.int .i64)×Unit->Option ((PV .str×PV zf×PV (.int .i64)×Unit)):=fix λd=>zf3 d.1 d.2.1 d.2.2.1 d.2.2.2.1
def z4l:Lp:=⟨⟨[],[0,3,4,5],[]⟩,qtx,qxo,λd=>zf3 d.1 d.2.1 d.2.2.1 d.2.2.2.1⟩
def q0a:Plan:=⟨[(5,qxn),(11,qtw)],[(4,z4l)],0,0⟩
def zmn (t0:PV .str):Option (PVs [zf]×PVs []):=
 (zhy (t0,[],0,0,())).bind λl3=>
   ((
     bif (decide (l3.2.2.1<(l3.1.length:Int))) then
      bif cutB l3.2.2.1 (l3.1.length:Int) l3.1.length then
       bif qm (l3.2.1.length+[(cutL l3.2.2.1 (l3.1.length:Int) l3.1)].length) then
        some ((l3.2.1++[(cutL l3.2.2.1 (l3.1.length:Int) l3.1)]),())
       else
        none
      else
       none
     else
      some (l3.2.1,()):Option ((PV zf×Unit)))).bind λj4=>
     some ((j4.1,()),())
def zug:Ct:=⟨[(.bor,.str)],[(zf,.b)],λx=>zmn x.1⟩
def q0b:Cx:=⟨tab,arrs,[],[],gl,[]⟩
theorem z8b:FnOk gl Tryz.prog 79 zug:=
 fo q0b q0a 0 (oz trivial trivial) Tryz.func79 (by kernel_rfl) (by kernel_rfl) (by kernel_rfl)
  (ll 1 (by kernel_rfl) (lc z4l (by kernel_rfl) (λd=>by kernel_rfl) trivial)) (λx=>by kernel_rfl)
def qqx:List Out:=[⟨.normal,⟨[],[0,1,2,35],[]⟩,mkSh 49 [(0,.val .str .b),(1,.val .str .b),(2,.val .str .b),(35,.val .bool .b)]⟩]
def qtz:Plan:=⟨[(2,qqx)],[],0,0⟩
def zl2 (t0:PV .str)(t1:PV .str)(t2:PV .str):Option (PVs [(.int .i64),(.int .i64),.bool]×PVs []):=
 ((
   bif (decide ((t0.length:Int)<(IntKind.wrap .i64 ((t1.length:Int)+(t2.length:Int))))) then
    some (t0,t1,t2,true,())
   else
    bif cutB 0 (t1.length:Int) t0.length then
     bif (!((cutL 0 (t1.length:Int) t0)==t1)) then
      some (t0,t1,t2,true,())
     else
      bif cutB (IntKind.wrap .i64 ((t0.length:Int) -(t2.length:Int))) (t0.length:Int) t0.length then
       some (t0,t1,t2,(!((cutL (IntKind.wrap .i64 ((t0.length:Int) -(t2.length:Int))) (t0.length:Int) t0)==t2)),())
      else
       none
    else
     none:Option ((PV .str×PV .str×PV .str×PV .bool×Unit)))).bind λj2=>
   bif j2.2.2.2.1 then
    some ((0,0,false,()),())
   else
    bif cutB (j2.2.1.length:Int) (IntKind.wrap .i64 ((j2.1.length:Int) -(j2.2.2.1.length:Int))) j2.1.length then
     (zov (cutL (j2.2.1.length:Int) (IntKind.wrap .i64 ((j2.1.length:Int) -(j2.2.2.1.length:Int))) j2.1)).bind λr3=>
       some ((r3.1.1,r3.1.2.1,r3.1.2.2.1,()),())
    else
     none
def z4m:Ct:=⟨[(.bor,.str),(.bor,.str),(.bor,.str)],[((.int .i64),.b),((.int .i64),.b),(.bool,.b)],λx=>zl2 x.1 x.2.1 x.2.2.1⟩
def qt0:Cx:=⟨tab,arrs,[(148,z2o)],[],gl,[]⟩
theorem qt1:FnOk gl Tryz.prog 175 z4m:=
 fo qt0 qtz 0 (oz ⟨qqy,trivial⟩ trivial) Tryz.func175 (by kernel_rfl) (by kernel_rfl) (by kernel_rfl)
  (ll 0 (by kernel_rfl) trivial) (λx=>by kernel_rfl)
def qqz:List Out:=[⟨.normal,⟨[],[0,1,6,7,10,24,25,26,27,28,29,38,39,40,43,44,45,64],[]⟩,mkSh 81 [(0,.val zf .b),(1,.val .str .b),(6,.val zy (.row (.pr .b (.pr .b .b)))),(7,.val (.int .i64) .b),(10,.var jw .b),(38,.val .str .b),(39,.val (.int .i64) .b),(40,.val .bool .b),(43,.val .str .b),(44,.val (.int .u8) .b),(45,.val .bool .b),(64,.val .bool .b)]⟩]
def qq0:List Out:=[⟨.normal,⟨[(10,.b)],[0,1,6,7,10,24,25,26,27,28,29,38,39,40,43,44,45,59,60,61,62,63],[]⟩,mkSh 81 [(0,.val zf .b),(1,.val .str .b),(6,.val zy (.row (.pr .b (.pr .b .b)))),(7,.val (.int .i64) .b),(10,.var jw .b),(38,.val .str .b),(39,.val (.int .i64) .b),(40,.val .bool .b),(43,.val .str .b),(44,.val (.int .u8) .b),(45,.val .bool .b)]⟩]
def qq1:List Sh:=mkSh 81 [(0,.val zf .b),(1,.val .str .b),(6,.val zy (.row (.pr .b (.pr .b .b)))),(7,.val (.int .i64) .b),(8,.val .str .b),(9,.val (.int .i64) .b)]
def qt2:List Out:=[⟨.exit 2,⟨[],[0,1,6,7,8,9,38,39,40,43,44,45,59,60,61,62,63],[]⟩,mkSh 81 [(0,.val zf .b),(1,.val .str .b),(6,.val zy (.row (.pr .b (.pr .b .b)))),(7,.val (.int .i64) .b),(8,.val .str .b),(9,.val (.int .i64) .b)]⟩]
def zds (t0:PV zf)(t1:PV .str)(t6:PV zy)(t7:PV (.int .i64))(t8:PV .str)(t9:PV (.int .i64)):Option ((PV zf×PV .str×PV zy×PV (.int .i64)×PV .str×PV (.int .i64)×Unit)⊕((PV zf×PV .str×PV zy×PV (.int .i64)×PV .str×PV (.int .i64)×Unit))):=
 bif (decide (t9<(t1.length:Int))) then
  bif inB t9 t1.length then
   bif inB 0 t8.length then
    bif (!(((t1.getD t9.toNat 0).toNat:Int)==((t8.getD (0:Int).toNat 0).toNat:Int))) then
     some (.inl (t0,t1,t6,t7,t8,(IntKind.wrap .i64 (t9+1)),()))
    else
     some (.inr (t0,t1,t6,t7,t8,t9,()))
   else
    none
  else
   none
 else
  some (.inr (t0,t1,t6,t7,t8,t9,()))
def zlw:PV zf×PV .str×PV zy×PV (.int .i64)×PV .str×PV (.int .i64)×Unit->Option ((PV zf×PV .str×PV zy×PV (.int .i64)×PV .str×PV (.int .i64)×Unit)):=fix λd=>zds d.1 d.2.1 d.2.2.1 d.2.2.2.1 d.2.2.2.2.1 d.2.2.2.2.2.1
def z2p:Lp:=⟨⟨[],[0,1,6,7,8,9,38,39,40,43,44,45,59,60,61,62,63],[]⟩,qq1,qt2,λd=>zds d.1 d.2.1 d.2.2.1 d.2.2.2.1 d.2.2.2.2.1 d.2.2.2.2.2.1⟩
def qq3:List Sh:=mkSh 81 [(0,.val zf .b),(1,.val .str .b),(6,.val zy (.row (.pr .b (.pr .b .b)))),(7,.val (.int .i64) .b)]
def qt3:List Out:=[⟨.exit 0,⟨[],[6,7],[]⟩,mkSh 81 [(6,.val zy (.row (.pr .b (.pr .b .b)))),(7,.val (.int .i64) .b)]⟩]
def zew (t0:PV zf)(t1:PV .str)(t6:PV zy)(t7:PV (.int .i64)):Option ((PV zf×PV .str×PV zy×PV (.int .i64)×Unit)⊕((PV zy×PV (.int .i64)×Unit))):=
 bif (decide (t7<(t0.length:Int))) then
  bif inB t7 t0.length then
   (zlw (t0,t1,t6,t7,(t0.getD t7.toNat []),0,())).bind λl7=>
     bif (l7.2.2.2.2.2.1==(l7.2.1.length:Int)) then
      some (.inr (l7.2.2.1,l7.2.2.2.1,()))
     else
      bif (decide ((l7.2.2.2.2.1.length:Int)<3)) then
       some (.inr (l7.2.2.1,l7.2.2.2.1,()))
      else
       bif inB 1 l7.2.2.2.2.1.length then
        bif (!(((l7.2.2.2.2.1.getD (1:Int).toNat 0).toNat:Int)==32)) then
         some (.inr (l7.2.2.1,l7.2.2.2.1,()))
        else
         bif inB 0 l7.2.2.2.2.1.length then
          bif cutB 2 (l7.2.2.2.2.1.length:Int) l7.2.2.2.2.1.length then
           ((
             ((
               bif (decide ((IntKind.wrap .i64 (l7.2.2.2.1+1))<(l7.1.length:Int))) then
                bif inB (IntKind.wrap .i64 (l7.2.2.2.1+1)) l7.1.length then
                 some (l7.1,l7.2.1,l7.2.2.1,(IntKind.wrap .i64 (l7.2.2.2.1+1)),(((l7.2.2.2.2.1.getD (0:Int).toNat 0).toNat:Int),((cutL 2 (l7.2.2.2.2.1.length:Int) l7.2.2.2.2.1),())),l7.2.2.2.2.1,(l7.2.2.2.2.1.length:Int),(decide ((l7.2.2.2.2.1.length:Int)<3)),l7.2.2.2.2.1,((l7.2.2.2.2.1.getD (1:Int).toNat 0).toNat:Int),(!(((l7.2.2.2.2.1.getD (1:Int).toNat 0).toNat:Int)==32)),((l7.1.getD ((IntKind.wrap .i64 (l7.2.2.2.1+1)).toNat) [])==[92,32,110,111,110,101,10]),())
                else
                 none
               else
                some (l7.1,l7.2.1,l7.2.2.1,(IntKind.wrap .i64 (l7.2.2.2.1+1)),(((l7.2.2.2.2.1.getD (0:Int).toNat 0).toNat:Int),((cutL 2 (l7.2.2.2.2.1.length:Int) l7.2.2.2.2.1),())),l7.2.2.2.2.1,(l7.2.2.2.2.1.length:Int),(decide ((l7.2.2.2.2.1.length:Int)<3)),l7.2.2.2.2.1,((l7.2.2.2.2.1.getD (1:Int).toNat 0).toNat:Int),(!(((l7.2.2.2.2.1.getD (1:Int).toNat 0).toNat:Int)==32)),false,()):Option ((PV zf×PV .str×PV zy×PV (.int .i64)×PV jw×PV .str×PV (.int .i64)×PV .bool×PV .str×PV (.int .u8)×PV .bool×PV .bool×Unit)))).bind λj8=>
               bif j8.2.2.2.2.2.2.2.2.2.2.2.1 then
                bif cutB 0 (IntKind.wrap .i64 ((j8.2.2.2.2.1.2.1.length:Int) -1)) j8.2.2.2.2.1.2.1.length then
                 some (j8.1,j8.2.1,j8.2.2.1,(IntKind.wrap .i64 (j8.2.2.2.1+1)),(j8.2.2.2.2.1.1,((cutL 0 (IntKind.wrap .i64 ((j8.2.2.2.2.1.2.1.length:Int) -1)) j8.2.2.2.2.1.2.1),j8.2.2.2.2.1.2.2)),j8.2.2.2.2.2.1,j8.2.2.2.2.2.2.1,j8.2.2.2.2.2.2.2.1,j8.2.2.2.2.2.2.2.2.1,j8.2.2.2.2.2.2.2.2.2.1,j8.2.2.2.2.2.2.2.2.2.2.1,())
                else
                 none
               else
                some (j8.1,j8.2.1,j8.2.2.1,j8.2.2.2.1,j8.2.2.2.2.1,j8.2.2.2.2.2.1,j8.2.2.2.2.2.2.1,j8.2.2.2.2.2.2.2.1,j8.2.2.2.2.2.2.2.2.1,j8.2.2.2.2.2.2.2.2.2.1,j8.2.2.2.2.2.2.2.2.2.2.1,()):Option ((PV zf×PV .str×PV zy×PV (.int .i64)×PV jw×PV .str×PV (.int .i64)×PV .bool×PV .str×PV (.int .u8)×PV .bool×Unit)))).bind λj9=>
             bif qm (j9.2.2.1.length+[j9.2.2.2.2.1].length) then
              some (.inl (j9.1,j9.2.1,(j9.2.2.1++[j9.2.2.2.2.1]),j9.2.2.2.1,()))
             else
              none
          else
           none
         else
          none
       else
        none
  else
   none
 else
  some (.inr (t6,t7,()))
def zji:PV zf×PV .str×PV zy×PV (.int .i64)×Unit->Option ((PV zy×PV (.int .i64)×Unit)):=fix λd=>zew d.1 d.2.1 d.2.2.1 d.2.2.2.1
def z2q:Lp:=⟨⟨[],[0,1,6,7,24,25,26,27,28,29,59,60,61,62,63],[]⟩,qq3,qt3,λd=>zew d.1 d.2.1 d.2.2.1 d.2.2.2.1⟩
def qxp:Plan:=⟨[(12,qqz),(14,qq0)],[(6,z2p),(3,z2q)],0,0⟩
def zmf (t0:PV zf)(t1:PV .str):Option (PVs [zy,(.int .i64)]×PVs []):=
 (zji (t0,t1,[],0,())).bind λl11=>
   some ((l11.1,l11.2.1,()),())
def z6g:Ct:=⟨[(.bor,zf),(.bor,.str)],[(zy,(.row (.pr .b (.pr .b .b)))),((.int .i64),.b)],λx=>zmf x.1 x.2.1⟩
def qxq:Cx:=⟨tab,arrs,[],[],gl,[]⟩
theorem qxr:FnOk gl Tryz.prog 176 z6g:=
 fo qxq qxp 0 (oz trivial trivial) Tryz.func176 (by kernel_rfl) (by kernel_rfl) (by kernel_rfl)
  (ll 2 (by kernel_rfl) (lc z2q (by kernel_rfl) (λd=>by kernel_rfl) (lc z2p (by kernel_rfl) (λd=>by kernel_rfl) trivial))) (λx=>by kernel_rfl)
def qt4:List Out:=[⟨.normal,⟨[],[0,1,3,17,18,19,51,52,53,54,79,80,81,82,83,84,103,104,105,106,107,108],[]⟩,mkSh 122 [(0,.val zy (.row (.pr .b (.pr .b .b)))),(1,.val zy .b),(3,.val .bool .b),(17,.val zy .b),(18,.val (.int .i64) .b),(19,.val (.int .i64) .b)]⟩]
def qt5:List Out:=[⟨.normal,⟨[(0,.b)],[0,1,3,51,52,53,54,79,80,81,82,83,84,103,104,105,106,107,108],[]⟩,mkSh 122 [(0,.val zy .b),(1,.val zy .b),(3,.val .bool .b)]⟩]
def qq4:List Out:=[⟨.normal,⟨[],[0,1,32,33,34,51,52,53,54,79,80,81,82,83,84,103,104,105,106,107,108],[]⟩,mkSh 122 [(0,.val zy .b),(1,.val zy (.row (.pr .b (.pr .b .b)))),(32,.val zy .b),(33,.val (.int .i64) .b),(34,.val (.int .i64) .b)]⟩]
def qq5:List Out:=[⟨.normal,⟨[(1,.b)],[0,1,51,52,53,54,79,80,81,82,83,84,103,104,105,106,107,108],[]⟩,mkSh 122 [(0,.val zy .b),(1,.val zy .b)]⟩]
def qq6:List Out:=[⟨.exit 4,⟨[],[13],[]⟩,mkSh 122 [(13,.val zi (.row (.pr .b (.pr .b .b))))]⟩,⟨.normal,⟨[],[0,1,13,14,15,79,80,81,82,83,84,103,104,105,106,107,108],[]⟩,mkSh 122 [(0,.val zy .b),(1,.val zy .b),(13,.val zi (.row (.pr .b (.pr .b .b)))),(14,.val (.int .i64) .b),(15,.val (.int .i64) .b)]⟩]
def qq7:List Out:=[⟨.normal,⟨[],[0,1,13,14,15,51,52,53,54,73,103,104,105,106,107,108],[]⟩,mkSh 122 [(0,.val zy .b),(1,.val zy .b),(13,.val zi (.row (.pr .b (.pr .b .b)))),(14,.val (.int .i64) .b),(15,.val (.int .i64) .b),(73,.val .bool .b)]⟩]
def qq8:List Out:=[⟨.normal,⟨[],[0,1,13,14,15,51,52,53,54,79,80,81,82,83,84,97],[]⟩,mkSh 122 [(0,.val zy .b),(1,.val zy .b),(13,.val zi (.row (.pr .b (.pr .b .b)))),(14,.val (.int .i64) .b),(15,.val (.int .i64) .b),(97,.val .bool .b)]⟩]
def qq9:List Out:=[⟨.normal,⟨[],[0,1,13,14,15,51,52,53,54,79,80,81,82,83,84,103,104,105,106,107,108],[]⟩,mkSh 122 [(0,.val zy .b),(1,.val zy .b),(13,.val zi (.row (.pr .b (.pr .b .b)))),(14,.val (.int .i64) .b),(15,.val (.int .i64) .b)]⟩]
def qra:List Sh:=mkSh 122 [(0,.val zy (.row (.pr .b (.pr .b .b)))),(1,.val zy .b),(3,.val .bool .b),(17,.val zy .b),(18,.val (.int .i64) .b),(19,.val (.int .i64) .b)]
def qt6:List Out:=[⟨.exit 0,⟨[],[0,1,3,51,52,53,54,79,80,81,82,83,84,103,104,105,106,107,108],[]⟩,mkSh 122 [(0,.val zy (.row (.pr .b (.pr .b .b)))),(1,.val zy .b),(3,.val .bool .b)]⟩]
def zho (t0:PV zy)(t1:PV zy)(t3:PV .bool)(t17:PV zy)(t18:PV (.int .i64))(t19:PV (.int .i64)):Option ((PV zy×PV zy×PV .bool×PV zy×PV (.int .i64)×PV (.int .i64)×Unit)⊕((PV zy×PV zy×PV .bool×Unit))):=
 bif (decide (t19<t18)) then
  ((
    bif inB t19 t17.length then
     bif (((t17.getD t19.toNat (dflt jw)).1)==32) then
      bif qm (t0.length+[(t17.getD t19.toNat (dflt jw))].length) then
       some ((t0++[(t17.getD t19.toNat (dflt jw))]),t1,t3,t17,t18,t19,())
      else
       none
     else
      some (t0,t1,t3,t17,t18,t19,())
    else
     none:Option ((PV zy×PV zy×PV .bool×PV zy×PV (.int .i64)×PV (.int .i64)×Unit)))).bind λj1=>
    some (.inl (j1.1,j1.2.1,j1.2.2.1,j1.2.2.2.1,j1.2.2.2.2.1,(IntKind.wrap .i64 (j1.2.2.2.2.2.1+1)),()))
 else
  some (.inr (t0,t1,t3,()))
def ztg:PV zy×PV zy×PV .bool×PV zy×PV (.int .i64)×PV (.int .i64)×Unit->Option ((PV zy×PV zy×PV .bool×Unit)):=fix λd=>zho d.1 d.2.1 d.2.2.1 d.2.2.2.1 d.2.2.2.2.1 d.2.2.2.2.2.1
def z2r:Lp:=⟨⟨[],[0,1,3,17,18,19,51,52,53,54,79,80,81,82,83,84,103,104,105,106,107,108],[]⟩,qra,qt6,λd=>zho d.1 d.2.1 d.2.2.1 d.2.2.2.1 d.2.2.2.2.1 d.2.2.2.2.2.1⟩
def qom:List Sh:=mkSh 122 [(0,.val zy .b),(1,.val zy (.row (.pr .b (.pr .b .b)))),(32,.val zy .b),(33,.val (.int .i64) .b),(34,.val (.int .i64) .b)]
def qrb:List Out:=[⟨.exit 2,⟨[],[0,1,51,52,53,54,79,80,81,82,83,84,103,104,105,106,107,108],[]⟩,mkSh 122 [(0,.val zy .b),(1,.val zy (.row (.pr .b (.pr .b .b))))]⟩]
def zhe (t0:PV zy)(t1:PV zy)(t32:PV zy)(t33:PV (.int .i64))(t34:PV (.int .i64)):Option ((PV zy×PV zy×PV zy×PV (.int .i64)×PV (.int .i64)×Unit)⊕((PV zy×PV zy×Unit))):=
 bif (decide (t34<t33)) then
  ((
    bif inB t34 t32.length then
     bif (((t32.getD t34.toNat (dflt jw)).1)==32) then
      bif qm (t1.length+[(t32.getD t34.toNat (dflt jw))].length) then
       some (t0,(t1++[(t32.getD t34.toNat (dflt jw))]),t32,t33,t34,())
      else
       none
     else
      some (t0,t1,t32,t33,t34,())
    else
     none:Option ((PV zy×PV zy×PV zy×PV (.int .i64)×PV (.int .i64)×Unit)))).bind λj5=>
    some (.inl (j5.1,j5.2.1,j5.2.2.1,j5.2.2.2.1,(IntKind.wrap .i64 (j5.2.2.2.2.1+1)),()))
 else
  some (.inr (t0,t1,()))
def zsx:PV zy×PV zy×PV zy×PV (.int .i64)×PV (.int .i64)×Unit->Option ((PV zy×PV zy×Unit)):=fix λd=>zhe d.1 d.2.1 d.2.2.1 d.2.2.2.1 d.2.2.2.2.1
def z1b:Lp:=⟨⟨[],[0,1,32,33,34,51,52,53,54,79,80,81,82,83,84,103,104,105,106,107,108],[]⟩,qom,qrb,λd=>zhe d.1 d.2.1 d.2.2.1 d.2.2.2.1 d.2.2.2.2.1⟩
def qon:List Sh:=mkSh 122 [(0,.val zy .b),(1,.val zy .b),(13,.val zi (.row (.pr .b (.pr .b .b)))),(14,.val (.int .i64) .b),(15,.val (.int .i64) .b)]
def qrc:List Out:=[⟨.exit 4,⟨[],[13],[]⟩,mkSh 122 [(13,.val zi (.row (.pr .b (.pr .b .b))))]⟩]
def zdr (t0:PV zy)(t1:PV zy)(t13:PV zi)(t14:PV (.int .i64))(t15:PV (.int .i64)):Option ((PV zy×PV zy×PV zi×PV (.int .i64)×PV (.int .i64)×Unit)⊕((PV zi×Unit))):=
 ((
   bif (decide (t14<(t0.length:Int))) then
    some (.inr (t0,t1,t13,t14,t15,()))
   else
    bif (decide (t15<(t1.length:Int))) then
     some (.inr (t0,t1,t13,t14,t15,()))
    else
     some (.inl (t13,())):Option ((PV zi×Unit)⊕(PV zy×PV zy×PV zi×PV (.int .i64)×PV (.int .i64)×Unit)))).bind λx16=>
   match x16 with
   | .inl j9=>
     some (.inr (j9.1,()))
   | .inr j10=>
     ((
       bif (decide (j10.2.2.2.1<(j10.1.length:Int))) then
        bif inB j10.2.2.2.1 j10.1.length then
         some (j10.1,j10.2.1,j10.2.2.1,j10.2.2.2.1,j10.2.2.2.2.1,(!(((j10.1.getD j10.2.2.2.1.toNat (dflt jw)).1)==32)),())
        else
         none
       else
        some (j10.1,j10.2.1,j10.2.2.1,j10.2.2.2.1,j10.2.2.2.2.1,false,()):Option ((PV zy×PV zy×PV zi×PV (.int .i64)×PV (.int .i64)×PV .bool×Unit)))).bind λj11=>
       bif j11.2.2.2.2.2.1 then
        bif inB j11.2.2.2.1 j11.1.length then
         bif qm (j11.2.2.1.length+[(2,(((j11.1.getD j11.2.2.2.1.toNat (dflt jw)).2).1,()))].length) then
          some (.inl (j11.1,j11.2.1,(j11.2.2.1++[(2,(((j11.1.getD j11.2.2.2.1.toNat (dflt jw)).2).1,()))]),(IntKind.wrap .i64 (j11.2.2.2.1+1)),j11.2.2.2.2.1,()))
         else
          none
        else
         none
       else
        ((
          bif (decide (j11.2.2.2.2.1<(j11.2.1.length:Int))) then
           bif inB j11.2.2.2.2.1 j11.2.1.length then
            some (j11.1,j11.2.1,j11.2.2.1,j11.2.2.2.1,j11.2.2.2.2.1,(!(((j11.2.1.getD j11.2.2.2.2.1.toNat (dflt jw)).1)==32)),())
           else
            none
          else
           some (j11.1,j11.2.1,j11.2.2.1,j11.2.2.2.1,j11.2.2.2.2.1,false,()):Option ((PV zy×PV zy×PV zi×PV (.int .i64)×PV (.int .i64)×PV .bool×Unit)))).bind λj12=>
          bif j12.2.2.2.2.2.1 then
           bif inB j12.2.2.2.2.1 j12.2.1.length then
            bif qm (j12.2.2.1.length+[(3,(((j12.2.1.getD j12.2.2.2.2.1.toNat (dflt jw)).2).1,()))].length) then
             some (.inl (j12.1,j12.2.1,(j12.2.2.1++[(3,(((j12.2.1.getD j12.2.2.2.2.1.toNat (dflt jw)).2).1,()))]),j12.2.2.2.1,(IntKind.wrap .i64 (j12.2.2.2.2.1+1)),()))
            else
             none
           else
            none
          else
           ((
             bif (decide (j12.2.2.2.1<(j12.1.length:Int))) then
              bif inB j12.2.2.2.1 j12.1.length then
               bif qm (j12.2.2.1.length+[(1,(((j12.1.getD j12.2.2.2.1.toNat (dflt jw)).2).1,()))].length) then
                some (j12.1,j12.2.1,(j12.2.2.1++[(1,(((j12.1.getD j12.2.2.2.1.toNat (dflt jw)).2).1,()))]),j12.2.2.2.1,j12.2.2.2.2.1,())
               else
                none
              else
               none
             else
              some (j12.1,j12.2.1,j12.2.2.1,j12.2.2.2.1,j12.2.2.2.2.1,()):Option ((PV zy×PV zy×PV zi×PV (.int .i64)×PV (.int .i64)×Unit)))).bind λj13=>
             some (.inl (j13.1,j13.2.1,j13.2.2.1,(IntKind.wrap .i64 (j13.2.2.2.1+1)),(IntKind.wrap .i64 (j13.2.2.2.2.1+1)),()))
def zfz:PV zy×PV zy×PV zi×PV (.int .i64)×PV (.int .i64)×Unit->Option ((PV zi×Unit)):=fix λd=>zdr d.1 d.2.1 d.2.2.1 d.2.2.2.1 d.2.2.2.2.1
def z1c:Lp:=⟨⟨[],[0,1,13,14,15,51,52,53,54,79,80,81,82,83,84,103,104,105,106,107,108],[]⟩,qon,qrc,λd=>zdr d.1 d.2.1 d.2.2.1 d.2.2.2.1 d.2.2.2.2.1⟩
def qxs:Plan:=⟨[(8,qt4),(9,qt5),(16,qq4),(17,qq5),(24,qq6),(25,qq7),(28,qq8),(22,qq9)],[(4,z2r),(12,z1b),(19,z1c)],0,0⟩
def zpj (t0:PV zy)(t1:PV zy)(t2:PV .bool)(t3:PV .bool):Option (PVs [zi]×PVs []):=
 ((
   bif t2 then
    (ztg ([],t1,t3,t1,(t1.length:Int),0,())).bind λl3=>
      some (l3.1,l3.2.1,l3.2.2.1,())
   else
    some (t0,t1,t3,()):Option ((PV zy×PV zy×PV .bool×Unit)))).bind λj4=>
   ((
     bif j4.2.2.1 then
      (zsx (j4.1,[],j4.1,(j4.1.length:Int),0,())).bind λl7=>
        some (l7.1,l7.2.1,())
     else
      some (j4.1,j4.2.1,()):Option ((PV zy×PV zy×Unit)))).bind λj8=>
     (zfz (j8.1,j8.2.1,[],0,0,())).bind λl15=>
       some ((l15.1,()),())
def z6h:Ct:=⟨[(.bor,zy),(.bor,zy),(.bor,.bool),(.bor,.bool)],[(zi,(.row (.pr .b (.pr .b .b))))],λx=>zpj x.1 x.2.1 x.2.2.1 x.2.2.2.1⟩
def qxt:Cx:=⟨tab,arrs,[],[],gl,[]⟩
theorem qxu:FnOk gl Tryz.prog 177 z6h:=
 fo qxt qxs 0 (oz trivial trivial) Tryz.func177 (by kernel_rfl) (by kernel_rfl) (by kernel_rfl)
  (ll 3 (by kernel_rfl) (lc z2r (by kernel_rfl) (λd=>by kernel_rfl) (lc z1b (by kernel_rfl) (λd=>by kernel_rfl) (lc z1c (by kernel_rfl) (λd=>by kernel_rfl) trivial)))) (λx=>by kernel_rfl)
def q3o:Plan:=⟨[],[],0,0⟩
def zm1 (t0:PV (.int .i64))(t1:PV (.int .i64)):Option (PVs [(.int .i64)]×PVs []):=
 bif (decide (t1>0)) then
  some (((IntKind.wrap .i64 (t0 -1)),()),())
 else
  some ((t0,()),())
def qaq:Ct:=⟨[(.bor,(.int .i64)),(.bor,(.int .i64))],[((.int .i64),.b)],λx=>zm1 x.1 x.2.1⟩
def q3p:Cx:=⟨tab,arrs,[],[],gl,[]⟩
theorem q3q:FnOk gl Tryz.prog 178 qaq:=
 fo q3p q3o 0 (oz trivial trivial) Tryz.func178 (by kernel_rfl) (by kernel_rfl) (by kernel_rfl)
  (ll 0 (by kernel_rfl) trivial) (λx=>by kernel_rfl)
def qxv:List Out:=[⟨.normal,⟨[],[0,2,23,42,43,44,45,46],[]⟩,mkSh 95 [(0,.val zf .b),(2,.var zh (.pr .b (.pr .b (.pr (.row (.pr .b (.pr .b .b))) .b)))),(23,.val .bool .b)]⟩]
def qxw:List Out:=[⟨.normal,⟨[],[0,2,4,7,8,47],[]⟩,mkSh 95 [(0,.val zf .b),(2,.var zh (.pr .b (.pr .b (.pr (.row (.pr .b (.pr .b .b))) .b)))),(4,.val (.int .i64) .b),(7,.val zy (.row (.pr .b (.pr .b .b)))),(8,.val (.int .i64) .b),(47,.val .bool .b)]⟩]
def q0c:Plan:=⟨[(2,qxv),(6,qxw)],[],0,0⟩
def zcg (t0:PV zf):Option (PVs [zh,(.int .i64)]×PVs []):=
 ((
   bif (decide ((t0.length:Int)<3)) then
    some (t0,(0,(0,(([]:PV zi),()))),true,())
   else
    bif inB 0 t0.length then
     some (t0,(0,(0,(([]:PV zi),()))),(!((t0.getD ((0:Int).toNat) [])==[42,42,42,42,42,42,42,42,42,42,42,42,42,42,42,10])),())
    else
     none:Option ((PV zf×PV zh×PV .bool×Unit)))).bind λj2=>
   bif j2.2.2.1 then
    some (((0,(0,(([]:PV zi),()))),0,()),())
   else
    bif inB 1 j2.1.length then
     (zl2 (j2.1.getD ((1:Int).toNat) []) [42,42,42,32] [32,42,42,42,42,10]).bind λr4=>
       bif cutB 2 (j2.1.length:Int) j2.1.length then
        (zmf (cutL 2 (j2.1.length:Int) j2.1) [32,45,33]).bind λr6=>
          ((
            bif (!r4.1.2.2.1) then
             some (j2.1,j2.2.1,r4.1.1,r6.1.1,r6.1.2.1,true,())
            else
             some (j2.1,j2.2.1,r4.1.1,r6.1.1,r6.1.2.1,(decide ((IntKind.wrap .i64 (2+r6.1.2.1))>=(j2.1.length:Int))),()):Option ((PV zf×PV zh×PV (.int .i64)×PV zy×PV (.int .i64)×PV .bool×Unit)))).bind λj8=>
            bif j8.2.2.2.2.2.1 then
             some (((0,(0,(([]:PV zi),()))),0,()),())
            else
             bif inB (IntKind.wrap .i64 (2+j8.2.2.2.2.1)) j8.1.length then
              (zl2 (j8.1.getD ((IntKind.wrap .i64 (2+j8.2.2.2.2.1)).toNat) []) [45,45,45,32] [32,45,45,45,45,10]).bind λr10=>
                bif cutB (IntKind.wrap .i64 (3+j8.2.2.2.2.1)) (j8.1.length:Int) j8.1.length then
                 (zmf (cutL (IntKind.wrap .i64 (3+j8.2.2.2.2.1)) (j8.1.length:Int) j8.1) [32,43,33]).bind λr12=>
                   bif (!r10.1.2.2.1) then
                    some (((0,(0,(([]:PV zi),()))),0,()),())
                   else
                    (zpj j8.2.2.2.1 r12.1.1 (j8.2.2.2.2.1==0) (r12.1.2.1==0)).bind λr14=>
                      (ze9 (0,(0,(r14.1.1,())))).bind λr17=>
                        (zm1 j8.2.2.1 (r17.1.1.length:Int)).bind λr18=>
                          (zdy (r18.1.1,(0,(r14.1.1,())))).bind λr21=>
                            (zm1 r10.1.1 (r21.1.1.length:Int)).bind λr22=>
                              some (((r18.1.1,(r22.1.1,(r14.1.1,()))),(IntKind.wrap .i64 ((IntKind.wrap .i64 (3+j8.2.2.2.2.1))+r12.1.2.1)),()),())
                else
                 none
             else
              none
       else
        none
    else
     none
def z8c:Ct:=⟨[(.bor,zf)],[(zh,(.pr .b (.pr .b (.pr (.row (.pr .b (.pr .b .b))) .b)))),((.int .i64),.b)],λx=>zcg x.1⟩
def q0d:Cx:=⟨tab,arrs,[(163,zju),(164,zjv),(175,z4m),(176,z6g),(177,z6h),(178,qaq)],[],gl,[]⟩
theorem q0e:FnOk gl Tryz.prog 103 z8c:=
 fo q0d q0c 0 (oz ⟨zmd,zme,qt1,qxr,qxu,q3q,trivial⟩ trivial) Tryz.func103 (by kernel_rfl) (by kernel_rfl) (by kernel_rfl)
  (ll 0 (by kernel_rfl) trivial) (λx=>by kernel_rfl)
def qiy:List Out:=[⟨.normal,⟨[],[6,39],[]⟩,mkSh 41 [(6,.val zk (.row (.pr .b (.pr .b (.pr (.row (.pr .b (.pr .b .b))) .b))))),(39,.val .bool .b)]⟩]
def qiz:List Sh:=mkSh 41 [(0,.val .str .b),(5,.val zf .b),(6,.val zk (.row (.pr .b (.pr .b (.pr (.row (.pr .b (.pr .b .b))) .b)))))]
def qjl:List Out:=[⟨.exit 0,⟨[],[0,6,35,36,37,38],[]⟩,mkSh 41 [(0,.val .str .b),(6,.val zk (.row (.pr .b (.pr .b (.pr (.row (.pr .b (.pr .b .b))) .b)))))]⟩,⟨.ret,⟨[],[2,3,4],[]⟩,mkSh 41 [(2,.val zk (.row (.pr .b (.pr .b (.pr (.row (.pr .b (.pr .b .b))) .b))))),(3,.val (.int .i64) .b),(4,.val .bool .b)]⟩]
def zfp (t0:PV .str)(t5:PV zf)(t6:PV zk):Option ((PV .str×PV zf×PV zk×Unit)⊕((PV .str×PV zk×Unit)⊕(PV zk×PV (.int .i64)×PV .bool×Unit))):=
 bif (decide ((t5.length:Int)>0)) then
  (zcg t5).bind λr4=>
    bif (r4.1.2.1==0) then
     some (.inr (.inr ([],1,false,())))
    else
     bif qm (t6.length+[r4.1.1].length) then
      bif cutB r4.1.2.1 (t5.length:Int) t5.length then
       some (.inl (t0,(cutL r4.1.2.1 (t5.length:Int) t5),(t6++[r4.1.1]),()))
      else
       none
     else
      none
 else
  some (.inr (.inl (t0,t6,())))
def zfq:PV .str×PV zf×PV zk×Unit->Option ((PV .str×PV zk×Unit)⊕(PV zk×PV (.int .i64)×PV .bool×Unit)):=fix λd=>zfp d.1 d.2.1 d.2.2.1
def zyx:Lp:=⟨⟨[],[0,5,6,35,36,37,38],[]⟩,qiz,qjl,λd=>zfp d.1 d.2.1 d.2.2.1⟩
def qku:Plan:=⟨[(12,qiy)],[(5,zyx)],0,0⟩
def zli (t0:PV .str):Option (PVs [zk,(.int .i64),.bool]×PVs []):=
 bif (decide ((t0.length:Int)>3000)) then
  some (([],1,false,()),())
 else
  (zmn t0).bind λr2=>
    (zfq (t0,r2.1.1,[],())).bind λx17=>
      match x17 with
      | .inl l7=>
        ((
          (zh9 l7.2.1).bind λr13=>
            bif (!r13.1.1) then
             some (l7.2.1,true,())
            else
             (zjw l7.2.1).bind λr14=>
               some (l7.2.1,(!(r14.1.1==l7.1)),()):Option ((PV zk×PV .bool×Unit)))).bind λj15=>
          bif j15.2.1 then
           some (([],1,false,()),())
          else
           some ((j15.1,0,true,()),())
      | .inr l16=>
        some ((l16.1,l16.2.1,l16.2.2.1,()),())
def zzo:Ct:=⟨[(.bor,.str)],[(zk,(.row (.pr .b (.pr .b (.pr (.row (.pr .b (.pr .b .b))) .b))))),((.int .i64),.b),(.bool,.b)],λx=>zli x.1⟩
def qkv:Cx:=⟨tab,arrs,[(79,zug),(95,zl1),(100,ztx),(103,z8c)],[],gl,[]⟩
theorem qkw:FnOk gl Tryz.prog 50 zzo:=
 fo qkv qku 0 (oz ⟨z8b,zo4,z6i,q0e,trivial⟩ trivial) Tryz.func50 (by kernel_rfl) (by kernel_rfl) (by kernel_rfl)
  (ll 1 (by kernel_rfl) (lc zyx (by kernel_rfl) (λd=>by kernel_rfl) trivial)) (λx=>by kernel_rfl)
def qt7:Plan:=⟨[],[],0,0⟩
def zo5 (t0:PV .str):Option (PVs [.str]×PVs []):=
 (zda t0).bind λr4=>
   bif r4.1.1 then
    bif cutB 0 (IntKind.wrap .i64 ((t0.length:Int) -1)) t0.length then
     some (((cutL 0 (IntKind.wrap .i64 ((t0.length:Int) -1)) t0),()),())
    else
     none
   else
    some ((t0,()),())
def z4n:Ct:=⟨[(.bor,.str)],[(.str,.b)],λx=>zo5 x.1⟩
def qt8:Cx:=⟨tab,arrs,[(128,zhz)],[],gl,[]⟩
theorem qt9:FnOk gl Tryz.prog 81 z4n:=
 fo qt8 qt7 0 (oz ⟨zjo,trivial⟩ trivial) Tryz.func81 (by kernel_rfl) (by kernel_rfl) (by kernel_rfl)
  (ll 0 (by kernel_rfl) trivial) (λx=>by kernel_rfl)
def qub:Plan:=⟨[],[],0,0⟩
def zo6 (t0:PV (.int .i64))(t1:PV (.int .i64)):Option (PVs [.bool]×PVs []):=
 (zck t0 0 999).bind λr1=>
   bif r1.1.1 then
    (zck t1 0 999).bind λr2=>
      some ((r2.1.1,()),())
   else
    some ((false,()),())
def z4o:Ct:=⟨[(.bor,(.int .i64)),(.bor,(.int .i64))],[(.bool,.b)],λx=>zo6 x.1 x.2.1⟩
def quc:Cx:=⟨tab,arrs,[(114,zif)],[],gl,[]⟩
theorem qud:FnOk gl Tryz.prog 241 z4o:=
 fo quc qub 0 (oz ⟨zj5,trivial⟩ trivial) Tryz.func241 (by kernel_rfl) (by kernel_rfl) (by kernel_rfl)
  (ll 0 (by kernel_rfl) trivial) (λx=>by kernel_rfl)
def qmt:List Out:=[⟨.normal,⟨[],[5,6,7,8,44,45,46,49,50,51,52],[]⟩,mkSh 56 [(5,.val zf (.row .b)),(6,.val (.int .i64) .b),(7,.val .bool .b),(8,.val (.int .i64) .b)]⟩]
def qkx:List Out:=[⟨.normal,⟨[],[5,7,8,11,44,45,46,49,50,51,52],[]⟩,mkSh 56 [(5,.val zf (.row .b)),(7,.val .bool .b),(8,.val (.int .i64) .b),(11,.val (.int .i64) .b)]⟩]
def qky:List Out:=[⟨.normal,⟨[],[8,11,53],[]⟩,mkSh 56 [(8,.val (.int .i64) .b),(11,.val (.int .i64) .b),(53,.val .bool .b)]⟩]
def qoo:Plan:=⟨[(8,qmt),(11,qkx),(12,qky)],[],0,0⟩
def zeq (t0:PV .str):Option (PVs [(.int .i64),(.int .i64),.bool]×PVs []):=
 (zh0 t0 44).bind λr2=>
   bif inB 0 r2.1.1.length then
    (zfv (r2.1.1.getD ((0:Int).toNat) [])).bind λr4=>
      ((
        bif ((r2.1.1.length:Int)==2) then
         bif inB 1 r2.1.1.length then
          (zfv (r2.1.1.getD ((1:Int).toNat) [])).bind λr8=>
            bif r4.1.2.1 then
             some (r2.1.1,r4.1.1,r8.1.2.1,r8.1.1,())
            else
             some (r2.1.1,r4.1.1,false,r8.1.1,())
         else
          none
        else
         some (r2.1.1,r4.1.1,r4.1.2.1,1,()):Option ((PV zf×PV (.int .i64)×PV .bool×PV (.int .i64)×Unit)))).bind λj9=>
        ((
          bif (decide (j9.2.2.2.1>0)) then
           some (j9.1,j9.2.2.1,j9.2.2.2.1,(IntKind.wrap .i64 (j9.2.1 -1)),())
          else
           some (j9.1,j9.2.2.1,j9.2.2.2.1,j9.2.1,()):Option ((PV zf×PV .bool×PV (.int .i64)×PV (.int .i64)×Unit)))).bind λj10=>
          ((
            bif (!j10.2.1) then
             some (j10.2.2.1,j10.2.2.2.1,true,())
            else
             bif (decide ((j10.1.length:Int)>2)) then
              some (j10.2.2.1,j10.2.2.2.1,true,())
             else
              (zo6 j10.2.2.2.1 j10.2.2.1).bind λr14=>
                some (j10.2.2.1,j10.2.2.2.1,(!r14.1.1),()):Option ((PV (.int .i64)×PV (.int .i64)×PV .bool×Unit)))).bind λj15=>
            bif j15.2.2.1 then
             some ((0,0,false,()),())
            else
             some ((j15.2.1,j15.1,true,()),())
   else
    none
def z1d:Ct:=⟨[(.bor,.str)],[((.int .i64),.b),((.int .i64),.b),(.bool,.b)],λx=>zeq x.1⟩
def qop:Cx:=⟨tab,arrs,[(193,zow),(240,zsk),(241,z4o)],[],gl,[]⟩
theorem qoq:FnOk gl Tryz.prog 194 z1d:=
 fo qop qoo 0 (oz ⟨zth,z0e,qud,trivial⟩ trivial) Tryz.func194 (by kernel_rfl) (by kernel_rfl) (by kernel_rfl)
  (ll 0 (by kernel_rfl) trivial) (λx=>by kernel_rfl)
def que:List Out:=[⟨.normal,⟨[],[2,6,57,84],[]⟩,mkSh 86 [(2,.var zh (.pr .b (.pr .b (.pr (.row (.pr .b (.pr .b .b))) .b)))),(6,.val zf (.row .b)),(57,.val .bool .b)]⟩]
def qxx:Plan:=⟨[(3,que)],[],0,0⟩
def zdb (t0:PV .str):Option (PVs [zh,(.int .i64),(.int .i64),.bool]×PVs []):=
 (zh0 t0 32).bind λr2=>
   ((
     bif (!((r2.1.1.length:Int)==4)) then
      some ((0,(0,(([]:PV zi),()))),r2.1.1,true,())
     else
      bif inB 0 r2.1.1.length then
       bif (!((r2.1.1.getD ((0:Int).toNat) [])==[64,64])) then
        some ((0,(0,(([]:PV zi),()))),r2.1.1,true,())
       else
        bif inB 3 r2.1.1.length then
         bif (!((r2.1.1.getD ((3:Int).toNat) [])==[64,64])) then
          some ((0,(0,(([]:PV zi),()))),r2.1.1,true,())
         else
          bif inB 1 r2.1.1.length then
           bif (decide (((r2.1.1.getD ((1:Int).toNat) []).length:Int)<2)) then
            some ((0,(0,(([]:PV zi),()))),r2.1.1,true,())
           else
            bif inB 2 r2.1.1.length then
             bif (decide (((r2.1.1.getD ((2:Int).toNat) []).length:Int)<2)) then
              some ((0,(0,(([]:PV zi),()))),r2.1.1,true,())
             else
              bif inB 1 r2.1.1.length then
               bif inB 0 (r2.1.1.getD ((1:Int).toNat) []).length then
                bif (!((((r2.1.1.getD ((1:Int).toNat) []).getD (0:Int).toNat 0).toNat:Int)==45)) then
                 some ((0,(0,(([]:PV zi),()))),r2.1.1,true,())
                else
                 bif inB 2 r2.1.1.length then
                  bif inB 0 (r2.1.1.getD ((2:Int).toNat) []).length then
                   some ((0,(0,(([]:PV zi),()))),r2.1.1,(!((((r2.1.1.getD ((2:Int).toNat) []).getD (0:Int).toNat 0).toNat:Int)==43)),())
                  else
                   none
                 else
                  none
               else
                none
              else
               none
            else
             none
          else
           none
        else
         none
      else
       none:Option ((PV zh×PV zf×PV .bool×Unit)))).bind λj4=>
     bif j4.2.2.1 then
      some (((0,(0,(([]:PV zi),()))),0,0,false,()),())
     else
      bif inB 1 j4.2.1.length then
       bif cutB 1 ((j4.2.1.getD ((1:Int).toNat) []).length:Int) (j4.2.1.getD ((1:Int).toNat) []).length then
        (zeq (cutL 1 ((j4.2.1.getD ((1:Int).toNat) []).length:Int) (j4.2.1.getD ((1:Int).toNat) []))).bind λr6=>
          bif inB 2 j4.2.1.length then
           bif cutB 1 ((j4.2.1.getD ((2:Int).toNat) []).length:Int) (j4.2.1.getD ((2:Int).toNat) []).length then
            (zeq (cutL 1 ((j4.2.1.getD ((2:Int).toNat) []).length:Int) (j4.2.1.getD ((2:Int).toNat) []))).bind λr8=>
              bif r6.1.2.2.1 then
               some (((r6.1.1,(r8.1.1,(([]:PV zi),()))),r6.1.2.1,r8.1.2.1,r8.1.2.2.1,()),())
              else
               some (((r6.1.1,(r8.1.1,(([]:PV zi),()))),r6.1.2.1,r8.1.2.1,false,()),())
           else
            none
          else
           none
       else
        none
      else
       none
def z6j:Ct:=⟨[(.bor,.str)],[(zh,(.pr .b (.pr .b (.pr (.row (.pr .b (.pr .b .b))) .b)))),((.int .i64),.b),((.int .i64),.b),(.bool,.b)],λx=>zdb x.1⟩
def qxy:Cx:=⟨tab,arrs,[(193,zow),(194,z1d)],[],gl,[]⟩
theorem qxz:FnOk gl Tryz.prog 124 z6j:=
 fo qxy qxx 0 (oz ⟨zth,qoq,trivial⟩ trivial) Tryz.func124 (by kernel_rfl) (by kernel_rfl) (by kernel_rfl)
  (ll 0 (by kernel_rfl) trivial) (λx=>by kernel_rfl)
def qx0:Plan:=⟨[],[],0,0⟩
def zpk (t0:PV (.int .u8)):Option (PVs [(.int .i64)]×PVs []):=
 bif (t0==32) then
  some ((1,()),())
 else
  bif (t0==45) then
   some ((2,()),())
  else
   bif (t0==43) then
    some ((3,()),())
   else
    some ((0,()),())
def z6k:Ct:=⟨[(.bor,(.int .u8))],[((.int .i64),.b)],λx=>zpk x.1⟩
def qx1:Cx:=⟨tab,arrs,[],[],gl,[]⟩
theorem qx2:FnOk gl Tryz.prog 195 z6k:=
 fo qx1 qx0 0 (oz trivial trivial) Tryz.func195 (by kernel_rfl) (by kernel_rfl) (by kernel_rfl)
  (ll 0 (by kernel_rfl) trivial) (λx=>by kernel_rfl)
def quf:List Out:=[⟨.normal,⟨[],[0,1,2,8,9,10,11,17,18,19,20,51],[]⟩,mkSh 75 [(0,.val zf .b),(1,.val (.int .i64) .b),(2,.val (.int .i64) .b),(8,.val zi (.row (.pr .b (.pr .b .b)))),(9,.val (.int .i64) .b),(10,.val (.int .i64) .b),(11,.val .str .b),(17,.val (.int .i64) .b),(18,.val (.int .i64) .b),(19,.val (.int .i64) .b),(20,.val .bool .b),(51,.val .bool .b)]⟩]
def qrd:List Out:=[⟨.normal,⟨[],[0,1,2,8,9,10,11,17,18,19,20,42,43,44,45,46,49,50],[]⟩,mkSh 75 [(0,.val zf .b),(1,.val (.int .i64) .b),(2,.val (.int .i64) .b),(8,.val zi (.row (.pr .b (.pr .b .b)))),(9,.val (.int .i64) .b),(10,.val (.int .i64) .b),(11,.val .str .b),(17,.val (.int .i64) .b),(18,.val (.int .i64) .b),(19,.val (.int .i64) .b),(20,.val .bool .b)]⟩]
def qre:List Out:=[⟨.normal,⟨[],[0,1,2,8,9,10,11,17,18,19,20,42,43,44,45,46,49,50],[]⟩,mkSh 75 [(0,.val zf .b),(1,.val (.int .i64) .b),(2,.val (.int .i64) .b),(8,.val zi (.row (.pr .b (.pr .b .b)))),(9,.val (.int .i64) .b),(10,.val (.int .i64) .b),(11,.val .str .b),(17,.val (.int .i64) .b),(18,.val (.int .i64) .b),(19,.val (.int .i64) .b),(20,.val .bool .b)]⟩]
def qrf:List Out:=[⟨.normal,⟨[],[0,1,2,8,9,10,11,17,18,19,20,42,43,44,45,46,49,50],[]⟩,mkSh 75 [(0,.val zf .b),(1,.val (.int .i64) .b),(2,.val (.int .i64) .b),(8,.val zi (.row (.pr .b (.pr .b .b)))),(9,.val (.int .i64) .b),(10,.val (.int .i64) .b),(11,.val .str .b),(17,.val (.int .i64) .b),(18,.val (.int .i64) .b),(19,.val (.int .i64) .b),(20,.val .bool .b)]⟩]
def qrg:List Sh:=mkSh 75 [(0,.val zf .b),(1,.val (.int .i64) .b),(2,.val (.int .i64) .b),(8,.val zi (.row (.pr .b (.pr .b .b)))),(9,.val (.int .i64) .b)]
def qug:List Out:=[⟨.exit 0,⟨[],[8,9],[]⟩,mkSh 75 [(8,.val zi (.row (.pr .b (.pr .b .b)))),(9,.val (.int .i64) .b)]⟩]
def zjj (t0:PV zf)(t1:PV (.int .i64))(t2:PV (.int .i64))(t8:PV zi)(t9:PV (.int .i64)):Option ((PV zf×PV (.int .i64)×PV (.int .i64)×PV zi×PV (.int .i64)×Unit)⊕((PV zi×PV (.int .i64)×Unit))):=
 bif (decide (t9<(t0.length:Int))) then
  bif (decide ((IntKind.wrap .i64 (t1+t2))>0)) then
   bif inB t9 t0.length then
    bif inB 0 (t0.getD t9.toNat []).length then
     (zpk (((t0.getD t9.toNat []).getD (0:Int).toNat 0).toNat:Int)).bind λr9=>
       bif (r9.1.1==0) then
        some (.inr (t8,t9,()))
       else
        bif inB t9 t0.length then
         bif cutB 1 ((t0.getD t9.toNat []).length:Int) (t0.getD t9.toNat []).length then
          ((
            ((
              bif (decide ((IntKind.wrap .i64 (t9+1))<(t0.length:Int))) then
               bif inB (IntKind.wrap .i64 (t9+1)) t0.length then
                bif ((t0.getD ((IntKind.wrap .i64 (t9+1)).toNat) [])==[92,32,110,111,110,101,10]) then
                 some (t0,t1,t2,t8,(IntKind.wrap .i64 (t9+1)),r9.1.1,(cutL 1 ((t0.getD t9.toNat []).length:Int) (t0.getD t9.toNat [])),t1,t2,(IntKind.wrap .i64 (t1+t2)),(decide ((IntKind.wrap .i64 (t1+t2))>0)),(!((cutL 1 ((t0.getD t9.toNat []).length:Int) (t0.getD t9.toNat []))==[])),())
                else
                 some (t0,t1,t2,t8,(IntKind.wrap .i64 (t9+1)),r9.1.1,(cutL 1 ((t0.getD t9.toNat []).length:Int) (t0.getD t9.toNat [])),t1,t2,(IntKind.wrap .i64 (t1+t2)),(decide ((IntKind.wrap .i64 (t1+t2))>0)),false,())
               else
                none
              else
               some (t0,t1,t2,t8,(IntKind.wrap .i64 (t9+1)),r9.1.1,(cutL 1 ((t0.getD t9.toNat []).length:Int) (t0.getD t9.toNat [])),t1,t2,(IntKind.wrap .i64 (t1+t2)),(decide ((IntKind.wrap .i64 (t1+t2))>0)),false,()):Option ((PV zf×PV (.int .i64)×PV (.int .i64)×PV zi×PV (.int .i64)×PV (.int .i64)×PV .str×PV (.int .i64)×PV (.int .i64)×PV (.int .i64)×PV .bool×PV .bool×Unit)))).bind λj10=>
              bif j10.2.2.2.2.2.2.2.2.2.2.2.1 then
               bif cutB 0 (IntKind.wrap .i64 ((j10.2.2.2.2.2.2.1.length:Int) -1)) j10.2.2.2.2.2.2.1.length then
                some (j10.1,j10.2.1,j10.2.2.1,j10.2.2.2.1,(IntKind.wrap .i64 (j10.2.2.2.2.1+1)),j10.2.2.2.2.2.1,(cutL 0 (IntKind.wrap .i64 ((j10.2.2.2.2.2.2.1.length:Int) -1)) j10.2.2.2.2.2.2.1),j10.2.2.2.2.2.2.2.1,j10.2.2.2.2.2.2.2.2.1,j10.2.2.2.2.2.2.2.2.2.1,j10.2.2.2.2.2.2.2.2.2.2.1,())
               else
                none
              else
               some (j10.1,j10.2.1,j10.2.2.1,j10.2.2.2.1,j10.2.2.2.2.1,j10.2.2.2.2.2.1,j10.2.2.2.2.2.2.1,j10.2.2.2.2.2.2.2.1,j10.2.2.2.2.2.2.2.2.1,j10.2.2.2.2.2.2.2.2.2.1,j10.2.2.2.2.2.2.2.2.2.2.1,()):Option ((PV zf×PV (.int .i64)×PV (.int .i64)×PV zi×PV (.int .i64)×PV (.int .i64)×PV .str×PV (.int .i64)×PV (.int .i64)×PV (.int .i64)×PV .bool×Unit)))).bind λj11=>
            ((
              bif (!(j11.2.2.2.2.2.1==3)) then
               some (j11.1,(IntKind.wrap .i64 (j11.2.1 -1)),j11.2.2.1,j11.2.2.2.1,j11.2.2.2.2.1,j11.2.2.2.2.2.1,j11.2.2.2.2.2.2.1,j11.2.2.2.2.2.2.2.1,j11.2.2.2.2.2.2.2.2.1,j11.2.2.2.2.2.2.2.2.2.1,j11.2.2.2.2.2.2.2.2.2.2.1,())
              else
               some (j11.1,j11.2.1,j11.2.2.1,j11.2.2.2.1,j11.2.2.2.2.1,j11.2.2.2.2.2.1,j11.2.2.2.2.2.2.1,j11.2.2.2.2.2.2.2.1,j11.2.2.2.2.2.2.2.2.1,j11.2.2.2.2.2.2.2.2.2.1,j11.2.2.2.2.2.2.2.2.2.2.1,()):Option ((PV zf×PV (.int .i64)×PV (.int .i64)×PV zi×PV (.int .i64)×PV (.int .i64)×PV .str×PV (.int .i64)×PV (.int .i64)×PV (.int .i64)×PV .bool×Unit)))).bind λj12=>
              ((
                bif (!(j12.2.2.2.2.2.1==2)) then
                 some (j12.1,j12.2.1,(IntKind.wrap .i64 (j12.2.2.1 -1)),j12.2.2.2.1,j12.2.2.2.2.1,j12.2.2.2.2.2.1,j12.2.2.2.2.2.2.1,j12.2.2.2.2.2.2.2.1,j12.2.2.2.2.2.2.2.2.1,j12.2.2.2.2.2.2.2.2.2.1,j12.2.2.2.2.2.2.2.2.2.2.1,())
                else
                 some (j12.1,j12.2.1,j12.2.2.1,j12.2.2.2.1,j12.2.2.2.2.1,j12.2.2.2.2.2.1,j12.2.2.2.2.2.2.1,j12.2.2.2.2.2.2.2.1,j12.2.2.2.2.2.2.2.2.1,j12.2.2.2.2.2.2.2.2.2.1,j12.2.2.2.2.2.2.2.2.2.2.1,()):Option ((PV zf×PV (.int .i64)×PV (.int .i64)×PV zi×PV (.int .i64)×PV (.int .i64)×PV .str×PV (.int .i64)×PV (.int .i64)×PV (.int .i64)×PV .bool×Unit)))).bind λj13=>
                bif qm (j13.2.2.2.1.length+[(j13.2.2.2.2.2.1,(j13.2.2.2.2.2.2.1,()))].length) then
                 some (.inl (j13.1,j13.2.1,j13.2.2.1,(j13.2.2.2.1++[(j13.2.2.2.2.2.1,(j13.2.2.2.2.2.2.1,()))]),j13.2.2.2.2.1,()))
                else
                 none
         else
          none
        else
         none
    else
     none
   else
    none
  else
   some (.inr (t8,t9,()))
 else
  some (.inr (t8,t9,()))
def zjk:PV zf×PV (.int .i64)×PV (.int .i64)×PV zi×PV (.int .i64)×Unit->Option ((PV zi×PV (.int .i64)×Unit)):=fix λd=>zjj d.1 d.2.1 d.2.2.1 d.2.2.2.1 d.2.2.2.2.1
def z2s:Lp:=⟨⟨[],[0,1,2,8,9,42,43,44,45,46,49,50],[]⟩,qrg,qug,λd=>zjj d.1 d.2.1 d.2.2.1 d.2.2.2.1 d.2.2.2.2.1⟩
def qx3:Plan:=⟨[(9,quf),(11,qrd),(13,qre),(15,qrf)],[(3,z2s)],0,0⟩
def zpl (t0:PV zf)(t1:PV (.int .i64))(t2:PV (.int .i64)):Option (PVs [zi,(.int .i64)]×PVs []):=
 (zjk (t0,t1,t2,[],0,())).bind λl15=>
   some ((l15.1,l15.2.1,()),())
def z6l:Ct:=⟨[(.bor,zf),(.bor,(.int .i64)),(.bor,(.int .i64))],[(zi,(.row (.pr .b (.pr .b .b)))),((.int .i64),.b)],λx=>zpl x.1 x.2.1 x.2.2.1⟩
def qx4:Cx:=⟨tab,arrs,[(195,z6k)],[],gl,[]⟩
theorem qx5:FnOk gl Tryz.prog 125 z6l:=
 fo qx4 qx3 0 (oz ⟨qx2,trivial⟩ trivial) Tryz.func125 (by kernel_rfl) (by kernel_rfl) (by kernel_rfl)
  (ll 1 (by kernel_rfl) (lc z2s (by kernel_rfl) (λd=>by kernel_rfl) trivial)) (λx=>by kernel_rfl)
def qrh:List Sh:=mkSh 17 [(3,.val .str .b),(6,.val zf .b),(7,.val (.int .i64) .b),(8,.val (.int .i64) .b)]
def quh:List Out:=[⟨.exit 0,⟨[],[3],[]⟩,mkSh 17 [(3,.val .str .b)]⟩]
def zhp (t3:PV .str)(t6:PV zf)(t7:PV (.int .i64))(t8:PV (.int .i64)):Option ((PV .str×PV zf×PV (.int .i64)×PV (.int .i64)×Unit)⊕((PV .str×Unit))):=
 bif (decide (t8<t7)) then
  bif inB t8 t6.length then
   bif decide (t3.length+(t6.getD t8.toNat []).length<=1099511627776) then
    some (.inl ((t3++(t6.getD t8.toNat [])),t6,t7,(IntKind.wrap .i64 (t8+1)),()))
   else
    none
  else
   none
 else
  some (.inr (t3,()))
def z4p:PV .str×PV zf×PV (.int .i64)×PV (.int .i64)×Unit->Option ((PV .str×Unit)):=fix λd=>zhp d.1 d.2.1 d.2.2.1 d.2.2.2.1
def z2t:Lp:=⟨⟨[],[3,6,7,8],[]⟩,qrh,quh,λd=>zhp d.1 d.2.1 d.2.2.1 d.2.2.2.1⟩
def qx6:Plan:=⟨[],[(3,z2t)],0,0⟩
def zpm (t0:PV zf):Option (PVs [.str]×PVs []):=
 (z4p ([],t0,(t0.length:Int),0,())).bind λl2=>
   some ((l2.1,()),())
def z6m:Ct:=⟨[(.bor,zf)],[(.str,.b)],λx=>zpm x.1⟩
def qx7:Cx:=⟨tab,arrs,[],[],gl,[]⟩
theorem qx8:FnOk gl Tryz.prog 127 z6m:=
 fo qx7 qx6 0 (oz trivial trivial) Tryz.func127 (by kernel_rfl) (by kernel_rfl) (by kernel_rfl)
  (ll 1 (by kernel_rfl) (lc z2t (by kernel_rfl) (λd=>by kernel_rfl) trivial)) (λx=>by kernel_rfl)
def qi0:List Out:=[⟨.normal,⟨[],[6,87],[]⟩,mkSh 89 [(6,.val zk (.row (.pr .b (.pr .b (.pr (.row (.pr .b (.pr .b .b))) .b))))),(87,.val .bool .b)]⟩]
def qi1:List Sh:=mkSh 89 [(5,.val zf .b),(6,.val zk (.row (.pr .b (.pr .b (.pr (.row (.pr .b (.pr .b .b))) .b))))),(7,.val .str .b)]
def qjm:List Out:=[⟨.exit 0,⟨[],[6,7,83,84,85,86],[]⟩,mkSh 89 [(6,.val zk (.row (.pr .b (.pr .b (.pr (.row (.pr .b (.pr .b .b))) .b))))),(7,.val .str .b)]⟩,⟨.ret,⟨[],[2,3,4],[]⟩,mkSh 89 [(2,.val zk (.row (.pr .b (.pr .b (.pr (.row (.pr .b (.pr .b .b))) .b))))),(3,.val (.int .i64) .b),(4,.val .bool .b)]⟩]
def zg5 (t5:PV zf)(t6:PV zk)(t7:PV .str):Option ((PV zf×PV zk×PV .str×Unit)⊕((PV zk×PV .str×Unit)⊕(PV zk×PV (.int .i64)×PV .bool×Unit))):=
 bif (decide ((t5.length:Int)>0)) then
  bif inB 0 t5.length then
   (zo5 (t5.getD ((0:Int).toNat) [])).bind λr5=>
     (zdb r5.1.1).bind λr6=>
       bif (!r6.1.2.2.2.1) then
        some (.inr (.inr ([],1,false,())))
       else
        bif cutB 1 (t5.length:Int) t5.length then
         (zpl (cutL 1 (t5.length:Int) t5) r6.1.2.1 r6.1.2.2.1).bind λr8=>
           (ze5 r6.1.1.1 r6.1.2.1).bind λr11=>
             bif decide ([64,64,32,45].length+r11.1.1.length<=1099511627776) then
              bif decide (([64,64,32,45]++r11.1.1).length+[32,43].length<=1099511627776) then
               (ze5 r6.1.1.2.1 r6.1.2.2.1).bind λr12=>
                 bif decide ((([64,64,32,45]++r11.1.1)++[32,43]).length+r12.1.1.length<=1099511627776) then
                  bif decide (((([64,64,32,45]++r11.1.1)++[32,43])++r12.1.1).length+[32,64,64,10].length<=1099511627776) then
                   bif cutB 1 (IntKind.wrap .i64 (1+r8.1.2.1)) t5.length then
                    (zpm (cutL 1 (IntKind.wrap .i64 (1+r8.1.2.1)) t5)).bind λr14=>
                      bif decide ((((([64,64,32,45]++r11.1.1)++[32,43])++r12.1.1)++[32,64,64,10]).length+r14.1.1.length<=1099511627776) then
                       bif decide (t7.length+((((([64,64,32,45]++r11.1.1)++[32,43])++r12.1.1)++[32,64,64,10])++r14.1.1).length<=1099511627776) then
                        bif inB 0 t5.length then
                         (zda (t5.getD ((0:Int).toNat) [])).bind λr18=>
                           bif (!r18.1.1) then
                            some (.inr (.inr ([],1,false,())))
                           else
                            bif cutB (IntKind.wrap .i64 (1+r8.1.2.1)) (t5.length:Int) t5.length then
                             bif qm (t6.length+[(r6.1.1.1,(r6.1.1.2.1,(r8.1.1,r6.1.1.2.2.2)))].length) then
                              some (.inl ((cutL (IntKind.wrap .i64 (1+r8.1.2.1)) (t5.length:Int) t5),(t6++[(r6.1.1.1,(r6.1.1.2.1,(r8.1.1,r6.1.1.2.2.2)))]),(t7++((((([64,64,32,45]++r11.1.1)++[32,43])++r12.1.1)++[32,64,64,10])++r14.1.1)),()))
                             else
                              none
                            else
                             none
                        else
                         none
                       else
                        none
                      else
                       none
                   else
                    none
                  else
                   none
                 else
                  none
              else
               none
             else
              none
        else
         none
  else
   none
 else
  some (.inr (.inl (t6,t7,())))
def zi7:PV zf×PV zk×PV .str×Unit->Option ((PV zk×PV .str×Unit)⊕(PV zk×PV (.int .i64)×PV .bool×Unit)):=fix λd=>zg5 d.1 d.2.1 d.2.2.1
def zyy:Lp:=⟨⟨[],[5,6,7,83,84,85,86],[]⟩,qi1,qjm,λd=>zg5 d.1 d.2.1 d.2.2.1⟩
def qkz:Plan:=⟨[(19,qi0)],[(6,zyy)],0,0⟩
def zlj (t0:PV .str):Option (PVs [zk,(.int .i64),.bool]×PVs []):=
 bif (decide ((t0.length:Int)>3000)) then
  some (([],1,false,()),())
 else
  (zmn t0).bind λr2=>
    (zi7 (r2.1.1,[],[],())).bind λx31=>
      match x31 with
      | .inl l21=>
        ((
          (zh9 l21.1).bind λr27=>
            bif (!r27.1.1) then
             some (l21.1,true,())
            else
             (zjt l21.1).bind λr28=>
               some (l21.1,(!(r28.1.1==l21.2.1)),()):Option ((PV zk×PV .bool×Unit)))).bind λj29=>
          bif j29.2.1 then
           some (([],1,false,()),())
          else
           some ((j29.1,0,true,()),())
      | .inr l30=>
        some ((l30.1,l30.2.1,l30.2.2.1,()),())
def zzp:Ct:=⟨[(.bor,.str)],[(zk,(.row (.pr .b (.pr .b (.pr (.row (.pr .b (.pr .b .b))) .b))))),((.int .i64),.b),(.bool,.b)],λx=>zlj x.1⟩
def qk0:Cx:=⟨tab,arrs,[(79,zug),(81,z4n),(95,zl1),(124,z6j),(125,z6l),(126,zte),(127,z6m),(128,zhz),(129,ztw)],[],gl,[]⟩
theorem qk1:FnOk gl Tryz.prog 62 zzp:=
 fo qk0 qkz 0 (oz ⟨z8b,qt9,zo4,qxz,qx5,z4h,qx8,zjo,z6f,trivial⟩ trivial) Tryz.func62 (by kernel_rfl) (by kernel_rfl) (by kernel_rfl)
  (ll 1 (by kernel_rfl) (lc zyy (by kernel_rfl) (λd=>by kernel_rfl) trivial)) (λx=>by kernel_rfl)
def qi2:List Out:=[⟨.normal,⟨[],[1,6,7,14,15,16,45],[]⟩,mkSh 65 [(1,.val zk .b),(6,.var zh .b),(7,.var zh .b),(14,.val zk .b),(15,.val (.int .i64) .b),(16,.val (.int .i64) .b),(45,.val .bool .b)]⟩]
def qhp:List Sh:=mkSh 65 [(1,.val zk .b),(6,.var zh .b),(7,.var zh .b),(14,.val zk .b),(15,.val (.int .i64) .b),(16,.val (.int .i64) .b),(48,.val (.int .i64) .b),(49,.val (.int .i64) .b)]
def qh8:List Out:=[⟨.exit 2,⟨[],[1,14,15,16,31,32,33,34,35,38,39,40,41,42,43,44],[]⟩,mkSh 65 [(1,.val zk .b),(14,.val zk .b),(15,.val (.int .i64) .b),(16,.val (.int .i64) .b)]⟩,⟨.ret,⟨[],[4],[]⟩,mkSh 65 [(4,.val .bool .b)]⟩]
def zec (t1:PV zk)(t6:PV zh)(t7:PV zh)(t14:PV zk)(t15:PV (.int .i64))(t16:PV (.int .i64))(t48:PV (.int .i64))(t49:PV (.int .i64)):Option ((PV zk×PV zh×PV zh×PV zk×PV (.int .i64)×PV (.int .i64)×PV (.int .i64)×PV (.int .i64)×Unit)⊕((PV zk×PV zk×PV (.int .i64)×PV (.int .i64)×Unit)⊕(PV .bool×Unit))):=
 bif (decide (t49<t48)) then
  bif inB t49 t6.2.2.1.length then
   bif inB t49 t7.2.2.1.length then
    bif (!((t6.2.2.1.getD t49.toNat (dflt zo)).1==(t7.2.2.1.getD t49.toNat (dflt zo)).1&&(t6.2.2.1.getD t49.toNat (dflt zo)).2.1==(t7.2.2.1.getD t49.toNat (dflt zo)).2.1)) then
     some (.inr (.inr (false,())))
    else
     some (.inl (t1,t6,t7,t14,t15,t16,t48,(IntKind.wrap .i64 (t49+1)),()))
   else
    none
  else
   none
 else
  some (.inr (.inl (t1,t14,t15,t16,())))
def zym:PV zk×PV zh×PV zh×PV zk×PV (.int .i64)×PV (.int .i64)×PV (.int .i64)×PV (.int .i64)×Unit->Option ((PV zk×PV zk×PV (.int .i64)×PV (.int .i64)×Unit)⊕(PV .bool×Unit)):=fix λd=>zec d.1 d.2.1 d.2.2.1 d.2.2.2.1 d.2.2.2.2.1 d.2.2.2.2.2.1 d.2.2.2.2.2.2.1 d.2.2.2.2.2.2.2.1
def zyd:Lp:=⟨⟨[],[1,6,7,14,15,16,31,32,33,34,35,38,39,40,41,42,43,44,48,49],[]⟩,qhp,qh8,λd=>zec d.1 d.2.1 d.2.2.1 d.2.2.2.1 d.2.2.2.2.1 d.2.2.2.2.2.1 d.2.2.2.2.2.2.1 d.2.2.2.2.2.2.2.1⟩
def qh9:List Sh:=mkSh 65 [(1,.val zk .b),(14,.val zk .b),(15,.val (.int .i64) .b),(16,.val (.int .i64) .b)]
def qi3:List Out:=[⟨.exit 0,⟨[],[],[]⟩,mkSh 65 []⟩,⟨.ret,⟨[],[4],[]⟩,mkSh 65 [(4,.val .bool .b)]⟩]
def zee (t1:PV zk)(t14:PV zk)(t15:PV (.int .i64))(t16:PV (.int .i64)):Option ((PV zk×PV zk×PV (.int .i64)×PV (.int .i64)×Unit)⊕((Unit)⊕(PV .bool×Unit))):=
 bif (decide (t16<t15)) then
  bif inB t16 t14.length then
   bif inB t16 t1.length then
    ((
      bif (!(((t14.getD t16.toNat (dflt zh)).1)==((t1.getD t16.toNat (dflt zh)).1))) then
       some (t1,(t14.getD t16.toNat (dflt zh)),(t1.getD t16.toNat (dflt zh)),t14,t15,t16,true,())
      else
       bif (!((((t14.getD t16.toNat (dflt zh)).2).1)==(((t1.getD t16.toNat (dflt zh)).2).1))) then
        some (t1,(t14.getD t16.toNat (dflt zh)),(t1.getD t16.toNat (dflt zh)),t14,t15,t16,true,())
       else
        some (t1,(t14.getD t16.toNat (dflt zh)),(t1.getD t16.toNat (dflt zh)),t14,t15,t16,(!((((((t14.getD t16.toNat (dflt zh)).2).2).1).length:Int)==(((((t1.getD t16.toNat (dflt zh)).2).2).1).length:Int))),()):Option ((PV zk×PV zh×PV zh×PV zk×PV (.int .i64)×PV (.int .i64)×PV .bool×Unit)))).bind λj6=>
      bif j6.2.2.2.2.2.2.1 then
       some (.inr (.inr (false,())))
      else
       (zym (j6.1,j6.2.1,j6.2.2.1,j6.2.2.2.1,j6.2.2.2.2.1,j6.2.2.2.2.2.1,(j6.2.1.2.2.1.length:Int),0,())).bind λx13=>
         match x13 with
         | .inl l7=>
           some (.inl (l7.1,l7.2.1,l7.2.2.1,(IntKind.wrap .i64 (l7.2.2.2.1+1)),()))
         | .inr l8=>
           some (.inr (.inr (l8.1,())))
   else
    none
  else
   none
 else
  some (.inr (.inl ()))
def zyz:PV zk×PV zk×PV (.int .i64)×PV (.int .i64)×Unit->Option ((Unit)⊕(PV .bool×Unit)):=fix λd=>zee d.1 d.2.1 d.2.2.1 d.2.2.2.1
def zyn:Lp:=⟨⟨[],[1,14,15,16,31,32,33,34,35,38,39,40,41,42,43,44],[]⟩,qh9,qi3,λd=>zee d.1 d.2.1 d.2.2.1 d.2.2.2.1⟩
def qjn:Plan:=⟨[(8,qi2)],[(10,zyd),(4,zyn)],0,0⟩
def zn8 (t0:PV zk)(t1:PV zk):Option (PVs [.bool]×PVs []):=
 bif (!((t0.length:Int)==(t1.length:Int))) then
  some ((false,()),())
 else
  (zyz (t1,t0,(t0.length:Int),0,())).bind λx14=>
    match x14 with
    | .inl l11=>
      some ((true,()),())
    | .inr l12=>
      some ((l12.1,()),())
def zza:Ct:=⟨[(.bor,zk),(.bor,zk)],[(.bool,.b)],λx=>zn8 x.1 x.2.1⟩
def qjo:Cx:=⟨tab,arrs,[],[],gl,[]⟩
theorem qjp:FnOk gl Tryz.prog 63 zza:=
 fo qjo qjn 0 (oz trivial trivial) Tryz.func63 (by kernel_rfl) (by kernel_rfl) (by kernel_rfl)
  (ll 2 (by kernel_rfl) (lc zyn (by kernel_rfl) (λd=>by kernel_rfl) (lc zyd (by kernel_rfl) (λd=>by kernel_rfl) trivial))) (λx=>by kernel_rfl)
def qmu:List Out:=[⟨.normal,⟨[],[6,9,29],[]⟩,mkSh 33 [(6,.val zk (.row (.pr .b (.pr .b (.pr (.row (.pr .b (.pr .b .b))) .b))))),(9,.val zk (.row (.pr .b (.pr .b (.pr (.row (.pr .b (.pr .b .b))) .b))))),(29,.val .bool .b)]⟩]
def qor:Plan:=⟨[(4,qmu)],[],0,0⟩
def zlr (t0:PV .str)(t1:PV .str):Option (PVs [.bool,.bool]×PVs []):=
 (zli t0).bind λr2=>
   (zlj t1).bind λr4=>
     ((
       bif (!r2.1.2.2.1) then
        some (r2.1.1,r4.1.1,true,())
       else
        some (r2.1.1,r4.1.1,(!r4.1.2.2.1),()):Option ((PV zk×PV zk×PV .bool×Unit)))).bind λj6=>
       bif j6.2.2.1 then
        some ((false,false,()),())
       else
        (zn8 j6.1 j6.2.1).bind λr7=>
          some ((r7.1.1,true,()),())
def z1e:Ct:=⟨[(.bor,.str),(.bor,.str)],[(.bool,.b),(.bool,.b)],λx=>zlr x.1 x.2.1⟩
def qot:Cx:=⟨tab,arrs,[(50,zzo),(62,zzp),(63,zza)],[],gl,[]⟩
theorem qou:FnOk gl Tryz.prog 17 z1e:=
 fo qot qor 0 (oz ⟨qkw,qk1,qjp,trivial⟩ trivial) Tryz.func17 (by kernel_rfl) (by kernel_rfl) (by kernel_rfl)
  (ll 0 (by kernel_rfl) trivial) (λx=>by kernel_rfl)
def qi4:List Out:=[⟨.normal,⟨[],[1,8,9,12,13,59,62,73,74,97,98,99],[]⟩,mkSh 101 [(1,.val xu .b),(8,.val .str .b),(9,.val .bool .b),(12,.val .str .b),(13,.val .bool .b),(59,.val .bool .b)]⟩]
def qia:List Out:=[⟨.normal,⟨[],[1,8,12,63,73,74,97,98,99],[]⟩,mkSh 101 [(1,.val xu .b),(8,.val .str .b),(12,.val .str .b),(63,.val .bool .b)]⟩]
def qib:List Out:=[⟨.normal,⟨[],[1,75,97,98,99],[]⟩,mkSh 101 [(1,.val xu .b),(75,.val .bool .b)]⟩]
def qic:List Out:=[⟨.normal,⟨[],[1,97,98,99],[]⟩,mkSh 101 [(1,.val xu .b)]⟩,⟨.ret,⟨[],[4],[]⟩,mkSh 101 [(4,.val .bool .b)]⟩]
def qjq:Plan:=⟨[(8,qi4),(10,qia),(12,qib),(13,qic)],[],0,0⟩
def zsf (t0:PV xu)(t1:PV xu):Option (PVs [.bool]×PVs []):=
 (zq1 t0 t1).bind λr4=>
   bif r4.1.1 then
    some ((true,()),())
   else
    (zn4 t0).bind λr6=>
      (zoe r6.1.1 r6.1.2.1 r6.1.2.2.1).bind λr8=>
        (zlh r6.1.1 r6.1.2.1 r6.1.2.2.1).bind λr10=>
          (zof r6.1.1 r6.1.2.1 r6.1.2.2.1).bind λr12=>
            ((
              bif (!(r8.1.2.1==r10.1.2.1)) then
               some (t1,r8.1.1,r8.1.2.1,r12.1.1,r12.1.2.1,true,())
              else
               some (t1,r8.1.1,r8.1.2.1,r12.1.1,r12.1.2.1,(!(r8.1.1==r10.1.1)),()):Option ((PV xu×PV .str×PV .bool×PV .str×PV .bool×PV .bool×Unit)))).bind λj14=>
              bif j14.2.2.2.2.2.1 then
               some ((false,()),())
              else
               ((
                 ((
                   bif j14.2.2.1 then
                    some (j14.1,j14.2.1,j14.2.2.2.1,j14.2.2.2.2.1,())
                   else
                    some (j14.1,j14.2.1,j14.2.2.2.1,false,()):Option ((PV xu×PV .str×PV .str×PV .bool×Unit)))).bind λj19=>
                   bif j19.2.2.2.1 then
                    (zf0 j19.2.1 j19.2.2.1).bind λr21=>
                      ((
                        bif (!r21.1.2.1) then
                         some (j19.1,true,())
                        else
                         some (j19.1,(!r21.1.1),()):Option ((PV xu×PV .bool×Unit)))).bind λj22=>
                        bif j22.2.1 then
                         some (.inr (false,()))
                        else
                         some (.inl (j22.1,()))
                   else
                    some (.inl (j19.1,())):Option ((PV xu×Unit)⊕(PV .bool×Unit)))).bind λx31=>
                 match x31 with
                 | .inl j23=>
                   (zld j23.1).bind λr25=>
                     (zf0 r25.1.1 r25.1.2.1).bind λr27=>
                       (zlr r25.1.1 r25.1.2.1).bind λr29=>
                         bif (r27.1.2.1==r29.1.2.1) then
                          some (((r27.1.1==r29.1.1),()),())
                         else
                          some ((false,()),())
                 | .inr j30=>
                   some ((j30.1,()),())
def qjr:Ct:=⟨[(.bor,xu),(.bor,xu)],[(.bool,.b)],λx=>zsf x.1 x.2.1⟩
def qjs:Cx:=⟨tab,arrs,[(10,qco),(11,zye),(12,zzq),(13,zsd),(14,zzr),(15,z1f),(16,zyw),(17,z1e)],[],gl,[]⟩
theorem qjt:FnOk gl Tryz.prog 3 qjr:=
 fo qjs qjq 0 (oz ⟨q5v,qhq,qk2,zzm,qk3,qov,qix,qou,trivial⟩ trivial) Tryz.func3 (by kernel_rfl) (by kernel_rfl) (by kernel_rfl)
  (ll 0 (by kernel_rfl) trivial) (λx=>by kernel_rfl)
end
end R
