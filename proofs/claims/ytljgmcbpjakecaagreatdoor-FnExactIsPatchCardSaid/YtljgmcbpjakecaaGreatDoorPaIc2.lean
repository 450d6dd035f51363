/- The functions, part 2. -/
import Derived.Test.YtljgmcbpjakecaaGreatDoorPaIc1
set_option linter.unusedVariables false
open Go Go.Dn Go.Proofs
namespace R
set_option maxRecDepth 20000
open Go.Shelf
noncomputable section
def qyz:Plan:=⟨[],[],0,0⟩
def zqs (t0:PV (.int .u8)):Option (PVs [(.int .i64)]×PVs []):=
 bif (t0==32) then
  some ((1,()),())
 else
  bif (t0==45) then
   some ((2,()),())
  else
   bif (t0==43) then
    some ((3,()),())
   else
    some ((0,()),())
def z8a:Ct:=⟨[(.bor,(.int .u8))],[((.int .i64),.b)],λx=>zqs x.1⟩
def qy0:Cx:=⟨tab,arrs,[],[],gl,[]⟩
theorem qy1:FnOk gl Tryz.prog 195 z8a:=
 fo qy0 qyz 0 (oz trivial trivial) Tryz.func195 (by kernel_rfl) (by kernel_rfl) (by kernel_rfl)
  (ll 0 (by kernel_rfl) trivial) (λx=>by kernel_rfl)
def qu8:List Out:=[⟨.normal,⟨[],[0,1,2,8,9,10,11,17,18,19,20,51],[]⟩,mkSh 75 [(0,.val zf .b),(1,.val (.int .i64) .b),(2,.val (.int .i64) .b),(8,.val zi (.row (.pr .b (.pr .b .b)))),(9,.val (.int .i64) .b),(10,.val (.int .i64) .b),(11,.val .str .b),(17,.val (.int .i64) .b),(18,.val (.int .i64) .b),(19,.val (.int .i64) .b),(20,.val .bool .b),(51,.val .bool .b)]⟩]
def qrq:List Out:=[⟨.normal,⟨[],[0,1,2,8,9,10,11,17,18,19,20,42,43,44,45,46,49,50],[]⟩,mkSh 75 [(0,.val zf .b),(1,.val (.int .i64) .b),(2,.val (.int .i64) .b),(8,.val zi (.row (.pr .b (.pr .b .b)))),(9,.val (.int .i64) .b),(10,.val (.int .i64) .b),(11,.val .str .b),(17,.val (.int .i64) .b),(18,.val (.int .i64) .b),(19,.val (.int .i64) .b),(20,.val .bool .b)]⟩]
def qrr:List Out:=[⟨.normal,⟨[],[0,1,2,8,9,10,11,17,18,19,20,42,43,44,45,46,49,50],[]⟩,mkSh 75 [(0,.val zf .b),(1,.val (.int .i64) .b),(2,.val (.int .i64) .b),(8,.val zi (.row (.pr .b (.pr .b .b)))),(9,.val (.int .i64) .b),(10,.val (.int .i64) .b),(11,.val .str .b),(17,.val (.int .i64) .b),(18,.val (.int .i64) .b),(19,.val (.int .i64) .b),(20,.val .bool .b)]⟩]
def qrs:List Out:=[⟨.normal,⟨[],[0,1,2,8,9,10,11,17,18,19,20,42,43,44,45,46,49,50],[]⟩,mkSh 75 [(0,.val zf .b),(1,.val (.int .i64) .b),(2,.val (.int .i64) .b),(8,.val zi (.row (.pr .b (.pr .b .b)))),(9,.val (.int .i64) .b),(10,.val (.int .i64) .b),(11,.val .str .b),(17,.val (.int .i64) .b),(18,.val (.int .i64) .b),(19,.val (.int .i64) .b),(20,.val .bool .b)]⟩]
def qrt:List Sh:=mkSh 75 [(0,.val zf .b),(1,.val (.int .i64) .b),(2,.val (.int .i64) .b),(8,.val zi (.row (.pr .b (.pr .b .b)))),(9,.val (.int .i64) .b)]
def qu9:List Out:=[⟨.exit 0,⟨[],[8,9],[]⟩,mkSh 75 [(8,.val zi (.row (.pr .b (.pr .b .b)))),(9,.val (.int .i64) .b)]⟩]
def zj0 (t0:PV zf)(t1:PV (.int .i64))(t2:PV (.int .i64))(t8:PV zi)(t9:PV (.int .i64)):Option ((PV zf×PV (.int .i64)×PV (.int .i64)×PV zi×PV (.int .i64)×Unit)⊕((PV zi×PV (.int .i64)×Unit))):=
 bif (decide (t9<(t0.length:Int))) then
  bif (decide ((IntKind.wrap .i64 (t1+t2))>0)) then
   bif inB t9 t0.length then
    bif inB 0 (t0.getD t9.toNat []).length then
     (zqs (((t0.getD t9.toNat []).getD (0:Int).toNat 0).toNat:Int)).bind λr9=>
       bif (r9.1.1==0) then
        some (.inr (t8,t9,()))
       else
        bif inB t9 t0.length then
         bif cutB 1 ((t0.getD t9.toNat []).length:Int) (t0.getD t9.toNat []).length then
          ((
            ((
              bif (decide ((IntKind.wrap .i64 (t9+1))<(t0.length:Int))) then
               bif inB (IntKind.wrap .i64 (t9+1)) t0.length then
                bif ((t0.getD ((IntKind.wrap .i64 (t9+1)).toNat) [])==[92,32,110,111,110,101,10]) then
                 some (t0,t1,t2,t8,(IntKind.wrap .i64 (t9+1)),r9.1.1,(cutL 1 ((t0.getD t9.toNat []).length:Int) (t0.getD t9.toNat [])),t1,t2,(IntKind.wrap .i64 (t1+t2)),(decide ((IntKind.wrap .i64 (t1+t2))>0)),(!((cutL 1 ((t0.getD t9.toNat []).length:Int) (t0.getD t9.toNat []))==[])),())
                else
                 some (t0,t1,t2,t8,(IntKind.wrap .i64 (t9+1)),r9.1.1,(cutL 1 ((t0.getD t9.toNat []).length:Int) (t0.getD t9.toNat [])),t1,t2,(IntKind.wrap .i64 (t1+t2)),(decide ((IntKind.wrap .i64 (t1+t2))>0)),false,())
               else
                none
              else
               some (t0,t1,t2,t8,(IntKind.wrap .i64 (t9+1)),r9.1.1,(cutL 1 ((t0.getD t9.toNat []).length:Int) (t0.getD t9.toNat [])),t1,t2,(IntKind.wrap .i64 (t1+t2)),(decide ((IntKind.wrap .i64 (t1+t2))>0)),false,()):Option ((PV zf×PV (.int .i64)×PV (.int .i64)×PV zi×PV (.int .i64)×PV (.int .i64)×PV .str×PV (.int .i64)×PV (.int .i64)×PV (.int .i64)×PV .bool×PV .bool×Unit)))).bind λj10=>
              bif j10.2.2.2.2.2.2.2.2.2.2.2.1 then
               bif cutB 0 (IntKind.wrap .i64 ((j10.2.2.2.2.2.2.1.length:Int) -1)) j10.2.2.2.2.2.2.1.length then
                some (j10.1,j10.2.1,j10.2.2.1,j10.2.2.2.1,(IntKind.wrap .i64 (j10.2.2.2.2.1+1)),j10.2.2.2.2.2.1,(cutL 0 (IntKind.wrap .i64 ((j10.2.2.2.2.2.2.1.length:Int) -1)) j10.2.2.2.2.2.2.1),j10.2.2.2.2.2.2.2.1,j10.2.2.2.2.2.2.2.2.1,j10.2.2.2.2.2.2.2.2.2.1,j10.2.2.2.2.2.2.2.2.2.2.1,())
               else
                none
              else
               some (j10.1,j10.2.1,j10.2.2.1,j10.2.2.2.1,j10.2.2.2.2.1,j10.2.2.2.2.2.1,j10.2.2.2.2.2.2.1,j10.2.2.2.2.2.2.2.1,j10.2.2.2.2.2.2.2.2.1,j10.2.2.2.2.2.2.2.2.2.1,j10.2.2.2.2.2.2.2.2.2.2.1,()):Option ((PV zf×PV (.int .i64)×PV (.int .i64)×PV zi×PV (.int .i64)×PV (.int .i64)×PV .str×PV (.int .i64)×PV (.int .i64)×PV (.int .i64)×PV .bool×Unit)))).bind λj11=>
            ((
              bif (!(j11.2.2.2.2.2.1==3)) then
               some (j11.1,(IntKind.wrap .i64 (j11.2.1 -1)),j11.2.2.1,j11.2.2.2.1,j11.2.2.2.2.1,j11.2.2.2.2.2.1,j11.2.2.2.2.2.2.1,j11.2.2.2.2.2.2.2.1,j11.2.2.2.2.2.2.2.2.1,j11.2.2.2.2.2.2.2.2.2.1,j11.2.2.2.2.2.2.2.2.2.2.1,())
              else
               some (j11.1,j11.2.1,j11.2.2.1,j11.2.2.2.1,j11.2.2.2.2.1,j11.2.2.2.2.2.1,j11.2.2.2.2.2.2.1,j11.2.2.2.2.2.2.2.1,j11.2.2.2.2.2.2.2.2.1,j11.2.2.2.2.2.2.2.2.2.1,j11.2.2.2.2.2.2.2.2.2.2.1,()):Option ((PV zf×PV (.int .i64)×PV (.int .i64)×PV zi×PV (.int .i64)×PV (.int .i64)×PV .str×PV (.int .i64)×PV (.int .i64)×PV (.int .i64)×PV .bool×Unit)))).bind λj12=>
              ((
                bif (!(j12.2.2.2.2.2.1==2)) then
                 some (j12.1,j12.2.1,(IntKind.wrap .i64 (j12.2.2.1 -1)),j12.2.2.2.1,j12.2.2.2.2.1,j12.2.2.2.2.2.1,j12.2.2.2.2.2.2.1,j12.2.2.2.2.2.2.2.1,j12.2.2.2.2.2.2.2.2.1,j12.2.2.2.2.2.2.2.2.2.1,j12.2.2.2.2.2.2.2.2.2.2.1,())
                else
                 some (j12.1,j12.2.1,j12.2.2.1,j12.2.2.2.1,j12.2.2.2.2.1,j12.2.2.2.2.2.1,j12.2.2.2.2.2.2.1,j12.2.2.2.2.2.2.2.1,j12.2.2.2.2.2.2.2.2.1,j12.2.2.2.2.2.2.2.2.2.1,j12.2.2.2.2.2.2.2.2.2.2.1,()):Option ((PV zf×PV (.int .i64)×PV (.int .i64)×PV zi×PV (.int .i64)×PV (.int .i64)×PV .str×PV (.int .i64)×PV (.int .i64)×PV (.int .i64)×PV .bool×Unit)))).bind λj13=>
                bif qw (j13.2.2.2.1.length+[(j13.2.2.2.2.2.1,(j13.2.2.2.2.2.2.1,()))].length) then
                 some (.inl (j13.1,j13.2.1,j13.2.2.1,(j13.2.2.2.1++[(j13.2.2.2.2.2.1,(j13.2.2.2.2.2.2.1,()))]),j13.2.2.2.2.1,()))
                else
                 none
         else
          none
        else
         none
    else
     none
   else
    none
  else
   some (.inr (t8,t9,()))
 else
  some (.inr (t8,t9,()))
def zj1:PV zf×PV (.int .i64)×PV (.int .i64)×PV zi×PV (.int .i64)×Unit->Option ((PV zi×PV (.int .i64)×Unit)):=fix λd=>zj0 d.1 d.2.1 d.2.2.1 d.2.2.2.1 d.2.2.2.2.1
def z4h:Lp:=⟨⟨[],[0,1,2,8,9,42,43,44,45,46,49,50],[]⟩,qrt,qu9,λd=>zj0 d.1 d.2.1 d.2.2.1 d.2.2.2.1 d.2.2.2.2.1⟩
def qy2:Plan:=⟨[(9,qu8),(11,qrq),(13,qrr),(15,qrs)],[(3,z4h)],0,0⟩
def zqu (t0:PV zf)(t1:PV (.int .i64))(t2:PV (.int .i64)):Option (PVs [zi,(.int .i64)]×PVs []):=
 (zj1 (t0,t1,t2,[],0,())).bind λl15=>
   some ((l15.1,l15.2.1,()),())
def z8b:Ct:=⟨[(.bor,zf),(.bor,(.int .i64)),(.bor,(.int .i64))],[(zi,(.row (.pr .b (.pr .b .b)))),((.int .i64),.b)],λx=>zqu x.1 x.2.1 x.2.2.1⟩
def qy3:Cx:=⟨tab,arrs,[(195,z8a)],[],gl,[]⟩
theorem qy4:FnOk gl Tryz.prog 125 z8b:=
 fo qy3 qy2 0 (oz ⟨qy1,trivial⟩ trivial) Tryz.func125 (by kernel_rfl) (by kernel_rfl) (by kernel_rfl)
  (ll 1 (by kernel_rfl) (lc z4h (by kernel_rfl) (λd=>by kernel_rfl) trivial)) (λx=>by kernel_rfl)
def qru:Plan:=⟨[],[],0,0⟩
def zmg (t0:PV (.int .i64))(t1:PV (.int .i64)):Option (PVs [(.int .i64)]×PVs []):=
 bif (decide (t1>0)) then
  some (((IntKind.wrap .i64 (t0+1)),()),())
 else
  some ((t0,()),())
def zur:Ct:=⟨[(.bor,(.int .i64)),(.bor,(.int .i64))],[((.int .i64),.b)],λx=>zmg x.1 x.2.1⟩
def qrv:Cx:=⟨tab,arrs,[],[],gl,[]⟩
theorem z4i:FnOk gl Tryz.prog 197 zur:=
 fo qrv qru 0 (oz trivial trivial) Tryz.func197 (by kernel_rfl) (by kernel_rfl) (by kernel_rfl)
  (ll 0 (by kernel_rfl) trivial) (λx=>by kernel_rfl)
def qrw:List Out:=[⟨.normal,⟨[],[5],[]⟩,mkSh 18 [(5,.val .str .b)]⟩]
def qva:Plan:=⟨[(4,qrw)],[],0,0⟩
def zfu (t0:PV (.int .i64))(t1:PV (.int .i64)):Option (PVs [.str]×PVs []):=
 (zmg t0 t1).bind λr3=>
   (zeh r3.1.1).bind λr4=>
     ((
       bif (!(t1==1)) then
        (zeh t1).bind λr6=>
          bif decide ([44].length+r6.1.1.length<=1099511627776) then
           bif decide (r4.1.1.length+([44]++r6.1.1).length<=1099511627776) then
            some ((r4.1.1++([44]++r6.1.1)),())
           else
            none
          else
           none
       else
        some (r4.1.1,()):Option ((PV .str×Unit)))).bind λj7=>
       some ((j7.1,()),())
def zu8:Ct:=⟨[(.bor,(.int .i64)),(.bor,(.int .i64))],[(.str,.b)],λx=>zfu x.1 x.2.1⟩
def qvb:Cx:=⟨tab,arrs,[(196,zq8),(197,zur)],[],gl,[]⟩
theorem z6n:FnOk gl Tryz.prog 126 zu8:=
 fo qvb qva 0 (oz ⟨zv1,z4i,trivial⟩ trivial) Tryz.func126 (by kernel_rfl) (by kernel_rfl) (by kernel_rfl)
  (ll 0 (by kernel_rfl) trivial) (λx=>by kernel_rfl)
def qrx:List Sh:=mkSh 17 [(3,.val .str .b),(6,.val zf .b),(7,.val (.int .i64) .b),(8,.val (.int .i64) .b)]
def qvc:List Out:=[⟨.exit 0,⟨[],[3],[]⟩,mkSh 17 [(3,.val .str .b)]⟩]
def zc6 (t3:PV .str)(t6:PV zf)(t7:PV (.int .i64))(t8:PV (.int .i64)):Option ((PV .str×PV zf×PV (.int .i64)×PV (.int .i64)×Unit)⊕((PV .str×Unit))):=
 bif (decide (t8<t7)) then
  bif inB t8 t6.length then
   bif decide (t3.length+(t6.getD t8.toNat []).length<=1099511627776) then
    some (.inl ((t3++(t6.getD t8.toNat [])),t6,t7,(IntKind.wrap .i64 (t8+1)),()))
   else
    none
  else
   none
 else
  some (.inr (t3,()))
def zuy:PV .str×PV zf×PV (.int .i64)×PV (.int .i64)×Unit->Option ((PV .str×Unit)):=fix λd=>zc6 d.1 d.2.1 d.2.2.1 d.2.2.2.1
def z4j:Lp:=⟨⟨[],[3,6,7,8],[]⟩,qrx,qvc,λd=>zc6 d.1 d.2.1 d.2.2.1 d.2.2.2.1⟩
def qy5:Plan:=⟨[],[(3,z4j)],0,0⟩
def zin (t0:PV zf):Option (PVs [.str]×PVs []):=
 (zuy ([],t0,(t0.length:Int),0,())).bind λl2=>
   some ((l2.1,()),())
def zvi:Ct:=⟨[(.bor,zf)],[(.str,.b)],λx=>zin x.1⟩
def qy6:Cx:=⟨tab,arrs,[],[],gl,[]⟩
theorem z8c:FnOk gl Tryz.prog 127 zvi:=
 fo qy6 qy5 0 (oz trivial trivial) Tryz.func127 (by kernel_rfl) (by kernel_rfl) (by kernel_rfl)
  (ll 1 (by kernel_rfl) (lc z4j (by kernel_rfl) (λd=>by kernel_rfl) trivial)) (λx=>by kernel_rfl)
def qy7:List Out:=[⟨.normal,⟨[],[3,7,8,9],[]⟩,mkSh 23 [(3,.val zf (.row .b)),(7,.val zi .b),(8,.val (.int .i64) .b),(9,.val (.int .i64) .b)]⟩]
def qvd:List Sh:=mkSh 23 [(3,.val zf (.row .b)),(7,.val zi .b),(8,.val (.int .i64) .b),(9,.val (.int .i64) .b)]
def qy8:List Out:=[⟨.exit 0,⟨[],[3],[]⟩,mkSh 23 [(3,.val zf (.row .b))]⟩]
def zid (t3:PV zf)(t7:PV zi)(t8:PV (.int .i64))(t9:PV (.int .i64)):Option ((PV zf×PV zi×PV (.int .i64)×PV (.int .i64)×Unit)⊕((PV zf×Unit))):=
 bif (decide (t9<t8)) then
  ((
    bif inB t9 t7.length then
     bif (!(((t7.getD t9.toNat (dflt zo)).1)==3)) then
      bif qw (t3.length+[((t7.getD t9.toNat (dflt zo)).2).1].length) then
       some ((t3++[((t7.getD t9.toNat (dflt zo)).2).1]),t7,t8,t9,())
      else
       none
     else
      some (t3,t7,t8,t9,())
    else
     none:Option ((PV zf×PV zi×PV (.int .i64)×PV (.int .i64)×Unit)))).bind λj1=>
    some (.inl (j1.1,j1.2.1,j1.2.2.1,(IntKind.wrap .i64 (j1.2.2.2.1+1)),()))
 else
  some (.inr (t3,()))
def z7h:PV zf×PV zi×PV (.int .i64)×PV (.int .i64)×Unit->Option ((PV zf×Unit)):=fix λd=>zid d.1 d.2.1 d.2.2.1 d.2.2.2.1
def z6o:Lp:=⟨⟨[],[3,7,8,9],[]⟩,qvd,qy8,λd=>zid d.1 d.2.1 d.2.2.1 d.2.2.2.1⟩
def q2n:Plan:=⟨[(7,qy7)],[(3,z6o)],0,0⟩
def zfx (t0:PV zh):Option (PVs [zf]×PVs []):=
 (z7h ([],t0.2.2.1,(t0.2.2.1.length:Int),0,())).bind λl3=>
   some ((l3.1,()),())
def zkj:Ct:=⟨[(.bor,zh)],[(zf,(.row .b))],λx=>zfx x.1⟩
def q2o:Cx:=⟨tab,arrs,[],[],gl,[]⟩
theorem zm6:FnOk gl Tryz.prog 163 zkj:=
 fo q2o q2n 0 (oz trivial trivial) Tryz.func163 (by kernel_rfl) (by kernel_rfl) (by kernel_rfl)
  (ll 1 (by kernel_rfl) (lc z6o (by kernel_rfl) (λd=>by kernel_rfl) trivial)) (λx=>by kernel_rfl)
def qy9:List Out:=[⟨.normal,⟨[],[3,7,8,9],[]⟩,mkSh 23 [(3,.val zf (.row .b)),(7,.val zi .b),(8,.val (.int .i64) .b),(9,.val (.int .i64) .b)]⟩]
def qve:List Sh:=mkSh 23 [(3,.val zf (.row .b)),(7,.val zi .b),(8,.val (.int .i64) .b),(9,.val (.int .i64) .b)]
def qza:List Out:=[⟨.exit 0,⟨[],[3],[]⟩,mkSh 23 [(3,.val zf (.row .b))]⟩]
def zie (t3:PV zf)(t7:PV zi)(t8:PV (.int .i64))(t9:PV (.int .i64)):Option ((PV zf×PV zi×PV (.int .i64)×PV (.int .i64)×Unit)⊕((PV zf×Unit))):=
 bif (decide (t9<t8)) then
  ((
    bif inB t9 t7.length then
     bif (!(((t7.getD t9.toNat (dflt zo)).1)==2)) then
      bif qw (t3.length+[((t7.getD t9.toNat (dflt zo)).2).1].length) then
       some ((t3++[((t7.getD t9.toNat (dflt zo)).2).1]),t7,t8,t9,())
      else
       none
     else
      some (t3,t7,t8,t9,())
    else
     none:Option ((PV zf×PV zi×PV (.int .i64)×PV (.int .i64)×Unit)))).bind λj1=>
    some (.inl (j1.1,j1.2.1,j1.2.2.1,(IntKind.wrap .i64 (j1.2.2.2.1+1)),()))
 else
  some (.inr (t3,()))
def z7i:PV zf×PV zi×PV (.int .i64)×PV (.int .i64)×Unit->Option ((PV zf×Unit)):=fix λd=>zie d.1 d.2.1 d.2.2.1 d.2.2.2.1
def z6p:Lp:=⟨⟨[],[3,7,8,9],[]⟩,qve,qza,λd=>zie d.1 d.2.1 d.2.2.1 d.2.2.2.1⟩
def q2p:Plan:=⟨[(7,qy9)],[(3,z6p)],0,0⟩
def zeg (t0:PV zh):Option (PVs [zf]×PVs []):=
 (z7i ([],t0.2.2.1,(t0.2.2.1.length:Int),0,())).bind λl3=>
   some ((l3.1,()),())
def zkk:Ct:=⟨[(.bor,zh)],[(zf,(.row .b))],λx=>zeg x.1⟩
def q2q:Cx:=⟨tab,arrs,[],[],gl,[]⟩
theorem zm7:FnOk gl Tryz.prog 164 zkk:=
 fo q2q q2p 0 (oz trivial trivial) Tryz.func164 (by kernel_rfl) (by kernel_rfl) (by kernel_rfl)
  (ll 1 (by kernel_rfl) (lc z6p (by kernel_rfl) (λd=>by kernel_rfl) trivial)) (λx=>by kernel_rfl)
def qry:List Out:=[⟨.normal,⟨[],[1,3,5,7,8,9,42,45,46,47,52,53,54,57,58,59,62,63,64,65,66,67,68,71,72,73,74,75,76,77,80,81,82,83,86,87,88,91,92,93],[]⟩,mkSh 95 [(1,.var zh .b),(3,.val .bool .b),(5,.var zo .b),(7,.val zi .b),(8,.val (.int .i64) .b),(9,.val (.int .i64) .b),(42,.val .bool .b)]⟩]
def qrz:List Out:=[⟨.normal,⟨[],[1,3,5,7,8,9,19,20,21,22,25,26,27,28,29,30,31,32,33,34,35,36,37,38,39,40,41,52,53,54,57,58,59,62,63,64,65,66,67,68,71,72,73,74,75,76,77,80,81,82,83,86,87,88,91,92,93],[]⟩,mkSh 95 [(1,.var zh .b),(3,.val .bool .b),(5,.var zo .b),(7,.val zi .b),(8,.val (.int .i64) .b),(9,.val (.int .i64) .b)]⟩,⟨.ret,⟨[],[2],[]⟩,mkSh 95 [(2,.val .bool .b)]⟩]
def qpm:List Sh:=mkSh 95 [(1,.var zh .b),(3,.val .bool .b),(7,.val zi .b),(8,.val (.int .i64) .b),(9,.val (.int .i64) .b)]
def qr0:List Out:=[⟨.exit 0,⟨[],[1,3,52,53,54,57,58,59,62,63,64,65,66,67,68,71,72,73,74,75,76,77,80,81,82,83,86,87,88,91,92,93],[]⟩,mkSh 95 [(1,.var zh .b),(3,.val .bool .b)]⟩,⟨.ret,⟨[],[2],[]⟩,mkSh 95 [(2,.val .bool .b)]⟩]
def zfg (t1:PV zh)(t3:PV .bool)(t7:PV zi)(t8:PV (.int .i64))(t9:PV (.int .i64)):Option ((PV zh×PV .bool×PV zi×PV (.int .i64)×PV (.int .i64)×Unit)⊕((PV zh×PV .bool×Unit)⊕(PV .bool×Unit))):=
 bif (decide (t9<t8)) then
  ((
    bif inB t9 t7.length then
     ((
       (zbm ((t7.getD t9.toNat (dflt zo)).1) 1 3).bind λr4=>
         bif (!r4.1.1) then
          some (t1,t3,(t7.getD t9.toNat (dflt zo)),t7,t8,t9,true,())
         else
          (zgo (((t7.getD t9.toNat (dflt zo)).2).1)).bind λr5=>
            bif (!r5.1.1) then
             some (t1,t3,(t7.getD t9.toNat (dflt zo)),t7,t8,t9,true,())
            else
             bif (decide (t9>0)) then
              bif (((t7.getD t9.toNat (dflt zo)).1)==2) then
               bif inB (IntKind.wrap .i64 (t9 -1)) t1.2.2.1.length then
                some (t1,t3,(t7.getD t9.toNat (dflt zo)),t7,t8,t9,(((t1.2.2.1.getD ((IntKind.wrap .i64 (t9 -1)).toNat) (dflt zo)).1)==3),())
               else
                none
              else
               some (t1,t3,(t7.getD t9.toNat (dflt zo)),t7,t8,t9,false,())
             else
              some (t1,t3,(t7.getD t9.toNat (dflt zo)),t7,t8,t9,false,()):Option ((PV zh×PV .bool×PV zo×PV zi×PV (.int .i64)×PV (.int .i64)×PV .bool×Unit)))).bind λj6=>
       bif j6.2.2.2.2.2.2.1 then
        some (.inr (false,()))
       else
        bif j6.2.1 then
         some (.inl (j6.1,true,j6.2.2.1,j6.2.2.2.1,j6.2.2.2.2.1,j6.2.2.2.2.2.1,()))
        else
         some (.inl (j6.1,(!(j6.2.2.1.1==1)),j6.2.2.1,j6.2.2.2.1,j6.2.2.2.2.1,j6.2.2.2.2.2.1,()))
    else
     none:Option ((PV zh×PV .bool×PV zo×PV zi×PV (.int .i64)×PV (.int .i64)×Unit)⊕(PV .bool×Unit)))).bind λx21=>
    match x21 with
    | .inl j7=>
      some (.inl (j7.1,j7.2.1,j7.2.2.2.1,j7.2.2.2.2.1,(IntKind.wrap .i64 (j7.2.2.2.2.2.1+1)),()))
    | .inr j8=>
      some (.inr (.inr (j8.1,())))
 else
  some (.inr (.inl (t1,t3,())))
def z3w:PV zh×PV .bool×PV zi×PV (.int .i64)×PV (.int .i64)×Unit->Option ((PV zh×PV .bool×Unit)⊕(PV .bool×Unit)):=fix λd=>zfg d.1 d.2.1 d.2.2.1 d.2.2.2.1 d.2.2.2.2.1
def z3d:Lp:=⟨⟨[],[1,3,7,8,9,19,20,21,22,25,26,27,28,29,30,31,32,33,34,35,36,37,38,39,40,41,45,46,47,52,53,54,57,58,59,62,63,64,65,66,67,68,71,72,73,74,75,76,77,80,81,82,83,86,87,88,91,92,93],[]⟩,qpm,qr0,λd=>zfg d.1 d.2.1 d.2.2.1 d.2.2.2.1 d.2.2.2.2.1⟩
def qvf:Plan:=⟨[(6,qry),(8,qrz)],[(3,z3d)],0,0⟩
def zp0 (t0:PV zh):Option (PVs [.bool]×PVs []):=
 (z3w (t0,false,t0.2.2.1,(t0.2.2.1.length:Int),0,())).bind λx22=>
   match x22 with
   | .inl l11=>
     bif l11.2.1 then
      (zbm l11.1.1 0 999).bind λr12=>
        bif r12.1.1 then
         (zbm l11.1.2.1 0 999).bind λr13=>
           bif r13.1.1 then
            (zfx l11.1).bind λr14=>
              bif (decide ((IntKind.wrap .i64 (l11.1.1+(r14.1.1.length:Int)))<=1000)) then
               (zeg l11.1).bind λr15=>
                 bif (decide ((IntKind.wrap .i64 (l11.1.2.1+(r15.1.1.length:Int)))<=1000)) then
                  bif (decide ((l11.1.2.2.1.length:Int)<=80)) then
                   (zfx l11.1).bind λr16=>
                     (zj4 r16.1.1).bind λr17=>
                       bif r17.1.1 then
                        (zeg l11.1).bind λr18=>
                          (zj4 r18.1.1).bind λr19=>
                            some ((r19.1.1,()),())
                       else
                        some ((false,()),())
                  else
                   some ((false,()),())
                 else
                  some ((false,()),())
              else
               some ((false,()),())
           else
            some ((false,()),())
        else
         some ((false,()),())
     else
      some ((false,()),())
   | .inr l20=>
     some ((l20.1,()),())
def z6q:Ct:=⟨[(.bor,zh)],[(.bool,.b)],λx=>zp0 x.1⟩
def qvg:Cx:=⟨tab,arrs,[(114,zfz),(163,zkj),(164,zkk),(183,zqb),(184,zu6)],[],gl,[]⟩
theorem qvh:FnOk gl Tryz.prog 108 z6q:=
 fo qvg qvf 0 (oz ⟨zgw,zm6,zm7,zvg,z6l,trivial⟩ trivial) Tryz.func108 (by kernel_rfl) (by kernel_rfl) (by kernel_rfl)
  (ll 1 (by kernel_rfl) (lc z3d (by kernel_rfl) (λd=>by kernel_rfl) trivial)) (λx=>by kernel_rfl)
def qvi:List Out:=[⟨.normal,⟨[],[0,4,5,6,7,54],[]⟩,mkSh 59 [(0,.val zl .b),(4,.var zh .b),(5,.val zl .b),(6,.val (.int .i64) .b),(7,.val (.int .i64) .b),(54,.val .bool .b)]⟩]
def qr1:List Sh:=mkSh 59 [(0,.val zl .b),(5,.val zl .b),(6,.val (.int .i64) .b),(7,.val (.int .i64) .b)]
def qvj:List Out:=[⟨.exit 0,⟨[],[0],[]⟩,mkSh 59 [(0,.val zl .b)]⟩,⟨.ret,⟨[],[2],[]⟩,mkSh 59 [(2,.val .bool .b)]⟩]
def zfk (t0:PV zl)(t5:PV zl)(t6:PV (.int .i64))(t7:PV (.int .i64)):Option ((PV zl×PV zl×PV (.int .i64)×PV (.int .i64)×Unit)⊕((PV zl×Unit)⊕(PV .bool×Unit))):=
 bif (decide (t7<t6)) then
  bif inB t7 t5.length then
   (zp0 (t5.getD t7.toNat (dflt zh))).bind λr11=>
     bif (!r11.1.1) then
      some (.inr (.inr (false,())))
     else
      ((
        bif (decide (t7>0)) then
         bif inB (IntKind.wrap .i64 (t7 -1)) t0.length then
          bif inB (IntKind.wrap .i64 (t7 -1)) t0.length then
           (zfx (t0.getD ((IntKind.wrap .i64 (t7 -1)).toNat) (dflt zh))).bind λr12=>
             bif (decide (((t5.getD t7.toNat (dflt zh)).1)<(IntKind.wrap .i64 (((t0.getD ((IntKind.wrap .i64 (t7 -1)).toNat) (dflt zh)).1)+(r12.1.1.length:Int))))) then
              some (t0,(t5.getD t7.toNat (dflt zh)),t5,t6,t7,true,())
             else
              bif inB (IntKind.wrap .i64 (t7 -1)) t0.length then
               bif inB (IntKind.wrap .i64 (t7 -1)) t0.length then
                (zeg (t0.getD ((IntKind.wrap .i64 (t7 -1)).toNat) (dflt zh))).bind λr13=>
                  some (t0,(t5.getD t7.toNat (dflt zh)),t5,t6,t7,(decide ((((t5.getD t7.toNat (dflt zh)).2).1)<(IntKind.wrap .i64 ((((t0.getD ((IntKind.wrap .i64 (t7 -1)).toNat) (dflt zh)).2).1)+(r13.1.1.length:Int))))),())
               else
                none
              else
               none
          else
           none
         else
          none
        else
         some (t0,(t5.getD t7.toNat (dflt zh)),t5,t6,t7,false,()):Option ((PV zl×PV zh×PV zl×PV (.int .i64)×PV (.int .i64)×PV .bool×Unit)))).bind λj14=>
        bif j14.2.2.2.2.2.1 then
         some (.inr (.inr (false,())))
        else
         some (.inl (j14.1,j14.2.2.1,j14.2.2.2.1,(IntKind.wrap .i64 (j14.2.2.2.2.1+1)),()))
  else
   none
 else
  some (.inr (.inl (t0,())))
def z5u:PV zl×PV zl×PV (.int .i64)×PV (.int .i64)×Unit->Option ((PV zl×Unit)⊕(PV .bool×Unit)):=fix λd=>zfk d.1 d.2.1 d.2.2.1 d.2.2.2.1
def z4k:Lp:=⟨⟨[],[0,5,6,7,18,19,20,21,22,23,24,25,26,27,28,29,30,31,32,33,34,35,36,37,38,39,40,41,42,43,44,45,46,47,48,49,50,51,52,53],[]⟩,qr1,qvj,λd=>zfk d.1 d.2.1 d.2.2.1 d.2.2.2.1⟩
def qzb:Plan:=⟨[(7,qvi)],[(2,z4k)],0,0⟩
def zmy (t0:PV zl):Option (PVs [.bool]×PVs []):=
 (z5u (t0,t0,(t0.length:Int),0,())).bind λx19=>
   match x19 with
   | .inl l17=>
     some (((decide ((l17.1.length:Int)<=20)),()),())
   | .inr l18=>
     some ((l18.1,()),())
def zvj:Ct:=⟨[(.bor,zl)],[(.bool,.b)],λx=>zmy x.1⟩
def qzc:Cx:=⟨tab,arrs,[(108,z6q),(163,zkj),(164,zkk)],[],gl,[]⟩
theorem z8d:FnOk gl Tryz.prog 95 zvj:=
 fo qzc qzb 0 (oz ⟨qvh,zm6,zm7,trivial⟩ trivial) Tryz.func95 (by kernel_rfl) (by kernel_rfl) (by kernel_rfl)
  (ll 1 (by kernel_rfl) (lc z4k (by kernel_rfl) (λd=>by kernel_rfl) trivial)) (λx=>by kernel_rfl)
def qzd:Plan:=⟨[],[],0,0⟩
def zqo (t0:PV (.int .i64)):Option (PVs [.str]×PVs []):=
 bif cutB t0 (IntKind.wrap .i64 (t0+1)) [63,32,45,43].length then
  some (((cutL t0 (IntKind.wrap .i64 (t0+1)) [63,32,45,43]),()),())
 else
  none
def z8e:Ct:=⟨[(.bor,(.int .i64))],[(.str,.b)],λx=>zqo x.1⟩
def qze:Cx:=⟨tab,arrs,[],[],gl,[]⟩
theorem qzf:FnOk gl Tryz.prog 198 z8e:=
 fo qze qzd 0 (oz trivial trivial) Tryz.func198 (by kernel_rfl) (by kernel_rfl) (by kernel_rfl)
  (ll 0 (by kernel_rfl) trivial) (λx=>by kernel_rfl)
def qr2:List Sh:=mkSh 50 [(3,.val .str .b),(8,.val zl .b),(9,.val (.int .i64) .b),(10,.val (.int .i64) .b),(33,.val zi .b),(34,.val (.int .i64) .b),(35,.val (.int .i64) .b)]
def qvk:List Out:=[⟨.exit 2,⟨[],[3,8,9,10],[]⟩,mkSh 50 [(3,.val .str .b),(8,.val zl .b),(9,.val (.int .i64) .b),(10,.val (.int .i64) .b)]⟩]
def zh8 (t3:PV .str)(t8:PV zl)(t9:PV (.int .i64))(t10:PV (.int .i64))(t33:PV zi)(t34:PV (.int .i64))(t35:PV (.int .i64)):Option ((PV .str×PV zl×PV (.int .i64)×PV (.int .i64)×PV zi×PV (.int .i64)×PV (.int .i64)×Unit)⊕((PV .str×PV zl×PV (.int .i64)×PV (.int .i64)×Unit))):=
 bif (decide (t35<t34)) then
  bif inB t35 t33.length then
   (zqo ((t33.getD t35.toNat (dflt zo)).1)).bind λr11=>
     (zds r11.1.1 (((t33.getD t35.toNat (dflt zo)).2).1)).bind λr12=>
       bif decide (t3.length+r12.1.1.length<=1099511627776) then
        some (.inl ((t3++r12.1.1),t8,t9,t10,t33,t34,(IntKind.wrap .i64 (t35+1)),()))
       else
        none
  else
   none
 else
  some (.inr (t3,t8,t9,t10,()))
def z6a:PV .str×PV zl×PV (.int .i64)×PV (.int .i64)×PV zi×PV (.int .i64)×PV (.int .i64)×Unit->Option ((PV .str×PV zl×PV (.int .i64)×PV (.int .i64)×Unit)):=fix λd=>zh8 d.1 d.2.1 d.2.2.1 d.2.2.2.1 d.2.2.2.2.1 d.2.2.2.2.2.1 d.2.2.2.2.2.2.1
def z4l:Lp:=⟨⟨[],[3,8,9,10,33,34,35],[]⟩,qr2,qvk,λd=>zh8 d.1 d.2.1 d.2.2.1 d.2.2.2.1 d.2.2.2.2.1 d.2.2.2.2.2.1 d.2.2.2.2.2.2.1⟩
def qr3:List Sh:=mkSh 50 [(3,.val .str .b),(8,.val zl .b),(9,.val (.int .i64) .b),(10,.val (.int .i64) .b)]
def qvl:List Out:=[⟨.exit 0,⟨[],[3],[]⟩,mkSh 50 [(3,.val .str .b)]⟩]
def zh9 (t3:PV .str)(t8:PV zl)(t9:PV (.int .i64))(t10:PV (.int .i64)):Option ((PV .str×PV zl×PV (.int .i64)×PV (.int .i64)×Unit)⊕((PV .str×Unit))):=
 bif (decide (t10<t9)) then
  bif inB t10 t8.length then
   (zfx (t8.getD t10.toNat (dflt zh))).bind λr14=>
     (zfu ((t8.getD t10.toNat (dflt zh)).1) (r14.1.1.length:Int)).bind λr15=>
       bif decide ([64,64,32,45].length+r15.1.1.length<=1099511627776) then
        bif decide (([64,64,32,45]++r15.1.1).length+[32,43].length<=1099511627776) then
         (zeg (t8.getD t10.toNat (dflt zh))).bind λr16=>
           (zfu (((t8.getD t10.toNat (dflt zh)).2).1) (r16.1.1.length:Int)).bind λr17=>
             bif decide ((([64,64,32,45]++r15.1.1)++[32,43]).length+r17.1.1.length<=1099511627776) then
              bif decide (((([64,64,32,45]++r15.1.1)++[32,43])++r17.1.1).length+[32,64,64,10].length<=1099511627776) then
               bif decide (t3.length+(((([64,64,32,45]++r15.1.1)++[32,43])++r17.1.1)++[32,64,64,10]).length<=1099511627776) then
                (z6a ((t3++(((([64,64,32,45]++r15.1.1)++[32,43])++r17.1.1)++[32,64,64,10])),t8,t9,t10,(((t8.getD t10.toNat (dflt zh)).2).2).1,(((((t8.getD t10.toNat (dflt zh)).2).2).1).length:Int),0,())).bind λl18=>
                  some (.inl (l18.1,l18.2.1,l18.2.2.1,(IntKind.wrap .i64 (l18.2.2.2.1+1)),()))
               else
                none
              else
               none
             else
              none
        else
         none
       else
        none
  else
   none
 else
  some (.inr (t3,()))
def z6b:PV .str×PV zl×PV (.int .i64)×PV (.int .i64)×Unit->Option ((PV .str×Unit)):=fix λd=>zh9 d.1 d.2.1 d.2.2.1 d.2.2.2.1
def z4m:Lp:=⟨⟨[],[3,8,9,10],[]⟩,qr3,qvl,λd=>zh9 d.1 d.2.1 d.2.2.1 d.2.2.2.1⟩
def qzg:Plan:=⟨[],[(7,z4l),(3,z4m)],0,0⟩
def zqp (t0:PV zl):Option (PVs [.str]×PVs []):=
 (z6b ([],t0,(t0.length:Int),0,())).bind λl20=>
   some ((l20.1,()),())
def z8f:Ct:=⟨[(.bor,zl)],[(.str,.b)],λx=>zqp x.1⟩
def qzh:Cx:=⟨tab,arrs,[(126,zu8),(139,zpt),(163,zkj),(164,zkk),(198,z8e)],[],gl,[]⟩
theorem qzi:FnOk gl Tryz.prog 129 z8f:=
 fo qzh qzg 0 (oz ⟨z6n,zu7,zm6,zm7,qzf,trivial⟩ trivial) Tryz.func129 (by kernel_rfl) (by kernel_rfl) (by kernel_rfl)
  (ll 2 (by kernel_rfl) (lc z4m (by kernel_rfl) (λd=>by kernel_rfl) (lc z4l (by kernel_rfl) (λd=>by kernel_rfl) trivial))) (λx=>by kernel_rfl)
def qjm:List Out:=[⟨.normal,⟨[],[6,87],[]⟩,mkSh 89 [(6,.val zl (.row (.pr .b (.pr .b (.pr (.row (.pr .b (.pr .b .b))) .b))))),(87,.val .bool .b)]⟩]
def qjn:List Sh:=mkSh 89 [(5,.val zf .b),(6,.val zl (.row (.pr .b (.pr .b (.pr (.row (.pr .b (.pr .b .b))) .b))))),(7,.val .str .b)]
def qkn:List Out:=[⟨.exit 0,⟨[],[6,7,83,84,85,86],[]⟩,mkSh 89 [(6,.val zl (.row (.pr .b (.pr .b (.pr (.row (.pr .b (.pr .b .b))) .b))))),(7,.val .str .b)]⟩,⟨.ret,⟨[],[2,3,4],[]⟩,mkSh 89 [(2,.val zl (.row (.pr .b (.pr .b (.pr (.row (.pr .b (.pr .b .b))) .b))))),(3,.val (.int .i64) .b),(4,.val .bool .b)]⟩]
def zhk (t5:PV zf)(t6:PV zl)(t7:PV .str):Option ((PV zf×PV zl×PV .str×Unit)⊕((PV zl×PV .str×Unit)⊕(PV zl×PV (.int .i64)×PV .bool×Unit))):=
 bif (decide ((t5.length:Int)>0)) then
  bif inB 0 t5.length then
   (zgm (t5.getD ((0:Int).toNat) [])).bind λr5=>
     (zdv r5.1.1).bind λr6=>
       bif (!r6.1.2.2.2.1) then
        some (.inr (.inr ([],1,false,())))
       else
        bif cutB 1 (t5.length:Int) t5.length then
         (zqu (cutL 1 (t5.length:Int) t5) r6.1.2.1 r6.1.2.2.1).bind λr8=>
           (zfu r6.1.1.1 r6.1.2.1).bind λr11=>
             bif decide ([64,64,32,45].length+r11.1.1.length<=1099511627776) then
              bif decide (([64,64,32,45]++r11.1.1).length+[32,43].length<=1099511627776) then
               (zfu r6.1.1.2.1 r6.1.2.2.1).bind λr12=>
                 bif decide ((([64,64,32,45]++r11.1.1)++[32,43]).length+r12.1.1.length<=1099511627776) then
                  bif decide (((([64,64,32,45]++r11.1.1)++[32,43])++r12.1.1).length+[32,64,64,10].length<=1099511627776) then
                   bif cutB 1 (IntKind.wrap .i64 (1+r8.1.2.1)) t5.length then
                    (zin (cutL 1 (IntKind.wrap .i64 (1+r8.1.2.1)) t5)).bind λr14=>
                      bif decide ((((([64,64,32,45]++r11.1.1)++[32,43])++r12.1.1)++[32,64,64,10]).length+r14.1.1.length<=1099511627776) then
                       bif decide (t7.length+((((([64,64,32,45]++r11.1.1)++[32,43])++r12.1.1)++[32,64,64,10])++r14.1.1).length<=1099511627776) then
                        bif inB 0 t5.length then
                         (zef (t5.getD ((0:Int).toNat) [])).bind λr18=>
                           bif (!r18.1.1) then
                            some (.inr (.inr ([],1,false,())))
                           else
                            bif cutB (IntKind.wrap .i64 (1+r8.1.2.1)) (t5.length:Int) t5.length then
                             bif qw (t6.length+[(r6.1.1.1,(r6.1.1.2.1,(r8.1.1,r6.1.1.2.2.2)))].length) then
                              some (.inl ((cutL (IntKind.wrap .i64 (1+r8.1.2.1)) (t5.length:Int) t5),(t6++[(r6.1.1.1,(r6.1.1.2.1,(r8.1.1,r6.1.1.2.2.2)))]),(t7++((((([64,64,32,45]++r11.1.1)++[32,43])++r12.1.1)++[32,64,64,10])++r14.1.1)),()))
                             else
                              none
                            else
                             none
                        else
                         none
                       else
                        none
                      else
                       none
                   else
                    none
                  else
                   none
                 else
                  none
              else
               none
             else
              none
        else
         none
  else
   none
 else
  some (.inr (.inl (t6,t7,())))
def zjk:PV zf×PV zl×PV .str×Unit->Option ((PV zl×PV .str×Unit)⊕(PV zl×PV (.int .i64)×PV .bool×Unit)):=fix λd=>zhk d.1 d.2.1 d.2.2.1
def z0c:Lp:=⟨⟨[],[5,6,7,83,84,85,86],[]⟩,qjn,qkn,λd=>zhk d.1 d.2.1 d.2.2.1⟩
def qlo:Plan:=⟨[(19,qjm)],[(6,z0c)],0,0⟩
def zl6 (t0:PV .str):Option (PVs [zl,(.int .i64),.bool]×PVs []):=
 bif (decide ((t0.length:Int)>3000)) then
  some (([],1,false,()),())
 else
  (zir t0).bind λr2=>
    (zjk (r2.1.1,[],[],())).bind λx31=>
      match x31 with
      | .inl l21=>
        ((
          (zmy l21.1).bind λr27=>
            bif (!r27.1.1) then
             some (l21.1,true,())
            else
             (zqp l21.1).bind λr28=>
               some (l21.1,(!(r28.1.1==l21.2.1)),()):Option ((PV zl×PV .bool×Unit)))).bind λj29=>
          bif j29.2.1 then
           some (([],1,false,()),())
          else
           some ((j29.1,0,true,()),())
      | .inr l30=>
        some ((l30.1,l30.2.1,l30.2.2.1,()),())
def z1b:Ct:=⟨[(.bor,.str)],[(zl,(.row (.pr .b (.pr .b (.pr (.row (.pr .b (.pr .b .b))) .b))))),((.int .i64),.b),(.bool,.b)],λx=>zl6 x.1⟩
def qlp:Cx:=⟨tab,arrs,[(79,zm5),(81,zps),(95,zvj),(124,z7z),(125,z8b),(126,zu8),(127,zvi),(128,zj7),(129,z8f)],[],gl,[]⟩
theorem qlq:FnOk gl Tryz.prog 62 z1b:=
 fo qlp qlo 0 (oz ⟨zq7,zu5,z8d,qyy,qy4,z6n,z8c,zmt,qzi,trivial⟩ trivial) Tryz.func62 (by kernel_rfl) (by kernel_rfl) (by kernel_rfl)
  (ll 1 (by kernel_rfl) (lc z0c (by kernel_rfl) (λd=>by kernel_rfl) trivial)) (λx=>by kernel_rfl)
def qr4:List Out:=[⟨.normal,⟨[],[0,1,2,35],[]⟩,mkSh 49 [(0,.val .str .b),(1,.val .str .b),(2,.val .str .b),(35,.val .bool .b)]⟩]
def qvm:Plan:=⟨[(2,qr4)],[],0,0⟩
def zms (t0:PV .str)(t1:PV .str)(t2:PV .str):Option (PVs [(.int .i64),(.int .i64),.bool]×PVs []):=
 ((
   bif (decide ((t0.length:Int)<(IntKind.wrap .i64 ((t1.length:Int)+(t2.length:Int))))) then
    some (t0,t1,t2,true,())
   else
    bif cutB 0 (t1.length:Int) t0.length then
     bif (!((cutL 0 (t1.length:Int) t0)==t1)) then
      some (t0,t1,t2,true,())
     else
      bif cutB (IntKind.wrap .i64 ((t0.length:Int) -(t2.length:Int))) (t0.length:Int) t0.length then
       some (t0,t1,t2,(!((cutL (IntKind.wrap .i64 ((t0.length:Int) -(t2.length:Int))) (t0.length:Int) t0)==t2)),())
      else
       none
    else
     none:Option ((PV .str×PV .str×PV .str×PV .bool×Unit)))).bind λj2=>
   bif j2.2.2.2.1 then
    some ((0,0,false,()),())
   else
    bif cutB (j2.2.1.length:Int) (IntKind.wrap .i64 ((j2.1.length:Int) -(j2.2.2.1.length:Int))) j2.1.length then
     (zgk (cutL (j2.2.1.length:Int) (IntKind.wrap .i64 ((j2.1.length:Int) -(j2.2.2.1.length:Int))) j2.1)).bind λr3=>
       some ((r3.1.1,r3.1.2.1,r3.1.2.2.1,()),())
    else
     none
def z6r:Ct:=⟨[(.bor,.str),(.bor,.str),(.bor,.str)],[((.int .i64),.b),((.int .i64),.b),(.bool,.b)],λx=>zms x.1 x.2.1 x.2.2.1⟩
def qvn:Cx:=⟨tab,arrs,[(148,zup)],[],gl,[]⟩
theorem qvo:FnOk gl Tryz.prog 175 z6r:=
 fo qvn qvm 0 (oz ⟨zuq,trivial⟩ trivial) Tryz.func175 (by kernel_rfl) (by kernel_rfl) (by kernel_rfl)
  (ll 0 (by kernel_rfl) trivial) (λx=>by kernel_rfl)
def qr5:List Out:=[⟨.normal,⟨[],[0,1,6,7,10,24,25,26,27,28,29,38,39,40,43,44,45,64],[]⟩,mkSh 81 [(0,.val zf .b),(1,.val .str .b),(6,.val qc (.row (.pr .b (.pr .b .b)))),(7,.val (.int .i64) .b),(10,.var xg .b),(38,.val .str .b),(39,.val (.int .i64) .b),(40,.val .bool .b),(43,.val .str .b),(44,.val (.int .u8) .b),(45,.val .bool .b),(64,.val .bool .b)]⟩]
def qr6:List Out:=[⟨.normal,⟨[(10,.b)],[0,1,6,7,10,24,25,26,27,28,29,38,39,40,43,44,45,59,60,61,62,63],[]⟩,mkSh 81 [(0,.val zf .b),(1,.val .str .b),(6,.val qc (.row (.pr .b (.pr .b .b)))),(7,.val (.int .i64) .b),(10,.var xg .b),(38,.val .str .b),(39,.val (.int .i64) .b),(40,.val .bool .b),(43,.val .str .b),(44,.val (.int .u8) .b),(45,.val .bool .b)]⟩]
def qr7:List Sh:=mkSh 81 [(0,.val zf .b),(1,.val .str .b),(6,.val qc (.row (.pr .b (.pr .b .b)))),(7,.val (.int .i64) .b),(8,.val .str .b),(9,.val (.int .i64) .b)]
def qvp:List Out:=[⟨.exit 2,⟨[],[0,1,6,7,8,9,38,39,40,43,44,45,59,60,61,62,63],[]⟩,mkSh 81 [(0,.val zf .b),(1,.val .str .b),(6,.val qc (.row (.pr .b (.pr .b .b)))),(7,.val (.int .i64) .b),(8,.val .str .b),(9,.val (.int .i64) .b)]⟩]
def zd9 (t0:PV zf)(t1:PV .str)(t6:PV qc)(t7:PV (.int .i64))(t8:PV .str)(t9:PV (.int .i64)):Option ((PV zf×PV .str×PV qc×PV (.int .i64)×PV .str×PV (.int .i64)×Unit)⊕((PV zf×PV .str×PV qc×PV (.int .i64)×PV .str×PV (.int .i64)×Unit))):=
 bif (decide (t9<(t1.length:Int))) then
  bif inB t9 t1.length then
   bif inB 0 t8.length then
    bif (!(((t1.getD t9.toNat 0).toNat:Int)==((t8.getD (0:Int).toNat 0).toNat:Int))) then
     some (.inl (t0,t1,t6,t7,t8,(IntKind.wrap .i64 (t9+1)),()))
    else
     some (.inr (t0,t1,t6,t7,t8,t9,()))
   else
    none
  else
   none
 else
  some (.inr (t0,t1,t6,t7,t8,t9,()))
def zmj:PV zf×PV .str×PV qc×PV (.int .i64)×PV .str×PV (.int .i64)×Unit->Option ((PV zf×PV .str×PV qc×PV (.int .i64)×PV .str×PV (.int .i64)×Unit)):=fix λd=>zd9 d.1 d.2.1 d.2.2.1 d.2.2.2.1 d.2.2.2.2.1 d.2.2.2.2.2.1
def z4n:Lp:=⟨⟨[],[0,1,6,7,8,9,38,39,40,43,44,45,59,60,61,62,63],[]⟩,qr7,qvp,λd=>zd9 d.1 d.2.1 d.2.2.1 d.2.2.2.1 d.2.2.2.2.1 d.2.2.2.2.2.1⟩
def qr8:List Sh:=mkSh 81 [(0,.val zf .b),(1,.val .str .b),(6,.val qc (.row (.pr .b (.pr .b .b)))),(7,.val (.int .i64) .b)]
def qvq:List Out:=[⟨.exit 0,⟨[],[6,7],[]⟩,mkSh 81 [(6,.val qc (.row (.pr .b (.pr .b .b)))),(7,.val (.int .i64) .b)]⟩]
def zfo (t0:PV zf)(t1:PV .str)(t6:PV qc)(t7:PV (.int .i64)):Option ((PV zf×PV .str×PV qc×PV (.int .i64)×Unit)⊕((PV qc×PV (.int .i64)×Unit))):=
 bif (decide (t7<(t0.length:Int))) then
  bif inB t7 t0.length then
   (zmj (t0,t1,t6,t7,(t0.getD t7.toNat []),0,())).bind λl7=>
     bif (l7.2.2.2.2.2.1==(l7.2.1.length:Int)) then
      some (.inr (l7.2.2.1,l7.2.2.2.1,()))
     else
      bif (decide ((l7.2.2.2.2.1.length:Int)<3)) then
       some (.inr (l7.2.2.1,l7.2.2.2.1,()))
      else
       bif inB 1 l7.2.2.2.2.1.length then
        bif (!(((l7.2.2.2.2.1.getD (1:Int).toNat 0).toNat:Int)==32)) then
         some (.inr (l7.2.2.1,l7.2.2.2.1,()))
        else
         bif inB 0 l7.2.2.2.2.1.length then
          bif cutB 2 (l7.2.2.2.2.1.length:Int) l7.2.2.2.2.1.length then
           ((
             ((
               bif (decide ((IntKind.wrap .i64 (l7.2.2.2.1+1))<(l7.1.length:Int))) then
                bif inB (IntKind.wrap .i64 (l7.2.2.2.1+1)) l7.1.length then
                 some (l7.1,l7.2.1,l7.2.2.1,(IntKind.wrap .i64 (l7.2.2.2.1+1)),(((l7.2.2.2.2.1.getD (0:Int).toNat 0).toNat:Int),((cutL 2 (l7.2.2.2.2.1.length:Int) l7.2.2.2.2.1),())),l7.2.2.2.2.1,(l7.2.2.2.2.1.length:Int),(decide ((l7.2.2.2.2.1.length:Int)<3)),l7.2.2.2.2.1,((l7.2.2.2.2.1.getD (1:Int).toNat 0).toNat:Int),(!(((l7.2.2.2.2.1.getD (1:Int).toNat 0).toNat:Int)==32)),((l7.1.getD ((IntKind.wrap .i64 (l7.2.2.2.1+1)).toNat) [])==[92,32,110,111,110,101,10]),())
                else
                 none
               else
                some (l7.1,l7.2.1,l7.2.2.1,(IntKind.wrap .i64 (l7.2.2.2.1+1)),(((l7.2.2.2.2.1.getD (0:Int).toNat 0).toNat:Int),((cutL 2 (l7.2.2.2.2.1.length:Int) l7.2.2.2.2.1),())),l7.2.2.2.2.1,(l7.2.2.2.2.1.length:Int),(decide ((l7.2.2.2.2.1.length:Int)<3)),l7.2.2.2.2.1,((l7.2.2.2.2.1.getD (1:Int).toNat 0).toNat:Int),(!(((l7.2.2.2.2.1.getD (1:Int).toNat 0).toNat:Int)==32)),false,()):Option ((PV zf×PV .str×PV qc×PV (.int .i64)×PV xg×PV .str×PV (.int .i64)×PV .bool×PV .str×PV (.int .u8)×PV .bool×PV .bool×Unit)))).bind λj8=>
               bif j8.2.2.2.2.2.2.2.2.2.2.2.1 then
                bif cutB 0 (IntKind.wrap .i64 ((j8.2.2.2.2.1.2.1.length:Int) -1)) j8.2.2.2.2.1.2.1.length then
                 some (j8.1,j8.2.1,j8.2.2.1,(IntKind.wrap .i64 (j8.2.2.2.1+1)),(j8.2.2.2.2.1.1,((cutL 0 (IntKind.wrap .i64 ((j8.2.2.2.2.1.2.1.length:Int) -1)) j8.2.2.2.2.1.2.1),j8.2.2.2.2.1.2.2)),j8.2.2.2.2.2.1,j8.2.2.2.2.2.2.1,j8.2.2.2.2.2.2.2.1,j8.2.2.2.2.2.2.2.2.1,j8.2.2.2.2.2.2.2.2.2.1,j8.2.2.2.2.2.2.2.2.2.2.1,())
                else
                 none
               else
                some (j8.1,j8.2.1,j8.2.2.1,j8.2.2.2.1,j8.2.2.2.2.1,j8.2.2.2.2.2.1,j8.2.2.2.2.2.2.1,j8.2.2.2.2.2.2.2.1,j8.2.2.2.2.2.2.2.2.1,j8.2.2.2.2.2.2.2.2.2.1,j8.2.2.2.2.2.2.2.2.2.2.1,()):Option ((PV zf×PV .str×PV qc×PV (.int .i64)×PV xg×PV .str×PV (.int .i64)×PV .bool×PV .str×PV (.int .u8)×PV .bool×Unit)))).bind λj9=>
             bif qw (j9.2.2.1.length+[j9.2.2.2.2.1].length) then
              some (.inl (j9.1,j9.2.1,(j9.2.2.1++[j9.2.2.2.2.1]),j9.2.2.2.1,()))
             else
              none
          else
           none
         else
          none
       else
        none
  else
   none
 else
  some (.inr (t6,t7,()))
def zjy:PV zf×PV .str×PV qc×PV (.int .i64)×Unit->Option ((PV qc×PV (.int .i64)×Unit)):=fix λd=>zfo d.1 d.2.1 d.2.2.1 d.2.2.2.1
def z4o:Lp:=⟨⟨[],[0,1,6,7,24,25,26,27,28,29,59,60,61,62,63],[]⟩,qr8,qvq,λd=>zfo d.1 d.2.1 d.2.2.1 d.2.2.2.1⟩
def qzj:Plan:=⟨[(12,qr5),(14,qr6)],[(6,z4n),(3,z4o)],0,0⟩
def zm0 (t0:PV zf)(t1:PV .str):Option (PVs [qc,(.int .i64)]×PVs []):=
 (zjy (t0,t1,[],0,())).bind λl11=>
   some ((l11.1,l11.2.1,()),())
def z8g:Ct:=⟨[(.bor,zf),(.bor,.str)],[(qc,(.row (.pr .b (.pr .b .b)))),((.int .i64),.b)],λx=>zm0 x.1 x.2.1⟩
def qzk:Cx:=⟨tab,arrs,[],[],gl,[]⟩
theorem qzl:FnOk gl Tryz.prog 176 z8g:=
 fo qzk qzj 0 (oz trivial trivial) Tryz.func176 (by kernel_rfl) (by kernel_rfl) (by kernel_rfl)
  (ll 2 (by kernel_rfl) (lc z4o (by kernel_rfl) (λd=>by kernel_rfl) (lc z4n (by kernel_rfl) (λd=>by kernel_rfl) trivial))) (λx=>by kernel_rfl)
def qvr:List Out:=[⟨.normal,⟨[],[0,1,3,17,18,19,51,52,53,54,79,80,81,82,83,84,103,104,105,106,107,108],[]⟩,mkSh 122 [(0,.val qc (.row (.pr .b (.pr .b .b)))),(1,.val qc .b),(3,.val .bool .b),(17,.val qc .b),(18,.val (.int .i64) .b),(19,.val (.int .i64) .b)]⟩]
def qvs:List Out:=[⟨.normal,⟨[(0,.b)],[0,1,3,51,52,53,54,79,80,81,82,83,84,103,104,105,106,107,108],[]⟩,mkSh 122 [(0,.val qc .b),(1,.val qc .b),(3,.val .bool .b)]⟩]
def qr9:List Out:=[⟨.normal,⟨[],[0,1,32,33,34,51,52,53,54,79,80,81,82,83,84,103,104,105,106,107,108],[]⟩,mkSh 122 [(0,.val qc .b),(1,.val qc (.row (.pr .b (.pr .b .b)))),(32,.val qc .b),(33,.val (.int .i64) .b),(34,.val (.int .i64) .b)]⟩]
def qsa:List Out:=[⟨.normal,⟨[(1,.b)],[0,1,51,52,53,54,79,80,81,82,83,84,103,104,105,106,107,108],[]⟩,mkSh 122 [(0,.val qc .b),(1,.val qc .b)]⟩]
def qsb:List Out:=[⟨.exit 4,⟨[],[13],[]⟩,mkSh 122 [(13,.val zi (.row (.pr .b (.pr .b .b))))]⟩,⟨.normal,⟨[],[0,1,13,14,15,79,80,81,82,83,84,103,104,105,106,107,108],[]⟩,mkSh 122 [(0,.val qc .b),(1,.val qc .b),(13,.val zi (.row (.pr .b (.pr .b .b)))),(14,.val (.int .i64) .b),(15,.val (.int .i64) .b)]⟩]
def qsc:List Out:=[⟨.normal,⟨[],[0,1,13,14,15,51,52,53,54,73,103,104,105,106,107,108],[]⟩,mkSh 122 [(0,.val qc .b),(1,.val qc .b),(13,.val zi (.row (.pr .b (.pr .b .b)))),(14,.val (.int .i64) .b),(15,.val (.int .i64) .b),(73,.val .bool .b)]⟩]
def qsd:List Out:=[⟨.normal,⟨[],[0,1,13,14,15,51,52,53,54,79,80,81,82,83,84,97],[]⟩,mkSh 122 [(0,.val qc .b),(1,.val qc .b),(13,.val zi (.row (.pr .b (.pr .b .b)))),(14,.val (.int .i64) .b),(15,.val (.int .i64) .b),(97,.val .bool .b)]⟩]
def qse:List Out:=[⟨.normal,⟨[],[0,1,13,14,15,51,52,53,54,79,80,81,82,83,84,103,104,105,106,107,108],[]⟩,mkSh 122 [(0,.val qc .b),(1,.val qc .b),(13,.val zi (.row (.pr .b (.pr .b .b)))),(14,.val (.int .i64) .b),(15,.val (.int .i64) .b)]⟩]
def qsf:List Sh:=mkSh 122 [(0,.val qc (.row (.pr .b (.pr .b .b)))),(1,.val qc .b),(3,.val .bool .b),(17,.val qc .b),(18,.val (.int .i64) .b),(19,.val (.int .i64) .b)]
def qvt:List Out:=[⟨.exit 0,⟨[],[0,1,3,51,52,53,54,79,80,81,82,83,84,103,104,105,106,107,108],[]⟩,mkSh 122 [(0,.val qc (.row (.pr .b (.pr .b .b)))),(1,.val qc .b),(3,.val .bool .b)]⟩]
def zh7 (t0:PV qc)(t1:PV qc)(t3:PV .bool)(t17:PV qc)(t18:PV (.int .i64))(t19:PV (.int .i64)):Option ((PV qc×PV qc×PV .bool×PV qc×PV (.int .i64)×PV (.int .i64)×Unit)⊕((PV qc×PV qc×PV .bool×Unit))):=
 bif (decide (t19<t18)) then
  ((
    bif inB t19 t17.length then
     bif (((t17.getD t19.toNat (dflt xg)).1)==32) then
      bif qw (t0.length+[(t17.getD t19.toNat (dflt xg))].length) then
       some ((t0++[(t17.getD t19.toNat (dflt xg))]),t1,t3,t17,t18,t19,())
      else
       none
     else
      some (t0,t1,t3,t17,t18,t19,())
    else
     none:Option ((PV qc×PV qc×PV .bool×PV qc×PV (.int .i64)×PV (.int .i64)×Unit)))).bind λj1=>
    some (.inl (j1.1,j1.2.1,j1.2.2.1,j1.2.2.2.1,j1.2.2.2.2.1,(IntKind.wrap .i64 (j1.2.2.2.2.2.1+1)),()))
 else
  some (.inr (t0,t1,t3,()))
def zux:PV qc×PV qc×PV .bool×PV qc×PV (.int .i64)×PV (.int .i64)×Unit->Option ((PV qc×PV qc×PV .bool×Unit)):=fix λd=>zh7 d.1 d.2.1 d.2.2.1 d.2.2.2.1 d.2.2.2.2.1 d.2.2.2.2.2.1
def z4p:Lp:=⟨⟨[],[0,1,3,17,18,19,51,52,53,54,79,80,81,82,83,84,103,104,105,106,107,108],[]⟩,qsf,qvt,λd=>zh7 d.1 d.2.1 d.2.2.1 d.2.2.2.1 d.2.2.2.2.1 d.2.2.2.2.2.1⟩
def qpn:List Sh:=mkSh 122 [(0,.val qc .b),(1,.val qc (.row (.pr .b (.pr .b .b)))),(32,.val qc .b),(33,.val (.int .i64) .b),(34,.val (.int .i64) .b)]
def qsg:List Out:=[⟨.exit 2,⟨[],[0,1,51,52,53,54,79,80,81,82,83,84,103,104,105,106,107,108],[]⟩,mkSh 122 [(0,.val qc .b),(1,.val qc (.row (.pr .b (.pr .b .b))))]⟩]
def zhy (t0:PV qc)(t1:PV qc)(t32:PV qc)(t33:PV (.int .i64))(t34:PV (.int .i64)):Option ((PV qc×PV qc×PV qc×PV (.int .i64)×PV (.int .i64)×Unit)⊕((PV qc×PV qc×Unit))):=
 bif (decide (t34<t33)) then
  ((
    bif inB t34 t32.length then
     bif (((t32.getD t34.toNat (dflt xg)).1)==32) then
      bif qw (t1.length+[(t32.getD t34.toNat (dflt xg))].length) then
       some (t0,(t1++[(t32.getD t34.toNat (dflt xg))]),t32,t33,t34,())
      else
       none
     else
      some (t0,t1,t32,t33,t34,())
    else
     none:Option ((PV qc×PV qc×PV qc×PV (.int .i64)×PV (.int .i64)×Unit)))).bind λj5=>
    some (.inl (j5.1,j5.2.1,j5.2.2.1,j5.2.2.2.1,(IntKind.wrap .i64 (j5.2.2.2.2.1+1)),()))
 else
  some (.inr (t0,t1,()))
def zuk:PV qc×PV qc×PV qc×PV (.int .i64)×PV (.int .i64)×Unit->Option ((PV qc×PV qc×Unit)):=fix λd=>zhy d.1 d.2.1 d.2.2.1 d.2.2.2.1 d.2.2.2.2.1
def z3e:Lp:=⟨⟨[],[0,1,32,33,34,51,52,53,54,79,80,81,82,83,84,103,104,105,106,107,108],[]⟩,qpn,qsg,λd=>zhy d.1 d.2.1 d.2.2.1 d.2.2.2.1 d.2.2.2.2.1⟩
def qpo:List Sh:=mkSh 122 [(0,.val qc .b),(1,.val qc .b),(13,.val zi (.row (.pr .b (.pr .b .b)))),(14,.val (.int .i64) .b),(15,.val (.int .i64) .b)]
def qsh:List Out:=[⟨.exit 4,⟨[],[13],[]⟩,mkSh 122 [(13,.val zi (.row (.pr .b (.pr .b .b))))]⟩]
def zd8 (t0:PV qc)(t1:PV qc)(t13:PV zi)(t14:PV (.int .i64))(t15:PV (.int .i64)):Option ((PV qc×PV qc×PV zi×PV (.int .i64)×PV (.int .i64)×Unit)⊕((PV zi×Unit))):=
 ((
   bif (decide (t14<(t0.length:Int))) then
    some (.inr (t0,t1,t13,t14,t15,()))
   else
    bif (decide (t15<(t1.length:Int))) then
     some (.inr (t0,t1,t13,t14,t15,()))
    else
     some (.inl (t13,())):Option ((PV zi×Unit)⊕(PV qc×PV qc×PV zi×PV (.int .i64)×PV (.int .i64)×Unit)))).bind λx16=>
   match x16 with
   | .inl j9=>
     some (.inr (j9.1,()))
   | .inr j10=>
     ((
       bif (decide (j10.2.2.2.1<(j10.1.length:Int))) then
        bif inB j10.2.2.2.1 j10.1.length then
         some (j10.1,j10.2.1,j10.2.2.1,j10.2.2.2.1,j10.2.2.2.2.1,(!(((j10.1.getD j10.2.2.2.1.toNat (dflt xg)).1)==32)),())
        else
         none
       else
        some (j10.1,j10.2.1,j10.2.2.1,j10.2.2.2.1,j10.2.2.2.2.1,false,()):Option ((PV qc×PV qc×PV zi×PV (.int .i64)×PV (.int .i64)×PV .bool×Unit)))).bind λj11=>
       bif j11.2.2.2.2.2.1 then
        bif inB j11.2.2.2.1 j11.1.length then
         bif qw (j11.2.2.1.length+[(2,(((j11.1.getD j11.2.2.2.1.toNat (dflt xg)).2).1,()))].length) then
          some (.inl (j11.1,j11.2.1,(j11.2.2.1++[(2,(((j11.1.getD j11.2.2.2.1.toNat (dflt xg)).2).1,()))]),(IntKind.wrap .i64 (j11.2.2.2.1+1)),j11.2.2.2.2.1,()))
         else
          none
        else
         none
       else
        ((
          bif (decide (j11.2.2.2.2.1<(j11.2.1.length:Int))) then
           bif inB j11.2.2.2.2.1 j11.2.1.length then
            some (j11.1,j11.2.1,j11.2.2.1,j11.2.2.2.1,j11.2.2.2.2.1,(!(((j11.2.1.getD j11.2.2.2.2.1.toNat (dflt xg)).1)==32)),())
           else
            none
          else
           some (j11.1,j11.2.1,j11.2.2.1,j11.2.2.2.1,j11.2.2.2.2.1,false,()):Option ((PV qc×PV qc×PV zi×PV (.int .i64)×PV (.int .i64)×PV .bool×Unit)))).bind λj12=>
          bif j12.2.2.2.2.2.1 then
           bif inB j12.2.2.2.2.1 j12.2.1.length then
            bif qw (j12.2.2.1.length+[(3,(((j12.2.1.getD j12.2.2.2.2.1.toNat (dflt xg)).2).1,()))].length) then
             some (.inl (j12.1,j12.2.1,(j12.2.2.1++[(3,(((j12.2.1.getD j12.2.2.2.2.1.toNat (dflt xg)).2).1,()))]),j12.2.2.2.1,(IntKind.wrap .i64 (j12.2.2.2.2.1+1)),()))
            else
             none
           else
            none
          else
           ((
             bif (decide (j12.2.2.2.1<(j12.1.length:Int))) then
              bif inB j12.2.2.2.1 j12.1.length then
               bif qw (j12.2.2.1.length+[(1,(((j12.1.getD j12.2.2.2.1.toNat (dflt xg)).2).1,()))].length) then
                some (j12.1,j12.2.1,(j12.2.2.1++[(1,(((j12.1.getD j12.2.2.2.1.toNat (dflt xg)).2).1,()))]),j12.2.2.2.1,j12.2.2.2.2.1,())
               else
                none
              else
               none
             else
              some (j12.1,j12.2.1,j12.2.2.1,j12.2.2.2.1,j12.2.2.2.2.1,()):Option ((PV qc×PV qc×PV zi×PV (.int .i64)×PV (.int .i64)×Unit)))).bind λj13=>
             some (.inl (j13.1,j13.2.1,j13.2.2.1,(IntKind.wrap .i64 (j13.2.2.2.1+1)),(IntKind.wrap .i64 (j13.2.2.2.2.1+1)),()))
def zgj:PV qc×PV qc×PV zi×PV (.int .i64)×PV (.int .i64)×Unit->Option ((PV zi×Unit)):=fix λd=>zd8 d.1 d.2.1 d.2.2.1 d.2.2.2.1 d.2.2.2.2.1
def z3f:Lp:=⟨⟨[],[0,1,13,14,15,51,52,53,54,79,80,81,82,83,84,103,104,105,106,107,108],[]⟩,qpo,qsh,λd=>zd8 d.1 d.2.1 d.2.2.1 d.2.2.2.1 d.2.2.2.2.1⟩
def qzm:Plan:=⟨[(8,qvr),(9,qvs),(16,qr9),(17,qsa),(24,qsb),(25,qsc),(28,qsd),(22,qse)],[(4,z4p),(12,z3e),(19,z3f)],0,0⟩
def zql (t0:PV qc)(t1:PV qc)(t2:PV .bool)(t3:PV .bool):Option (PVs [zi]×PVs []):=
 ((
   bif t2 then
    (zux ([],t1,t3,t1,(t1.length:Int),0,())).bind λl3=>
      some (l3.1,l3.2.1,l3.2.2.1,())
   else
    some (t0,t1,t3,()):Option ((PV qc×PV qc×PV .bool×Unit)))).bind λj4=>
   ((
     bif j4.2.2.1 then
      (zuk (j4.1,[],j4.1,(j4.1.length:Int),0,())).bind λl7=>
        some (l7.1,l7.2.1,())
     else
      some (j4.1,j4.2.1,()):Option ((PV qc×PV qc×Unit)))).bind λj8=>
     (zgj (j8.1,j8.2.1,[],0,0,())).bind λl15=>
       some ((l15.1,()),())
def z8h:Ct:=⟨[(.bor,qc),(.bor,qc),(.bor,.bool),(.bor,.bool)],[(zi,(.row (.pr .b (.pr .b .b))))],λx=>zql x.1 x.2.1 x.2.2.1 x.2.2.2.1⟩
def qzn:Cx:=⟨tab,arrs,[],[],gl,[]⟩
theorem qzo:FnOk gl Tryz.prog 177 z8h:=
 fo qzn qzm 0 (oz trivial trivial) Tryz.func177 (by kernel_rfl) (by kernel_rfl) (by kernel_rfl)
  (ll 3 (by kernel_rfl) (lc z4p (by kernel_rfl) (λd=>by kernel_rfl) (lc z3e (by kernel_rfl) (λd=>by kernel_rfl) (lc z3f (by kernel_rfl) (λd=>by kernel_rfl) trivial)))) (λx=>by kernel_rfl)
def q6b:Plan:=⟨[],[],0,0⟩
def znr (t0:PV (.int .i64))(t1:PV (.int .i64)):Option (PVs [(.int .i64)]×PVs []):=
 bif (decide (t1>0)) then
  some (((IntKind.wrap .i64 (t0 -1)),()),())
 else
  some ((t0,()),())
def qca:Ct:=⟨[(.bor,(.int .i64)),(.bor,(.int .i64))],[((.int .i64),.b)],λx=>znr x.1 x.2.1⟩
def q6c:Cx:=⟨tab,arrs,[],[],gl,[]⟩
theorem q6d:FnOk gl Tryz.prog 178 qca:=
 fo q6c q6b 0 (oz trivial trivial) Tryz.func178 (by kernel_rfl) (by kernel_rfl) (by kernel_rfl)
  (ll 0 (by kernel_rfl) trivial) (λx=>by kernel_rfl)
def qzp:List Out:=[⟨.normal,⟨[],[0,2,23,42,43,44,45,46],[]⟩,mkSh 95 [(0,.val zf .b),(2,.var zh (.pr .b (.pr .b (.pr (.row (.pr .b (.pr .b .b))) .b)))),(23,.val .bool .b)]⟩]
def qzq:List Out:=[⟨.normal,⟨[],[0,2,4,7,8,47],[]⟩,mkSh 95 [(0,.val zf .b),(2,.var zh (.pr .b (.pr .b (.pr (.row (.pr .b (.pr .b .b))) .b)))),(4,.val (.int .i64) .b),(7,.val qc (.row (.pr .b (.pr .b .b)))),(8,.val (.int .i64) .b),(47,.val .bool .b)]⟩]
def q2r:Plan:=⟨[(2,qzp),(6,qzq)],[],0,0⟩
def zcs (t0:PV zf):Option (PVs [zh,(.int .i64)]×PVs []):=
 ((
   bif (decide ((t0.length:Int)<3)) then
    some (t0,(0,(0,(([]:PV zi),()))),true,())
   else
    bif inB 0 t0.length then
     some (t0,(0,(0,(([]:PV zi),()))),(!((t0.getD ((0:Int).toNat) [])==[42,42,42,42,42,42,42,42,42,42,42,42,42,42,42,10])),())
    else
     none:Option ((PV zf×PV zh×PV .bool×Unit)))).bind λj2=>
   bif j2.2.2.1 then
    some (((0,(0,(([]:PV zi),()))),0,()),())
   else
    bif inB 1 j2.1.length then
     (zms (j2.1.getD ((1:Int).toNat) []) [42,42,42,32] [32,42,42,42,42,10]).bind λr4=>
       bif cutB 2 (j2.1.length:Int) j2.1.length then
        (zm0 (cutL 2 (j2.1.length:Int) j2.1) [32,45,33]).bind λr6=>
          ((
            bif (!r4.1.2.2.1) then
             some (j2.1,j2.2.1,r4.1.1,r6.1.1,r6.1.2.1,true,())
            else
             some (j2.1,j2.2.1,r4.1.1,r6.1.1,r6.1.2.1,(decide ((IntKind.wrap .i64 (2+r6.1.2.1))>=(j2.1.length:Int))),()):Option ((PV zf×PV zh×PV (.int .i64)×PV qc×PV (.int .i64)×PV .bool×Unit)))).bind λj8=>
            bif j8.2.2.2.2.2.1 then
             some (((0,(0,(([]:PV zi),()))),0,()),())
            else
             bif inB (IntKind.wrap .i64 (2+j8.2.2.2.2.1)) j8.1.length then
              (zms (j8.1.getD ((IntKind.wrap .i64 (2+j8.2.2.2.2.1)).toNat) []) [45,45,45,32] [32,45,45,45,45,10]).bind λr10=>
                bif cutB (IntKind.wrap .i64 (3+j8.2.2.2.2.1)) (j8.1.length:Int) j8.1.length then
                 (zm0 (cutL (IntKind.wrap .i64 (3+j8.2.2.2.2.1)) (j8.1.length:Int) j8.1) [32,43,33]).bind λr12=>
                   bif (!r10.1.2.2.1) then
                    some (((0,(0,(([]:PV zi),()))),0,()),())
                   else
                    (zql j8.2.2.2.1 r12.1.1 (j8.2.2.2.2.1==0) (r12.1.2.1==0)).bind λr14=>
                      (zfx (0,(0,(r14.1.1,())))).bind λr17=>
                        (znr j8.2.2.1 (r17.1.1.length:Int)).bind λr18=>
                          (zeg (r18.1.1,(0,(r14.1.1,())))).bind λr21=>
                            (znr r10.1.1 (r21.1.1.length:Int)).bind λr22=>
                              some (((r18.1.1,(r22.1.1,(r14.1.1,()))),(IntKind.wrap .i64 ((IntKind.wrap .i64 (3+j8.2.2.2.2.1))+r12.1.2.1)),()),())
                else
                 none
             else
              none
       else
        none
    else
     none
def qah:Ct:=⟨[(.bor,zf)],[(zh,(.pr .b (.pr .b (.pr (.row (.pr .b (.pr .b .b))) .b)))),((.int .i64),.b)],λx=>zcs x.1⟩
def q2s:Cx:=⟨tab,arrs,[(163,zkj),(164,zkk),(175,z6r),(176,z8g),(177,z8h),(178,qca)],[],gl,[]⟩
theorem q2t:FnOk gl Tryz.prog 103 qah:=
 fo q2s q2r 0 (oz ⟨zm6,zm7,qvo,qzl,qzo,q6d,trivial⟩ trivial) Tryz.func103 (by kernel_rfl) (by kernel_rfl) (by kernel_rfl)
  (ll 0 (by kernel_rfl) trivial) (λx=>by kernel_rfl)
def qvu:List Out:=[⟨.normal,⟨[],[5],[]⟩,mkSh 20 [(5,.val .str .b)]⟩]
def qzr:Plan:=⟨[(4,qvu)],[],0,0⟩
def zkc (t0:PV (.int .i64))(t1:PV (.int .i64)):Option (PVs [.str]×PVs []):=
 (zmg t0 t1).bind λr3=>
   (zeh r3.1.1).bind λr4=>
     ((
       bif (decide (t1>1)) then
        (zeh (IntKind.wrap .i64 (t0+t1))).bind λr6=>
          bif decide ([44].length+r6.1.1.length<=1099511627776) then
           bif decide (r4.1.1.length+([44]++r6.1.1).length<=1099511627776) then
            some ((r4.1.1++([44]++r6.1.1)),())
           else
            none
          else
           none
       else
        some (r4.1.1,()):Option ((PV .str×Unit)))).bind λj7=>
       some ((j7.1,()),())
def z8i:Ct:=⟨[(.bor,(.int .i64)),(.bor,(.int .i64))],[(.str,.b)],λx=>zkc x.1 x.2.1⟩
def qzs:Cx:=⟨tab,arrs,[(196,zq8),(197,zur)],[],gl,[]⟩
theorem qzt:FnOk gl Tryz.prog 168 z8i:=
 fo qzs qzr 0 (oz ⟨zv1,z4i,trivial⟩ trivial) Tryz.func168 (by kernel_rfl) (by kernel_rfl) (by kernel_rfl)
  (ll 0 (by kernel_rfl) trivial) (λx=>by kernel_rfl)
def qsi:List Sh:=mkSh 19 [(1,.val (.int .i64) .b),(8,.val zi .b),(9,.val (.int .i64) .b),(10,.val (.int .i64) .b)]
def qvv:List Out:=[⟨.exit 0,⟨[],[],[]⟩,mkSh 19 []⟩,⟨.ret,⟨[],[4],[]⟩,mkSh 19 [(4,.val .bool .b)]⟩]
def zfm (t1:PV (.int .i64))(t8:PV zi)(t9:PV (.int .i64))(t10:PV (.int .i64)):Option ((PV (.int .i64)×PV zi×PV (.int .i64)×PV (.int .i64)×Unit)⊕((Unit)⊕(PV .bool×Unit))):=
 bif (decide (t10<t9)) then
  bif inB t10 t8.length then
   bif (((t8.getD t10.toNat (dflt zo)).1)==t1) then
    some (.inr (.inr (true,())))
   else
    some (.inl (t1,t8,t9,(IntKind.wrap .i64 (t10+1)),()))
  else
   none
 else
  some (.inr (.inl ()))
def z5x:PV (.int .i64)×PV zi×PV (.int .i64)×PV (.int .i64)×Unit->Option ((Unit)⊕(PV .bool×Unit)):=fix λd=>zfm d.1 d.2.1 d.2.2.1 d.2.2.2.1
def z4q:Lp:=⟨⟨[],[1,8,9,10],[]⟩,qsi,qvv,λd=>zfm d.1 d.2.1 d.2.2.1 d.2.2.2.1⟩
def qzu:Plan:=⟨[],[(2,z4q)],0,0⟩
def zkd (t0:PV zh)(t1:PV (.int .i64)):Option (PVs [.bool]×PVs []):=
 (z5x (t1,t0.2.2.1,(t0.2.2.1.length:Int),0,())).bind λx5=>
   match x5 with
   | .inl l3=>
     some ((false,()),())
   | .inr l4=>
     some ((l4.1,()),())
def z8j:Ct:=⟨[(.bor,zh),(.bor,(.int .i64))],[(.bool,.b)],λx=>zkd x.1 x.2.1⟩
def qzv:Cx:=⟨tab,arrs,[],[],gl,[]⟩
theorem qzw:FnOk gl Tryz.prog 169 z8j:=
 fo qzv qzu 0 (oz trivial trivial) Tryz.func169 (by kernel_rfl) (by kernel_rfl) (by kernel_rfl)
  (ll 1 (by kernel_rfl) (lc z4q (by kernel_rfl) (λd=>by kernel_rfl) trivial)) (λx=>by kernel_rfl)
def qzx:Plan:=⟨[],[],0,0⟩
def zqh (t0:PV (.int .i64))(t1:PV (.int .i64)):Option (PVs [(.int .i64)]×PVs []):=
 bif (decide (t0>t1)) then
  some ((t0,()),())
 else
  some ((t1,()),())
def z8k:Ct:=⟨[(.bor,(.int .i64)),(.bor,(.int .i64))],[((.int .i64),.b)],λx=>zqh x.1 x.2.1⟩
def qzy:Cx:=⟨tab,arrs,[],[],gl,[]⟩
theorem qzz:FnOk gl Tryz.prog 238 z8k:=
 fo qzy qzx 0 (oz trivial trivial) Tryz.func238 (by kernel_rfl) (by kernel_rfl) (by kernel_rfl)
  (ll 0 (by kernel_rfl) trivial) (λx=>by kernel_rfl)
def qvw:List Out:=[⟨.normal,⟨[],[1,4,5,6,7,8,9,10,27,28,29,30,31,32,33,47,48,49,50,51,52,53],[]⟩,mkSh 77 [(1,.var zh .b),(4,.val (.int .i64) .b),(5,.val ql (.row .b)),(6,.val ql (.row .b)),(7,.val (.int .i64) .b),(8,.val (.int .i64) .b),(9,.val .bool .b),(10,.val .bool .b),(27,.addr ⟨1,[.r,.r,.l],0,0⟩),(28,.val zi .b),(29,.val (.int .i64) .b),(30,.bad zo),(31,.bad (.int .i64)),(32,.val (.int .i64) .b),(33,.val .bool .b)]⟩]
def qsj:List Out:=[⟨.normal,⟨[],[1,4,5,6,7,8,9,10,27,28,29,30,31,32,33,37,38,39,40,41,42,43],[]⟩,mkSh 77 [(1,.var zh .b),(4,.val (.int .i64) .b),(5,.val ql (.row .b)),(6,.val ql (.row .b)),(7,.val (.int .i64) .b),(8,.val (.int .i64) .b),(9,.val .bool .b),(10,.val .bool .b),(27,.addr ⟨1,[.r,.r,.l],0,0⟩),(28,.val zi .b),(29,.val (.int .i64) .b),(30,.bad zo),(31,.bad (.int .i64)),(32,.val (.int .i64) .b),(33,.val .bool .b)]⟩]
def qsk:List Sh:=mkSh 77 [(1,.var zh .b),(4,.val (.int .i64) .b),(5,.val ql (.row .b)),(6,.val ql (.row .b)),(7,.val (.int .i64) .b),(8,.val (.int .i64) .b),(9,.val .bool .b),(10,.val .bool .b)]
def qvx:List Out:=[⟨.exit 2,⟨[],[1,4,5,6,7,8,9,10,37,38,39,40,41,42,43,47,48,49,50,51,52,53],[]⟩,mkSh 77 [(1,.var zh .b),(4,.val (.int .i64) .b),(5,.val ql (.row .b)),(6,.val ql (.row .b)),(7,.val (.int .i64) .b),(8,.val (.int .i64) .b),(9,.val .bool .b),(10,.val .bool .b)]⟩]
def zfl (t1:PV zh)(t4:PV (.int .i64))(t5:PV ql)(t6:PV ql)(t7:PV (.int .i64))(t8:PV (.int .i64))(t9:PV .bool)(t10:PV .bool):Option ((PV zh×PV (.int .i64)×PV ql×PV ql×PV (.int .i64)×PV (.int .i64)×PV .bool×PV .bool×Unit)⊕((PV zh×PV (.int .i64)×PV ql×PV ql×PV (.int .i64)×PV (.int .i64)×PV .bool×PV .bool×Unit))):=
 bif (decide (t8<t4)) then
  bif inB t8 t1.2.2.1.length then
   bif (!(((t1.2.2.1.getD t8.toNat (dflt zo)).1)==1)) then
    ((
      bif t9 then
       some (t1,t4,t5,t6,t7,t8,true,t10,t1.2.2.1,t8,(t1.2.2.1.getD t8.toNat (dflt zo)),(t1.2.2.1.getD t8.toNat (dflt zo)).1,(t1.2.2.1.getD t8.toNat (dflt zo)).1,(!(((t1.2.2.1.getD t8.toNat (dflt zo)).1)==1)),())
      else
       bif inB t8 t1.2.2.1.length then
        some (t1,t4,t5,t6,t7,t8,(((t1.2.2.1.getD t8.toNat (dflt zo)).1)==2),t10,t1.2.2.1,t8,(t1.2.2.1.getD t8.toNat (dflt zo)),(t1.2.2.1.getD t8.toNat (dflt zo)).1,(t1.2.2.1.getD t8.toNat (dflt zo)).1,(!(((t1.2.2.1.getD t8.toNat (dflt zo)).1)==1)),())
       else
        none:Option ((PV zh×PV (.int .i64)×PV ql×PV ql×PV (.int .i64)×PV (.int .i64)×PV .bool×PV .bool×PV zi×PV (.int .i64)×PV zo×PV (.int .i64)×PV (.int .i64)×PV .bool×Unit)))).bind λj3=>
      ((
        bif j3.2.2.2.2.2.2.2.1 then
         some (j3.1,j3.2.1,j3.2.2.1,j3.2.2.2.1,j3.2.2.2.2.1,j3.2.2.2.2.2.1,j3.2.2.2.2.2.2.1,true,j3.2.2.2.2.2.2.2.2.1,j3.2.2.2.2.2.2.2.2.2.1,j3.2.2.2.2.2.2.2.2.2.2.1,j3.2.2.2.2.2.2.2.2.2.2.2.1,j3.2.2.2.2.2.2.2.2.2.2.2.2.1,j3.2.2.2.2.2.2.2.2.2.2.2.2.2.1,())
        else
         bif inB j3.2.2.2.2.2.1 j3.1.2.2.1.length then
          some (j3.1,j3.2.1,j3.2.2.1,j3.2.2.2.1,j3.2.2.2.2.1,j3.2.2.2.2.2.1,j3.2.2.2.2.2.2.1,(((j3.1.2.2.1.getD j3.2.2.2.2.2.1.toNat (dflt zo)).1)==3),j3.2.2.2.2.2.2.2.2.1,j3.2.2.2.2.2.2.2.2.2.1,j3.2.2.2.2.2.2.2.2.2.2.1,j3.2.2.2.2.2.2.2.2.2.2.2.1,j3.2.2.2.2.2.2.2.2.2.2.2.2.1,j3.2.2.2.2.2.2.2.2.2.2.2.2.2.1,())
         else
          none:Option ((PV zh×PV (.int .i64)×PV ql×PV ql×PV (.int .i64)×PV (.int .i64)×PV .bool×PV .bool×PV zi×PV (.int .i64)×PV zo×PV (.int .i64)×PV (.int .i64)×PV .bool×Unit)))).bind λj4=>
        some (.inl (j4.1,j4.2.1,j4.2.2.1,j4.2.2.2.1,j4.2.2.2.2.1,(IntKind.wrap .i64 (j4.2.2.2.2.2.1+1)),j4.2.2.2.2.2.2.1,j4.2.2.2.2.2.2.2.1,()))
   else
    some (.inr (t1,t4,t5,t6,t7,t8,t9,t10,()))
  else
   none
 else
  some (.inr (t1,t4,t5,t6,t7,t8,t9,t10,()))
def z5v:PV zh×PV (.int .i64)×PV ql×PV ql×PV (.int .i64)×PV (.int .i64)×PV .bool×PV .bool×Unit->Option ((PV zh×PV (.int .i64)×PV ql×PV ql×PV (.int .i64)×PV (.int .i64)×PV .bool×PV .bool×Unit)):=fix λd=>zfl d.1 d.2.1 d.2.2.1 d.2.2.2.1 d.2.2.2.2.1 d.2.2.2.2.2.1 d.2.2.2.2.2.2.1 d.2.2.2.2.2.2.2.1
def z4r:Lp:=⟨⟨[],[1,4,5,6,7,8,9,10,37,38,39,40,41,42,43,47,48,49,50,51,52,53],[]⟩,qsk,qvx,λd=>zfl d.1 d.2.1 d.2.2.1 d.2.2.2.1 d.2.2.2.2.1 d.2.2.2.2.2.1 d.2.2.2.2.2.2.1 d.2.2.2.2.2.2.2.1⟩
def qpp:List Sh:=mkSh 77 [(1,.var zh .b),(4,.val (.int .i64) .b),(5,.val ql (.row .b)),(6,.val ql (.row .b)),(7,.val (.int .i64) .b),(8,.val (.int .i64) .b),(9,.val .bool .b),(10,.val .bool .b),(11,.val (.int .i64) .b)]
def qsl:List Out:=[⟨.exit 4,⟨[],[1,4,5,6,7,8,27,28,29,30,31,32,33,37,38,39,40,41,42,43,47,48,49,50,51,52,53],[]⟩,mkSh 77 [(1,.var zh .b),(4,.val (.int .i64) .b),(5,.val ql (.row .b)),(6,.val ql (.row .b)),(7,.val (.int .i64) .b),(8,.val (.int .i64) .b)]⟩]
def zhw (t1:PV zh)(t4:PV (.int .i64))(t5:PV ql)(t6:PV ql)(t7:PV (.int .i64))(t8:PV (.int .i64))(t9:PV .bool)(t10:PV .bool)(t11:PV (.int .i64)):Option ((PV zh×PV (.int .i64)×PV ql×PV ql×PV (.int .i64)×PV (.int .i64)×PV .bool×PV .bool×PV (.int .i64)×Unit)⊕((PV zh×PV (.int .i64)×PV ql×PV ql×PV (.int .i64)×PV (.int .i64)×Unit))):=
 bif (decide (t11<t8)) then
  bif inB t11 t5.length then
   bif inB t11 t6.length then
    some (.inl (t1,t4,(t5.set t11.toNat t9),(t6.set t11.toNat t10),t7,t8,t9,t10,(IntKind.wrap .i64 (t11+1)),()))
   else
    none
  else
   none
 else
  some (.inr (t1,t4,t5,t6,t7,t8,()))
def z3x:PV zh×PV (.int .i64)×PV ql×PV ql×PV (.int .i64)×PV (.int .i64)×PV .bool×PV .bool×PV (.int .i64)×Unit->Option ((PV zh×PV (.int .i64)×PV ql×PV ql×PV (.int .i64)×PV (.int .i64)×Unit)):=fix λd=>zhw d.1 d.2.1 d.2.2.1 d.2.2.2.1 d.2.2.2.2.1 d.2.2.2.2.2.1 d.2.2.2.2.2.2.1 d.2.2.2.2.2.2.2.1 d.2.2.2.2.2.2.2.2.1
def z3g:Lp:=⟨⟨[],[1,4,5,6,7,8,9,10,11,27,28,29,30,31,32,33,37,38,39,40,41,42,43,47,48,49,50,51,52,53],[]⟩,qpp,qsl,λd=>zhw d.1 d.2.1 d.2.2.1 d.2.2.2.1 d.2.2.2.2.1 d.2.2.2.2.2.1 d.2.2.2.2.2.2.1 d.2.2.2.2.2.2.2.1 d.2.2.2.2.2.2.2.2.1⟩
def qsm:List Sh:=mkSh 77 [(1,.var zh .b),(4,.val (.int .i64) .b),(5,.val ql (.row .b)),(6,.val ql (.row .b)),(7,.val (.int .i64) .b)]
def qvy:List Out:=[⟨.exit 0,⟨[],[5,6],[]⟩,mkSh 77 [(5,.val ql (.row .b)),(6,.val ql (.row .b))]⟩]
def zdr (t1:PV zh)(t4:PV (.int .i64))(t5:PV ql)(t6:PV ql)(t7:PV (.int .i64)):Option ((PV zh×PV (.int .i64)×PV ql×PV ql×PV (.int .i64)×Unit)⊕((PV ql×PV ql×Unit))):=
 bif (decide (t7<t4)) then
  (z5v (t1,t4,t5,t6,t7,t7,false,false,())).bind λl2=>
    (z3x (l2.1,l2.2.1,l2.2.2.1,l2.2.2.2.1,l2.2.2.2.2.1,l2.2.2.2.2.2.1,l2.2.2.2.2.2.2.1,l2.2.2.2.2.2.2.2.1,l2.2.2.2.2.1,())).bind λl4=>
      (zqh l4.2.2.2.2.2.1 (IntKind.wrap .i64 (l4.2.2.2.2.1+1))).bind λr5=>
        some (.inl (l4.1,l4.2.1,l4.2.2.1,l4.2.2.2.1,r5.1.1,()))
 else
  some (.inr (t5,t6,()))
def zuv:PV zh×PV (.int .i64)×PV ql×PV ql×PV (.int .i64)×Unit->Option ((PV ql×PV ql×Unit)):=fix λd=>zdr d.1 d.2.1 d.2.2.1 d.2.2.2.1 d.2.2.2.2.1
def z4s:Lp:=⟨⟨[],[1,4,5,6,7,27,28,29,30,31,32,33,37,38,39,40,41,42,43,47,48,49,50,51,52,53],[]⟩,qsm,qvy,λd=>zdr d.1 d.2.1 d.2.2.1 d.2.2.2.1 d.2.2.2.2.1⟩
def qz0:Plan:=⟨[(9,qvw),(10,qsj)],[(7,z4r),(12,z3g),(4,z4s)],0,0⟩
def zqi (t0:PV zh):Option (PVs [ql,ql]×PVs []):=
 bif decide (0<=(t0.2.2.1.length:Int))&&(decide ((t0.2.2.1.length:Int)<=(t0.2.2.1.length:Int))&&qw (t0.2.2.1.length:Int).toNat) then
  bif decide (0<=(t0.2.2.1.length:Int))&&(decide ((t0.2.2.1.length:Int)<=(t0.2.2.1.length:Int))&&qw (t0.2.2.1.length:Int).toNat) then
   (zuv (t0,(t0.2.2.1.length:Int),(List.replicate (t0.2.2.1.length:Int).toNat false),(List.replicate (t0.2.2.1.length:Int).toNat false),0,())).bind λl7=>
     some ((l7.1,l7.2.1,()),())
  else
   none
 else
  none
def z8l:Ct:=⟨[(.bor,zh)],[(ql,(.row .b)),(ql,(.row .b))],λx=>zqi x.1⟩
def qz1:Cx:=⟨tab,arrs,[(238,z8k)],[],gl,[]⟩
theorem qz2:FnOk gl Tryz.prog 185 z8l:=
 fo qz1 qz0 0 (oz ⟨qzz,trivial⟩ trivial) Tryz.func185 (by kernel_rfl) (by kernel_rfl) (by kernel_rfl)
  (ll 3 (by kernel_rfl) (lc z4s (by kernel_rfl) (λd=>by kernel_rfl) (lc z4r (by kernel_rfl) (λd=>by kernel_rfl) (lc z3g (by kernel_rfl) (λd=>by kernel_rfl) trivial)))) (λx=>by kernel_rfl)
def qvz:List Out:=[⟨.normal,⟨[],[1,5,6,7,8,9,10,17,18,19,24,45,46,47,48,51,52,53,54],[]⟩,mkSh 72 [(1,.val .bool .b),(5,.val ql (.row .b)),(6,.val ql (.row .b)),(7,.val .str .b),(8,.val (.int .i64) .b),(9,.var zo .b),(10,.val .str .b),(17,.val zi .b),(18,.val (.int .i64) .b),(19,.val (.int .i64) .b),(24,.val .bool .b)]⟩]
def qv0:List Out:=[⟨.normal,⟨[],[1,5,6,7,9,10,17,18,19,29,30,33,34,35,36,37,38,40],[]⟩,mkSh 72 [(1,.val .bool .b),(5,.val ql (.row .b)),(6,.val ql (.row .b)),(7,.val .str .b),(9,.var zo .b),(10,.val .str .b),(17,.val zi .b),(18,.val (.int .i64) .b),(19,.val (.int .i64) .b),(40,.val .bool .b)]⟩]
def qsn:List Out:=[⟨.exit 1,⟨[],[1,5,6,7,17,18,19,29,30,33,34,35,36,37,38,45,46,47,48,51,52,53,54],[]⟩,mkSh 72 [(1,.val .bool .b),(5,.val ql (.row .b)),(6,.val ql (.row .b)),(7,.val .str .b),(17,.val zi .b),(18,.val (.int .i64) .b),(19,.val (.int .i64) .b)]⟩,⟨.normal,⟨[],[1,5,6,7,9,10,17,18,19,29,30,33,34,35,36,37,38,45,46,47,48,51,52,53,54],[]⟩,mkSh 72 [(1,.val .bool .b),(5,.val ql (.row .b)),(6,.val ql (.row .b)),(7,.val .str .b),(9,.var zo .b),(10,.val .str .b),(17,.val zi .b),(18,.val (.int .i64) .b),(19,.val (.int .i64) .b)]⟩]
def qso:List Out:=[⟨.normal,⟨[],[1,5,6,7,17,18,19,29,30,33,34,35,36,37,38,45,46,47,48,51,52,53,54],[]⟩,mkSh 72 [(1,.val .bool .b),(5,.val ql (.row .b)),(6,.val ql (.row .b)),(7,.val .str .b),(17,.val zi .b),(18,.val (.int .i64) .b),(19,.val (.int .i64) .b)]⟩]
def qsp:List Sh:=mkSh 72 [(1,.val .bool .b),(5,.val ql (.row .b)),(6,.val ql (.row .b)),(7,.val .str .b),(17,.val zi .b),(18,.val (.int .i64) .b),(19,.val (.int .i64) .b)]
def qv1:List Out:=[⟨.exit 0,⟨[],[7],[]⟩,mkSh 72 [(7,.val .str .b)]⟩]
def zh5 (t1:PV .bool)(t5:PV ql)(t6:PV ql)(t7:PV .str)(t17:PV zi)(t18:PV (.int .i64))(t19:PV (.int .i64)):Option ((PV .bool×PV ql×PV ql×PV .str×PV zi×PV (.int .i64)×PV (.int .i64)×Unit)⊕((PV .str×Unit))):=
 bif (decide (t19<t18)) then
  ((
    bif inB t19 t17.length then
     ((
       ((
         bif (((t17.getD t19.toNat (dflt zo)).1)==2) then
          bif (!t1) then
           some (t1,t5,t6,t7,t19,(t17.getD t19.toNat (dflt zo)),[32,32],t17,t18,t19,true,())
          else
           bif (((t17.getD t19.toNat (dflt zo)).1)==3) then
            some (t1,t5,t6,t7,t19,(t17.getD t19.toNat (dflt zo)),[32,32],t17,t18,t19,t1,())
           else
            some (t1,t5,t6,t7,t19,(t17.getD t19.toNat (dflt zo)),[32,32],t17,t18,t19,false,())
         else
          bif (((t17.getD t19.toNat (dflt zo)).1)==3) then
           some (t1,t5,t6,t7,t19,(t17.getD t19.toNat (dflt zo)),[32,32],t17,t18,t19,t1,())
          else
           some (t1,t5,t6,t7,t19,(t17.getD t19.toNat (dflt zo)),[32,32],t17,t18,t19,false,()):Option ((PV .bool×PV ql×PV ql×PV .str×PV (.int .i64)×PV zo×PV .str×PV zi×PV (.int .i64)×PV (.int .i64)×PV .bool×Unit)))).bind λj3=>
         bif j3.2.2.2.2.2.2.2.2.2.2.1 then
          some (.inl (j3.1,j3.2.1,j3.2.2.1,j3.2.2.2.1,j3.2.2.2.2.2.2.2.1,j3.2.2.2.2.2.2.2.2.1,j3.2.2.2.2.2.2.2.2.2.1,()))
         else
          ((
            bif (!(j3.2.2.2.2.2.1.1==1)) then
             bif inB j3.2.2.2.2.1 j3.2.1.length then
              bif (j3.2.1.getD j3.2.2.2.2.1.toNat false) then
               bif inB j3.2.2.2.2.1 j3.2.2.1.length then
                some (j3.1,j3.2.1,j3.2.2.1,j3.2.2.2.1,j3.2.2.2.2.2.1,j3.2.2.2.2.2.2.1,j3.2.2.2.2.2.2.2.1,j3.2.2.2.2.2.2.2.2.1,j3.2.2.2.2.2.2.2.2.2.1,(j3.2.2.1.getD j3.2.2.2.2.1.toNat false),())
               else
                none
              else
               some (j3.1,j3.2.1,j3.2.2.1,j3.2.2.2.1,j3.2.2.2.2.2.1,j3.2.2.2.2.2.2.1,j3.2.2.2.2.2.2.2.1,j3.2.2.2.2.2.2.2.2.1,j3.2.2.2.2.2.2.2.2.2.1,false,())
             else
              none
            else
             some (j3.1,j3.2.1,j3.2.2.1,j3.2.2.2.1,j3.2.2.2.2.2.1,j3.2.2.2.2.2.2.1,j3.2.2.2.2.2.2.2.1,j3.2.2.2.2.2.2.2.2.1,j3.2.2.2.2.2.2.2.2.2.1,false,()):Option ((PV .bool×PV ql×PV ql×PV .str×PV zo×PV .str×PV zi×PV (.int .i64)×PV (.int .i64)×PV .bool×Unit)))).bind λj4=>
            bif j4.2.2.2.2.2.2.2.2.2.1 then
             some (.inr (j4.1,j4.2.1,j4.2.2.1,j4.2.2.2.1,j4.2.2.2.2.1,[33,32],j4.2.2.2.2.2.2.1,j4.2.2.2.2.2.2.2.1,j4.2.2.2.2.2.2.2.2.1,()))
            else
             bif (j4.2.2.2.2.1.1==2) then
              some (.inr (j4.1,j4.2.1,j4.2.2.1,j4.2.2.2.1,j4.2.2.2.2.1,[45,32],j4.2.2.2.2.2.2.1,j4.2.2.2.2.2.2.2.1,j4.2.2.2.2.2.2.2.2.1,()))
             else
              bif (j4.2.2.2.2.1.1==3) then
               some (.inr (j4.1,j4.2.1,j4.2.2.1,j4.2.2.2.1,j4.2.2.2.2.1,[43,32],j4.2.2.2.2.2.2.1,j4.2.2.2.2.2.2.2.1,j4.2.2.2.2.2.2.2.2.1,()))
              else
               some (.inr (j4.1,j4.2.1,j4.2.2.1,j4.2.2.2.1,j4.2.2.2.2.1,j4.2.2.2.2.2.1,j4.2.2.2.2.2.2.1,j4.2.2.2.2.2.2.2.1,j4.2.2.2.2.2.2.2.2.1,())):Option ((PV .bool×PV ql×PV ql×PV .str×PV zi×PV (.int .i64)×PV (.int .i64)×Unit)⊕(PV .bool×PV ql×PV ql×PV .str×PV zo×PV .str×PV zi×PV (.int .i64)×PV (.int .i64)×Unit)))).bind λx11=>
       match x11 with
       | .inl j5=>
         some (j5.1,j5.2.1,j5.2.2.1,j5.2.2.2.1,j5.2.2.2.2.1,j5.2.2.2.2.2.1,j5.2.2.2.2.2.2.1,())
       | .inr j6=>
         (zds j6.2.2.2.2.2.1 j6.2.2.2.2.1.2.1).bind λr7=>
           bif decide (j6.2.2.2.1.length+r7.1.1.length<=1099511627776) then
            some (j6.1,j6.2.1,j6.2.2.1,(j6.2.2.2.1++r7.1.1),j6.2.2.2.2.2.2.1,j6.2.2.2.2.2.2.2.1,j6.2.2.2.2.2.2.2.2.1,())
           else
            none
    else
     none:Option ((PV .bool×PV ql×PV ql×PV .str×PV zi×PV (.int .i64)×PV (.int .i64)×Unit)))).bind λj8=>
    some (.inl (j8.1,j8.2.1,j8.2.2.1,j8.2.2.2.1,j8.2.2.2.2.1,j8.2.2.2.2.2.1,(IntKind.wrap .i64 (j8.2.2.2.2.2.2.1+1)),()))
 else
  some (.inr (t7,()))
def z5w:PV .bool×PV ql×PV ql×PV .str×PV zi×PV (.int .i64)×PV (.int .i64)×Unit->Option ((PV .str×Unit)):=fix λd=>zh5 d.1 d.2.1 d.2.2.1 d.2.2.2.1 d.2.2.2.2.1 d.2.2.2.2.2.1 d.2.2.2.2.2.2.1
def z4t:Lp:=⟨⟨[],[1,5,6,7,17,18,19,29,30,33,34,35,36,37,38,45,46,47,48,51,52,53,54],[]⟩,qsp,qv1,λd=>zh5 d.1 d.2.1 d.2.2.1 d.2.2.2.1 d.2.2.2.2.1 d.2.2.2.2.2.1 d.2.2.2.2.2.2.1⟩
def qz3:Plan:=⟨[(8,qvz),(9,qv0),(14,qsn),(15,qso)],[(4,z4t)],0,0⟩
def zgq (t0:PV zh)(t1:PV .bool):Option (PVs [.str]×PVs []):=
 (zqi t0).bind λr2=>
   (z5w (t1,r2.1.1,r2.1.2.1,[],t0.2.2.1,(t0.2.2.1.length:Int),0,())).bind λl10=>
     some ((l10.1,()),())
def z8m:Ct:=⟨[(.bor,zh),(.bor,.bool)],[(.str,.b)],λx=>zgq x.1 x.2.1⟩
def qz4:Cx:=⟨tab,arrs,[(139,zpt),(185,z8l)],[],gl,[]⟩
theorem qz5:FnOk gl Tryz.prog 109 z8m:=
 fo qz4 qz3 0 (oz ⟨zu7,qz2,trivial⟩ trivial) Tryz.func109 (by kernel_rfl) (by kernel_rfl) (by kernel_rfl)
  (ll 1 (by kernel_rfl) (lc z4t (by kernel_rfl) (λd=>by kernel_rfl) trivial)) (λx=>by kernel_rfl)
def qv2:List Out:=[⟨.normal,⟨[],[3,5,6,7,8],[]⟩,mkSh 46 [(3,.val .str .b),(5,.var zh .b),(6,.val zl .b),(7,.val (.int .i64) .b),(8,.val (.int .i64) .b)]⟩]
def qsq:List Out:=[⟨.normal,⟨[],[3,6,7,8],[]⟩,mkSh 46 [(3,.val .str .b),(6,.val zl .b),(7,.val (.int .i64) .b),(8,.val (.int .i64) .b)]⟩]
def qsr:List Sh:=mkSh 46 [(3,.val .str .b),(6,.val zl .b),(7,.val (.int .i64) .b),(8,.val (.int .i64) .b)]
def qv3:List Out:=[⟨.exit 0,⟨[],[3],[]⟩,mkSh 46 [(3,.val .str .b)]⟩]
def zh6 (t3:PV .str)(t6:PV zl)(t7:PV (.int .i64))(t8:PV (.int .i64)):Option ((PV .str×PV zl×PV (.int .i64)×PV (.int .i64)×Unit)⊕((PV .str×Unit))):=
 bif (decide (t8<t7)) then
  ((
    bif inB t8 t6.length then
     (zfx (t6.getD t8.toNat (dflt zh))).bind λr3=>
       (zkc ((t6.getD t8.toNat (dflt zh)).1) (r3.1.1.length:Int)).bind λr4=>
         bif decide ([42,42,42,42,42,42,42,42,42,42,42,42,42,42,42,10,42,42,42,32].length+r4.1.1.length<=1099511627776) then
          bif decide (([42,42,42,42,42,42,42,42,42,42,42,42,42,42,42,10,42,42,42,32]++r4.1.1).length+[32,42,42,42,42,10].length<=1099511627776) then
           bif decide (t3.length+(([42,42,42,42,42,42,42,42,42,42,42,42,42,42,42,10,42,42,42,32]++r4.1.1)++[32,42,42,42,42,10]).length<=1099511627776) then
            ((
              (zkd (t6.getD t8.toNat (dflt zh)) 2).bind λr6=>
                bif r6.1.1 then
                 (zgq (t6.getD t8.toNat (dflt zh)) true).bind λr7=>
                   bif decide ((t3++(([42,42,42,42,42,42,42,42,42,42,42,42,42,42,42,10,42,42,42,32]++r4.1.1)++[32,42,42,42,42,10])).length+r7.1.1.length<=1099511627776) then
                    some (((t3++(([42,42,42,42,42,42,42,42,42,42,42,42,42,42,42,10,42,42,42,32]++r4.1.1)++[32,42,42,42,42,10]))++r7.1.1),(t6.getD t8.toNat (dflt zh)),t6,t7,t8,())
                   else
                    none
                else
                 some ((t3++(([42,42,42,42,42,42,42,42,42,42,42,42,42,42,42,10,42,42,42,32]++r4.1.1)++[32,42,42,42,42,10])),(t6.getD t8.toNat (dflt zh)),t6,t7,t8,()):Option ((PV .str×PV zh×PV zl×PV (.int .i64)×PV (.int .i64)×Unit)))).bind λj8=>
              (zeg j8.2.1).bind λr11=>
                (zkc j8.2.1.2.1 (r11.1.1.length:Int)).bind λr12=>
                  bif decide ([45,45,45,32].length+r12.1.1.length<=1099511627776) then
                   bif decide (([45,45,45,32]++r12.1.1).length+[32,45,45,45,45,10].length<=1099511627776) then
                    bif decide (j8.1.length+(([45,45,45,32]++r12.1.1)++[32,45,45,45,45,10]).length<=1099511627776) then
                     (zkd j8.2.1 3).bind λr14=>
                       bif r14.1.1 then
                        (zgq j8.2.1 false).bind λr15=>
                          bif decide ((j8.1++(([45,45,45,32]++r12.1.1)++[32,45,45,45,45,10])).length+r15.1.1.length<=1099511627776) then
                           some (((j8.1++(([45,45,45,32]++r12.1.1)++[32,45,45,45,45,10]))++r15.1.1),j8.2.2.1,j8.2.2.2.1,j8.2.2.2.2.1,())
                          else
                           none
                       else
                        some ((j8.1++(([45,45,45,32]++r12.1.1)++[32,45,45,45,45,10])),j8.2.2.1,j8.2.2.2.1,j8.2.2.2.2.1,())
                    else
                     none
                   else
                    none
                  else
                   none
           else
            none
          else
           none
         else
          none
    else
     none:Option ((PV .str×PV zl×PV (.int .i64)×PV (.int .i64)×Unit)))).bind λj16=>
    some (.inl (j16.1,j16.2.1,j16.2.2.1,(IntKind.wrap .i64 (j16.2.2.2.1+1)),()))
 else
  some (.inr (t3,()))
def z5y:PV .str×PV zl×PV (.int .i64)×PV (.int .i64)×Unit->Option ((PV .str×Unit)):=fix λd=>zh6 d.1 d.2.1 d.2.2.1 d.2.2.2.1
def z4u:Lp:=⟨⟨[],[3,6,7,8],[]⟩,qsr,qv3,λd=>zh6 d.1 d.2.1 d.2.2.1 d.2.2.2.1⟩
def qz6:Plan:=⟨[(8,qv2),(11,qsq)],[(3,z4u)],0,0⟩
def zqj (t0:PV zl):Option (PVs [.str]×PVs []):=
 (z5y ([],t0,(t0.length:Int),0,())).bind λl18=>
   some ((l18.1,()),())
def z8n:Ct:=⟨[(.bor,zl)],[(.str,.b)],λx=>zqj x.1⟩
def qz7:Cx:=⟨tab,arrs,[(109,z8m),(163,zkj),(164,zkk),(168,z8i),(169,z8j)],[],gl,[]⟩
theorem qz8:FnOk gl Tryz.prog 100 z8n:=
 fo qz7 qz6 0 (oz ⟨qz5,zm6,zm7,qzt,qzw,trivial⟩ trivial) Tryz.func100 (by kernel_rfl) (by kernel_rfl) (by kernel_rfl)
  (ll 1 (by kernel_rfl) (lc z4u (by kernel_rfl) (λd=>by kernel_rfl) trivial)) (λx=>by kernel_rfl)
def qjo:List Out:=[⟨.normal,⟨[],[6,39],[]⟩,mkSh 41 [(6,.val zl (.row (.pr .b (.pr .b (.pr (.row (.pr .b (.pr .b .b))) .b))))),(39,.val .bool .b)]⟩]
def qjp:List Sh:=mkSh 41 [(0,.val .str .b),(5,.val zf .b),(6,.val zl (.row (.pr .b (.pr .b (.pr (.row (.pr .b (.pr .b .b))) .b)))))]
def qko:List Out:=[⟨.exit 0,⟨[],[0,6,35,36,37,38],[]⟩,mkSh 41 [(0,.val .str .b),(6,.val zl (.row (.pr .b (.pr .b (.pr (.row (.pr .b (.pr .b .b))) .b)))))]⟩,⟨.ret,⟨[],[2,3,4],[]⟩,mkSh 41 [(2,.val zl (.row (.pr .b (.pr .b (.pr (.row (.pr .b (.pr .b .b))) .b))))),(3,.val (.int .i64) .b),(4,.val .bool .b)]⟩]
def zgc (t0:PV .str)(t5:PV zf)(t6:PV zl):Option ((PV .str×PV zf×PV zl×Unit)⊕((PV .str×PV zl×Unit)⊕(PV zl×PV (.int .i64)×PV .bool×Unit))):=
 bif (decide ((t5.length:Int)>0)) then
  (zcs t5).bind λr4=>
    bif (r4.1.2.1==0) then
     some (.inr (.inr ([],1,false,())))
    else
     bif qw (t6.length+[r4.1.1].length) then
      bif cutB r4.1.2.1 (t5.length:Int) t5.length then
       some (.inl (t0,(cutL r4.1.2.1 (t5.length:Int) t5),(t6++[r4.1.1]),()))
      else
       none
     else
      none
 else
  some (.inr (.inl (t0,t6,())))
def zgd:PV .str×PV zf×PV zl×Unit->Option ((PV .str×PV zl×Unit)⊕(PV zl×PV (.int .i64)×PV .bool×Unit)):=fix λd=>zgc d.1 d.2.1 d.2.2.1
def z0d:Lp:=⟨⟨[],[0,5,6,35,36,37,38],[]⟩,qjp,qko,λd=>zgc d.1 d.2.1 d.2.2.1⟩
def qlr:Plan:=⟨[(12,qjo)],[(5,z0d)],0,0⟩
def zl4 (t0:PV .str):Option (PVs [zl,(.int .i64),.bool]×PVs []):=
 bif (decide ((t0.length:Int)>3000)) then
  some (([],1,false,()),())
 else
  (zir t0).bind λr2=>
    (zgd (t0,r2.1.1,[],())).bind λx17=>
      match x17 with
      | .inl l7=>
        ((
          (zmy l7.2.1).bind λr13=>
            bif (!r13.1.1) then
             some (l7.2.1,true,())
            else
             (zqj l7.2.1).bind λr14=>
               some (l7.2.1,(!(r14.1.1==l7.1)),()):Option ((PV zl×PV .bool×Unit)))).bind λj15=>
          bif j15.2.1 then
           some (([],1,false,()),())
          else
           some ((j15.1,0,true,()),())
      | .inr l16=>
        some ((l16.1,l16.2.1,l16.2.2.1,()),())
def z1c:Ct:=⟨[(.bor,.str)],[(zl,(.row (.pr .b (.pr .b (.pr (.row (.pr .b (.pr .b .b))) .b))))),((.int .i64),.b),(.bool,.b)],λx=>zl4 x.1⟩
def qls:Cx:=⟨tab,arrs,[(79,zm5),(95,zvj),(100,z8n),(103,qah)],[],gl,[]⟩
theorem qlt:FnOk gl Tryz.prog 50 z1c:=
 fo qls qlr 0 (oz ⟨zq7,z8d,qz8,q2t,trivial⟩ trivial) Tryz.func50 (by kernel_rfl) (by kernel_rfl) (by kernel_rfl)
  (ll 1 (by kernel_rfl) (lc z0d (by kernel_rfl) (λd=>by kernel_rfl) trivial)) (λx=>by kernel_rfl)
def qss:List Out:=[⟨.normal,⟨[],[0,5,6,7,22],[]⟩,mkSh 27 [(0,.val zf .b),(5,.val zf .b),(6,.val (.int .i64) .b),(7,.val (.int .i64) .b),(22,.val .bool .b)]⟩]
def qpq:List Sh:=mkSh 27 [(0,.val zf .b),(5,.val zf .b),(6,.val (.int .i64) .b),(7,.val (.int .i64) .b)]
def qst:List Out:=[⟨.exit 0,⟨[],[0],[]⟩,mkSh 27 [(0,.val zf .b)]⟩,⟨.ret,⟨[],[2],[]⟩,mkSh 27 [(2,.val .bool .b)]⟩]
def zfi (t0:PV zf)(t5:PV zf)(t6:PV (.int .i64))(t7:PV (.int .i64)):Option ((PV zf×PV zf×PV (.int .i64)×PV (.int .i64)×Unit)⊕((PV zf×Unit)⊕(PV .bool×Unit))):=
 bif (decide (t7<t6)) then
  bif inB t7 t5.length then
   ((
     (zgo (t5.getD t7.toNat [])).bind λr4=>
       bif (!r4.1.1) then
        some (t0,t5,t6,t7,true,())
       else
        (zef (t5.getD t7.toNat [])).bind λr5=>
          bif (!r5.1.1) then
           some (t0,t5,t6,t7,true,())
          else
           some (t0,t5,t6,t7,((t5.getD t7.toNat [])==[46,10]),()):Option ((PV zf×PV zf×PV (.int .i64)×PV (.int .i64)×PV .bool×Unit)))).bind λj6=>
     bif j6.2.2.2.2.1 then
      some (.inr (.inr (false,())))
     else
      some (.inl (j6.1,j6.2.1,j6.2.2.1,(IntKind.wrap .i64 (j6.2.2.2.1+1)),()))
  else
   none
 else
  some (.inr (.inl (t0,())))
def z3y:PV zf×PV zf×PV (.int .i64)×PV (.int .i64)×Unit->Option ((PV zf×Unit)⊕(PV .bool×Unit)):=fix λd=>zfi d.1 d.2.1 d.2.2.1 d.2.2.2.1
def z3h:Lp:=⟨⟨[],[0,5,6,7,15,16,17,20,21],[]⟩,qpq,qst,λd=>zfi d.1 d.2.1 d.2.2.1 d.2.2.2.1⟩
def qv4:Plan:=⟨[(5,qss)],[(2,z3h)],0,0⟩
def zj6 (t0:PV zf):Option (PVs [.bool]×PVs []):=
 (z3y (t0,t0,(t0.length:Int),0,())).bind λx12=>
   match x12 with
   | .inl l9=>
     (zbm (l9.1.length:Int) 1 40).bind λr10=>
       some ((r10.1.1,()),())
   | .inr l11=>
     some ((l11.1,()),())
def z6s:Ct:=⟨[(.bor,zf)],[(.bool,.b)],λx=>zj6 x.1⟩
def qv5:Cx:=⟨tab,arrs,[(114,zfz),(128,zj7),(183,zqb)],[],gl,[]⟩
theorem qv6:FnOk gl Tryz.prog 269 z6s:=
 fo qv5 qv4 0 (oz ⟨zgw,zmt,zvg,trivial⟩ trivial) Tryz.func269 (by kernel_rfl) (by kernel_rfl) (by kernel_rfl)
  (ll 1 (by kernel_rfl) (lc z3h (by kernel_rfl) (λd=>by kernel_rfl) trivial)) (λx=>by kernel_rfl)
def qsu:List Out:=[⟨.normal,⟨[],[1,14,25,26,27,37,38,39,42,43,44,52,53,54,62,63,64,65,71,72,73,76,77,78,79,80,83,84,85,86],[]⟩,mkSh 88 [(1,.var qh .b),(14,.val .bool .b)]⟩]
def qv7:Plan:=⟨[(2,qsu)],[],0,0⟩
def zp4 (t0:PV qh):Option (PVs [.bool]×PVs []):=
 ((
   (zbm t0.2.1 0 1000).bind λr6=>
     bif (!r6.1.1) then
      some (t0,true,())
     else
      (zbm t0.2.2.1 t0.2.1 1000).bind λr7=>
        some (t0,(!r7.1.1),()):Option ((PV qh×PV .bool×Unit)))).bind λj8=>
   bif j8.2.1 then
    some ((false,()),())
   else
    bif (j8.1.1==1) then
     bif (j8.1.2.2.1==j8.1.2.1) then
      (zj6 j8.1.2.2.2.1).bind λr12=>
        some ((r12.1.1,()),())
     else
      some ((false,()),())
    else
     bif (j8.1.1==2) then
      bif (j8.1.2.2.1==j8.1.2.1) then
       bif (decide (j8.1.2.1>=1)) then
        (zj6 j8.1.2.2.2.1).bind λr13=>
          some ((r13.1.1,()),())
       else
        some ((false,()),())
      else
       some ((false,()),())
     else
      bif (j8.1.1==3) then
       bif (decide (j8.1.2.1>=1)) then
        (zj6 j8.1.2.2.2.1).bind λr14=>
          some ((r14.1.1,()),())
       else
        some ((false,()),())
      else
       bif (j8.1.1==4) then
        bif (decide (j8.1.2.1>=1)) then
         some ((((j8.1.2.2.2.1.length:Int)==0),()),())
        else
         some ((false,()),())
       else
        bif (j8.1.1==5) then
         bif (decide (j8.1.2.1>=1)) then
          bif (j8.1.2.2.1==j8.1.2.1) then
           some ((((j8.1.2.2.2.1.length:Int)==0),()),())
          else
           some ((false,()),())
         else
          some ((false,()),())
        else
         some ((false,()),())
def z6t:Ct:=⟨[(.bor,qh)],[(.bool,.b)],λx=>zp4 x.1⟩
def qv8:Cx:=⟨tab,arrs,[(114,zfz),(269,z6s)],[],gl,[]⟩
theorem qv9:FnOk gl Tryz.prog 243 z6t:=
 fo qv8 qv7 0 (oz ⟨zgw,qv6,trivial⟩ trivial) Tryz.func243 (by kernel_rfl) (by kernel_rfl) (by kernel_rfl)
  (ll 0 (by kernel_rfl) trivial) (λx=>by kernel_rfl)
def qsv:List Sh:=mkSh 18 [(0,.val zn .b),(5,.val zn .b),(6,.val (.int .i64) .b),(7,.val (.int .i64) .b)]
def qwa:List Out:=[⟨.exit 0,⟨[],[0],[]⟩,mkSh 18 [(0,.val zn .b)]⟩,⟨.ret,⟨[],[2],[]⟩,mkSh 18 [(2,.val .bool .b)]⟩]
def zfp (t0:PV zn)(t5:PV zn)(t6:PV (.int .i64))(t7:PV (.int .i64)):Option ((PV zn×PV zn×PV (.int .i64)×PV (.int .i64)×Unit)⊕((PV zn×Unit)⊕(PV .bool×Unit))):=
 bif (decide (t7<t6)) then
  bif inB t7 t5.length then
   (zp4 (t5.getD t7.toNat (dflt qh))).bind λr4=>
     bif (!r4.1.1) then
      some (.inr (.inr (false,())))
     else
      some (.inl (t0,t5,t6,(IntKind.wrap .i64 (t7+1)),()))
  else
   none
 else
  some (.inr (.inl (t0,())))
def z6c:PV zn×PV zn×PV (.int .i64)×PV (.int .i64)×Unit->Option ((PV zn×Unit)⊕(PV .bool×Unit)):=fix λd=>zfp d.1 d.2.1 d.2.2.1 d.2.2.2.1
def z4v:Lp:=⟨⟨[],[0,5,6,7],[]⟩,qsv,qwa,λd=>zfp d.1 d.2.1 d.2.2.1 d.2.2.2.1⟩
def qz9:Plan:=⟨[],[(2,z4v)],0,0⟩
def zqw (t0:PV zn):Option (PVs [.bool]×PVs []):=
 (z6c (t0,t0,(t0.length:Int),0,())).bind λx9=>
   match x9 with
   | .inl l7=>
     some (((decide ((l7.1.length:Int)<=60)),()),())
   | .inr l8=>
     some ((l8.1,()),())
def z8o:Ct:=⟨[(.bor,zn)],[(.bool,.b)],λx=>zqw x.1⟩
def q0a:Cx:=⟨tab,arrs,[(243,z6t)],[],gl,[]⟩
theorem q0b:FnOk gl Tryz.prog 200 z8o:=
 fo q0a qz9 0 (oz ⟨qv9,trivial⟩ trivial) Tryz.func200 (by kernel_rfl) (by kernel_rfl) (by kernel_rfl)
  (ll 1 (by kernel_rfl) (lc z4v (by kernel_rfl) (λd=>by kernel_rfl) trivial)) (λx=>by kernel_rfl)
def qwb:List Out:=[⟨.normal,⟨[],[3,6,7,8],[]⟩,mkSh 38 [(3,.val .str .b),(6,.val zn .b),(7,.val (.int .i64) .b),(8,.val (.int .i64) .b)]⟩]
def qsw:List Sh:=mkSh 38 [(3,.val .str .b),(6,.val zn .b),(7,.val (.int .i64) .b),(8,.val (.int .i64) .b)]
def qwc:List Out:=[⟨.exit 0,⟨[],[3],[]⟩,mkSh 38 [(3,.val .str .b)]⟩]
def zia (t3:PV .str)(t6:PV zn)(t7:PV (.int .i64))(t8:PV (.int .i64)):Option ((PV .str×PV zn×PV (.int .i64)×PV (.int .i64)×Unit)⊕((PV .str×Unit))):=
 bif (decide (t8<t7)) then
  ((
    bif inB t8 t6.length then
     (zju (((t6.getD t8.toNat (dflt qh)).2).1) ((((t6.getD t8.toNat (dflt qh)).2).2).1)).bind λr3=>
       (zp5).bind λr4=>
         bif inB ((t6.getD t8.toNat (dflt qh)).1) r4.1.1.length then
          bif decide (r3.1.1.length+(r4.1.1.getD (((t6.getD t8.toNat (dflt qh)).1).toNat) []).length<=1099511627776) then
           bif decide ((r3.1.1++(r4.1.1.getD (((t6.getD t8.toNat (dflt qh)).1).toNat) [])).length+[10].length<=1099511627776) then
            bif decide (t3.length+((r3.1.1++(r4.1.1.getD (((t6.getD t8.toNat (dflt qh)).1).toNat) []))++[10]).length<=1099511627776) then
             bif (decide (((((((t6.getD t8.toNat (dflt qh)).2).2).2).1).length:Int)>0)) then
              (zin (((((t6.getD t8.toNat (dflt qh)).2).2).2).1)).bind λr5=>
                bif decide (r5.1.1.length+[46,10].length<=1099511627776) then
                 bif decide ((t3++((r3.1.1++(r4.1.1.getD (((t6.getD t8.toNat (dflt qh)).1).toNat) []))++[10])).length+(r5.1.1++[46,10]).length<=1099511627776) then
                  some (((t3++((r3.1.1++(r4.1.1.getD (((t6.getD t8.toNat (dflt qh)).1).toNat) []))++[10]))++(r5.1.1++[46,10])),t6,t7,t8,())
                 else
                  none
                else
                 none
             else
              some ((t3++((r3.1.1++(r4.1.1.getD (((t6.getD t8.toNat (dflt qh)).1).toNat) []))++[10])),t6,t7,t8,())
            else
             none
           else
            none
          else
           none
         else
          none
    else
     none:Option ((PV .str×PV zn×PV (.int .i64)×PV (.int .i64)×Unit)))).bind λj6=>
    some (.inl (j6.1,j6.2.1,j6.2.2.1,(IntKind.wrap .i64 (j6.2.2.2.1+1)),()))
 else
  some (.inr (t3,()))
def zuz:PV .str×PV zn×PV (.int .i64)×PV (.int .i64)×Unit->Option ((PV .str×Unit)):=fix λd=>zia d.1 d.2.1 d.2.2.1 d.2.2.2.1
def z4w:Lp:=⟨⟨[],[3,6,7,8],[]⟩,qsw,qwc,λd=>zia d.1 d.2.1 d.2.2.1 d.2.2.2.1⟩
def q0c:Plan:=⟨[(8,qwb)],[(3,z4w)],0,0⟩
def zqz (t0:PV zn):Option (PVs [.str]×PVs []):=
 (zuz ([],t0,(t0.length:Int),0,())).bind λl8=>
   some ((l8.1,()),())
def z8p:Ct:=⟨[(.bor,zn)],[(.str,.b)],λx=>zqz x.1⟩
def q0d:Cx:=⟨tab,arrs,[(127,zvi),(138,zuf),(242,z6h)],[],gl,[]⟩
theorem q0e:FnOk gl Tryz.prog 201 z8p:=
 fo q0d q0c 0 (oz ⟨z8c,z2z,z6j,trivial⟩ trivial) Tryz.func201 (by kernel_rfl) (by kernel_rfl) (by kernel_rfl)
  (ll 1 (by kernel_rfl) (lc z4w (by kernel_rfl) (λd=>by kernel_rfl) trivial)) (λx=>by kernel_rfl)
def qkp:List Out:=[⟨.normal,⟨[],[0,5,6,7,36,37,38,39,64,65,66,67],[]⟩,mkSh 70 [(0,.val .str .b),(5,.val zf .b),(6,.val zn (.row (.pr .b (.pr .b (.pr .b (.pr (.row .b) .b)))))),(7,.var qh (.pr .b (.pr .b (.pr .b (.pr (.row .b) .b)))))]⟩,⟨.ret,⟨[],[2,3,4],[]⟩,mkSh 70 [(2,.val zn (.row (.pr .b (.pr .b (.pr .b (.pr (.row .b) .b)))))),(3,.val (.int .i64) .b),(4,.val .bool .b)]⟩]
def qkq:List Out:=[⟨.normal,⟨[],[6,68],[]⟩,mkSh 70 [(6,.val zn (.row (.pr .b (.pr .b (.pr .b (.pr (.row .b) .b)))))),(68,.val .bool .b)]⟩]
def qjq:List Sh:=mkSh 70 [(0,.val .str .b),(5,.val zf .b),(6,.val zn (.row (.pr .b (.pr .b (.pr .b (.pr (.row .b) .b)))))),(7,.var qh (.pr .b (.pr .b (.pr .b (.pr (.row .b) .b)))))]
def qkr:List Out:=[⟨.exit 2,⟨[],[0,5,6,7,64,65,66,67],[]⟩,mkSh 70 [(0,.val .str .b),(5,.val zf .b),(6,.val zn (.row (.pr .b (.pr .b (.pr .b (.pr (.row .b) .b)))))),(7,.var qh (.pr .b (.pr .b (.pr .b (.pr (.row .b) .b)))))]⟩]
def zdn (t0:PV .str)(t5:PV zf)(t6:PV zn)(t7:PV qh):Option ((PV .str×PV zf×PV zn×PV qh×Unit)⊕((PV .str×PV zf×PV zn×PV qh×Unit))):=
 bif (decide ((t5.length:Int)>0)) then
  bif inB 0 t5.length then
   bif (!((t5.getD ((0:Int).toNat) [])==[46,10])) then
    bif inB 0 t5.length then
     bif qw (t7.2.2.2.1.length+[(t5.getD ((0:Int).toNat) [])].length) then
      bif cutB 1 (t5.length:Int) t5.length then
       some (.inl (t0,(cutL 1 (t5.length:Int) t5),t6,(t7.1,(t7.2.1,(t7.2.2.1,((t7.2.2.2.1++[(t5.getD ((0:Int).toNat) [])]),t7.2.2.2.2)))),()))
      else
       none
     else
      none
    else
     none
   else
    some (.inr (t0,t5,t6,t7,()))
  else
   none
 else
  some (.inr (t0,t5,t6,t7,()))
def z0i:PV .str×PV zf×PV zn×PV qh×Unit->Option ((PV .str×PV zf×PV zn×PV qh×Unit)):=fix λd=>zdn d.1 d.2.1 d.2.2.1 d.2.2.2.1
def z0e:Lp:=⟨⟨[],[0,5,6,7,64,65,66,67],[]⟩,qjq,qkr,λd=>zdn d.1 d.2.1 d.2.2.1 d.2.2.2.1⟩
def qks:List Sh:=mkSh 70 [(0,.val .str .b),(5,.val zf .b),(6,.val zn (.row (.pr .b (.pr .b (.pr .b (.pr (.row .b) .b))))))]
def qlu:List Out:=[⟨.exit 0,⟨[],[0,6,64,65,66,67],[]⟩,mkSh 70 [(0,.val .str .b),(6,.val zn (.row (.pr .b (.pr .b (.pr .b (.pr (.row .b) .b))))))]⟩,⟨.ret,⟨[],[2,3,4],[]⟩,mkSh 70 [(2,.val zn (.row (.pr .b (.pr .b (.pr .b (.pr (.row .b) .b)))))),(3,.val (.int .i64) .b),(4,.val .bool .b)]⟩]
def ze8 (t0:PV .str)(t5:PV zf)(t6:PV zn):Option ((PV .str×PV zf×PV zn×Unit)⊕((PV .str×PV zn×Unit)⊕(PV zn×PV (.int .i64)×PV .bool×Unit))):=
 bif (decide ((t5.length:Int)>0)) then
  bif inB 0 t5.length then
   (zgm (t5.getD ((0:Int).toNat) [])).bind λr5=>
     (zqx r5.1.1).bind λr6=>
       bif (!r6.1.2.1) then
        some (.inr (.inr ([],1,false,())))
       else
        bif cutB 1 (t5.length:Int) t5.length then
         ((
           bif (decide (r6.1.1.1<=3)) then
            (z0i (t0,(cutL 1 (t5.length:Int) t5),t6,r6.1.1,())).bind λl8=>
              bif ((l8.2.1.length:Int)==0) then
               some (.inr ([],1,false,()))
              else
               bif cutB 1 (l8.2.1.length:Int) l8.2.1.length then
                some (.inl (l8.1,(cutL 1 (l8.2.1.length:Int) l8.2.1),l8.2.2.1,l8.2.2.2.1,()))
               else
                none
           else
            some (.inl (t0,(cutL 1 (t5.length:Int) t5),t6,r6.1.1,())):Option ((PV .str×PV zf×PV zn×PV qh×Unit)⊕(PV zn×PV (.int .i64)×PV .bool×Unit)))).bind λx23=>
           match x23 with
           | .inl j9=>
             bif qw (j9.2.2.1.length+[j9.2.2.2.1].length) then
              some (.inl (j9.1,j9.2.1,(j9.2.2.1++[j9.2.2.2.1]),()))
             else
              none
           | .inr j10=>
             some (.inr (.inr (j10.1,j10.2.1,j10.2.2.1,())))
        else
         none
  else
   none
 else
  some (.inr (.inl (t0,t6,())))
def zdp:PV .str×PV zf×PV zn×Unit->Option ((PV .str×PV zn×Unit)⊕(PV zn×PV (.int .i64)×PV .bool×Unit)):=fix λd=>ze8 d.1 d.2.1 d.2.2.1
def z0r:Lp:=⟨⟨[],[0,5,6,36,37,38,39,64,65,66,67],[]⟩,qks,qlu,λd=>ze8 d.1 d.2.1 d.2.2.1⟩
def qnt:Plan:=⟨[(17,qkp),(19,qkq)],[(11,z0e),(5,z0r)],0,0⟩
def zma (t0:PV .str):Option (PVs [zn,(.int .i64),.bool]×PVs []):=
 bif (decide ((t0.length:Int)>3000)) then
  some (([],1,false,()),())
 else
  (zir t0).bind λr2=>
    (zdp (t0,r2.1.1,[],())).bind λx24=>
      match x24 with
      | .inl l13=>
        ((
          (zqw l13.2.1).bind λr19=>
            bif (!r19.1.1) then
             some (l13.2.1,true,())
            else
             (zqz l13.2.1).bind λr20=>
               some (l13.2.1,(!(r20.1.1==l13.1)),()):Option ((PV zn×PV .bool×Unit)))).bind λj21=>
          bif j21.2.1 then
           some (([],1,false,()),())
          else
           some ((j21.1,0,true,()),())
      | .inr l22=>
        some ((l22.1,l22.2.1,l22.2.2.1,()),())
def z2h:Ct:=⟨[(.bor,.str)],[(zn,(.row (.pr .b (.pr .b (.pr .b (.pr (.row .b) .b)))))),((.int .i64),.b),(.bool,.b)],λx=>zma x.1⟩
def qnu:Cx:=⟨tab,arrs,[(79,zm5),(81,zps),(199,z7p),(200,z8o),(201,z8p)],[],gl,[]⟩
theorem qnv:FnOk gl Tryz.prog 130 z2h:=
 fo qnu qnt 0 (oz ⟨zq7,zu5,qx3,q0b,q0e,trivial⟩ trivial) Tryz.func130 (by kernel_rfl) (by kernel_rfl) (by kernel_rfl)
  (ll 2 (by kernel_rfl) (lc z0r (by kernel_rfl) (λd=>by kernel_rfl) (lc z0e (by kernel_rfl) (λd=>by kernel_rfl) trivial))) (λx=>by kernel_rfl)
def qwd:List Out:=[⟨.normal,⟨[],[5],[]⟩,mkSh 54 [(5,.val .bool .b)]⟩]
def q2u:Plan:=⟨[(14,qwd)],[],0,0⟩
def zru (t0:PV (.int .i64))(t1:PV .str):Option (PVs [.bool]×PVs []):=
 ((
   bif (t0==1) then
    (zmc t1).bind λr10=>
      some (r10.1.2.2.1,())
   else
    bif (t0==2) then
     (zl6 t1).bind λr12=>
       some (r12.1.2.2.1,())
    else
     bif (t0==3) then
      (zl4 t1).bind λr14=>
        some (r14.1.2.2.1,())
     else
      (zma t1).bind λr16=>
        some (r16.1.2.2.1,()):Option ((PV .bool×Unit)))).bind λj17=>
   some ((j17.1,()),())
def qai:Ct:=⟨[(.bor,(.int .i64)),(.bor,.str)],[(.bool,.b)],λx=>zru x.1 x.2.1⟩
def q2v:Cx:=⟨tab,arrs,[(33,z2g),(50,z1c),(62,z1b),(130,z2h)],[],gl,[]⟩
theorem q2w:FnOk gl Tryz.prog 65 qai:=
 fo q2v q2u 0 (oz ⟨qnr,qlt,qlq,qnv,trivial⟩ trivial) Tryz.func65 (by kernel_rfl) (by kernel_rfl) (by kernel_rfl)
  (ll 0 (by kernel_rfl) trivial) (λx=>by kernel_rfl)
def qwe:Plan:=⟨[],[],0,0⟩
def zp8 (t0:PV (.int .i64))(t1:PV .str):Option (PVs [.bool,.bool]×PVs []):=
 (zq4 t0 0).bind λr4=>
   bif (!r4.1.1) then
    some ((false,false,()),())
   else
    (zru t0 t1).bind λr5=>
      some ((r5.1.1,true,()),())
def z6f:Ct:=⟨[(.bor,(.int .i64)),(.bor,.str)],[(.bool,.b),(.bool,.b)],λx=>zp8 x.1 x.2.1⟩
def qwf:Cx:=⟨tab,arrs,[(64,z7q),(65,qai)],[],gl,[]⟩
theorem quh:FnOk gl Tryz.prog 18 z6f:=
 fo qwf qwe 0 (oz ⟨qx6,q2w,trivial⟩ trivial) Tryz.func18 (by kernel_rfl) (by kernel_rfl) (by kernel_rfl)
  (ll 0 (by kernel_rfl) trivial) (λx=>by kernel_rfl)
def jar:Plan:=⟨[],[],0,0⟩
def zb4 (t0:PV (.int .i64))(t1:PV (.int .i64))(t2:PV (.int .i64)):Option (PVs [.bool]×PVs []):=
 bif (decide (t0>=t1)) then
  some (((decide (t0<=t2)),()),())
 else
  some ((false,()),())
def zi2:Ct:=⟨[(.bor,(.int .i64)),(.bor,(.int .i64)),(.bor,(.int .i64))],[(.bool,.b)],λx=>zb4 x.1 x.2.1 x.2.2.1⟩
def jas:Cx:=⟨tab,arrs,[],[],gl,[]⟩
theorem zle:FnOk gl Tryz.prog 131 zi2:=
 fo jas jar 0 (oz trivial trivial) Tryz.func131 (by kernel_rfl) (by kernel_rfl) (by kernel_rfl)
  (ll 0 (by kernel_rfl) trivial) (λx=>by kernel_rfl)
def q2x:Plan:=⟨[],[],0,0⟩
def zrv (t0:PV (.int .i64)):Option (PVs [.bool]×PVs []):=
 (zb4 t0 1 4).bind λr1=>
   some ((r1.1.1,()),())
def qad:Ct:=⟨[(.bor,(.int .i64))],[(.bool,.b)],λx=>zrv x.1⟩
def q2y:Cx:=⟨tab,arrs,[(131,zi2)],[],gl,[]⟩
theorem q2f:FnOk gl Tryz.prog 66 qad:=
 fo q2y q2x 0 (oz ⟨zle,trivial⟩ trivial) Tryz.func66 (by kernel_rfl) (by kernel_rfl) (by kernel_rfl)
  (ll 0 (by kernel_rfl) trivial) (λx=>by kernel_rfl)
def qh5:Plan:=⟨[],[],0,0⟩
def zoz (t0:PV .str)(t1:PV .str):Option (PVs [zf]×PVs []):=
 (zt1 t0 t1 (t1.length:Int) (-1)).bind λr1=>
   some ((r1.1.1,()),())
def zzk:Ct:=⟨[(.bor,.str),(.bor,.str)],[(zf,.b)],λx=>zoz x.1 x.2.1⟩
def qh6:Cx:=⟨tab,arrs,[(215,zz4)],[],gl,[]⟩
theorem qh7:FnOk gl Tryz.prog 145 zzk:=
 fo qh6 qh5 0 (oz ⟨qi6,trivial⟩ trivial) Tryz.func145 (by kernel_rfl) (by kernel_rfl) (by kernel_rfl)
  (ll 0 (by kernel_rfl) trivial) (λx=>by kernel_rfl)
def qsx:List Out:=[⟨.normal,⟨[],[3],[]⟩,mkSh 21 [(3,.val zf .b)]⟩]
def qwg:Plan:=⟨[(7,qsx)],[],0,0⟩
def zif (t0:PV .str):Option (PVs [zf]×PVs []):=
 bif (t0==[]) then
  some (([],()),())
 else
  (zoz t0 [10]).bind λr2=>
    ((
      bif inB (IntKind.wrap .i64 ((r2.1.1.length:Int) -1)) r2.1.1.length then
       bif ((r2.1.1.getD ((IntKind.wrap .i64 ((r2.1.1.length:Int) -1)).toNat) [])==[]) then
        bif cutB 0 (IntKind.wrap .i64 ((r2.1.1.length:Int) -1)) r2.1.1.length then
         some ((cutL 0 (IntKind.wrap .i64 ((r2.1.1.length:Int) -1)) r2.1.1),())
        else
         none
       else
        some (r2.1.1,())
      else
       none:Option ((PV zf×Unit)))).bind λj3=>
      some ((j3.1,()),())
def zmn:Ct:=⟨[(.bor,.str)],[(zf,.b)],λx=>zif x.1⟩
def qwh:Cx:=⟨tab,arrs,[(145,zzk)],[],gl,[]⟩
theorem zpo:FnOk gl Tryz.prog 75 zmn:=
 fo qwh qwg 0 (oz ⟨qh7,trivial⟩ trivial) Tryz.func75 (by kernel_rfl) (by kernel_rfl) (by kernel_rfl)
  (ll 0 (by kernel_rfl) trivial) (λx=>by kernel_rfl)
def qgx:Plan:=⟨[],[],0,0⟩
def zhi (t0:PV .str)(t1:PV .str):Option (PVs [.bool]×PVs []):=
 bif (decide ((t0.length:Int)>=(t1.length:Int))) then
  bif cutB (IntKind.wrap .i64 ((t0.length:Int) -(t1.length:Int))) (t0.length:Int) t0.length then
   some ((((cutL (IntKind.wrap .i64 ((t0.length:Int) -(t1.length:Int))) (t0.length:Int) t0)==t1),()),())
  else
   none
 else
  some ((false,()),())
def zow:Ct:=⟨[(.bor,.str),(.bor,.str)],[(.bool,.b)],λx=>zhi x.1 x.2.1⟩
def qgy:Cx:=⟨tab,arrs,[],[],gl,[]⟩
theorem ztp:FnOk gl Tryz.prog 265 zow:=
 fo qgy qgx 0 (oz trivial trivial) Tryz.func265 (by kernel_rfl) (by kernel_rfl) (by kernel_rfl)
  (ll 0 (by kernel_rfl) trivial) (λx=>by kernel_rfl)
def qgq:Plan:=⟨[],[],0,0⟩
def ztn (t0:PV .str)(t1:PV .str):Option (PVs [.str]×PVs []):=
 (zhi t0 t1).bind λr4=>
   bif r4.1.1 then
    bif cutB 0 (IntKind.wrap .i64 ((t0.length:Int) -(t1.length:Int))) t0.length then
     some (((cutL 0 (IntKind.wrap .i64 ((t0.length:Int) -(t1.length:Int))) t0),()),())
    else
     none
   else
    some ((t0,()),())
def zy6:Ct:=⟨[(.bor,.str),(.bor,.str)],[(.str,.b)],λx=>ztn x.1 x.2.1⟩
def qgr:Cx:=⟨tab,arrs,[(265,zow)],[],gl,[]⟩
theorem qgs:FnOk gl Tryz.prog 249 zy6:=
 fo qgr qgq 0 (oz ⟨ztp,trivial⟩ trivial) Tryz.func249 (by kernel_rfl) (by kernel_rfl) (by kernel_rfl)
  (ll 0 (by kernel_rfl) trivial) (λx=>by kernel_rfl)
def qh8:Plan:=⟨[],[],0,0⟩
def ztv (t0:PV .str)(t1:PV .str):Option (PVs [.str]×PVs []):=
 (ztn t0 t1).bind λr1=>
   some ((r1.1.1,()),())
def zzl:Ct:=⟨[(.bor,.str),(.bor,.str)],[(.str,.b)],λx=>ztv x.1 x.2.1⟩
def qh9:Cx:=⟨tab,arrs,[(249,zy6)],[],gl,[]⟩
theorem qia:FnOk gl Tryz.prog 206 zzl:=
 fo qh9 qh8 0 (oz ⟨qgs,trivial⟩ trivial) Tryz.func206 (by kernel_rfl) (by kernel_rfl) (by kernel_rfl)
  (ll 0 (by kernel_rfl) trivial) (λx=>by kernel_rfl)
def q3a:Plan:=⟨[],[],0,0⟩
def zfy (t0:PV .str):Option (PVs [.str]×PVs []):=
 (ztv t0 [10]).bind λr1=>
   some ((r1.1.1,()),())
def zki:Ct:=⟨[(.bor,.str)],[(.str,.b)],λx=>zfy x.1⟩
def q3b:Cx:=⟨tab,arrs,[(206,zzl)],[],gl,[]⟩
theorem zm4:FnOk gl Tryz.prog 141 zki:=
 fo q3b q3a 0 (oz ⟨qia,trivial⟩ trivial) Tryz.func141 (by kernel_rfl) (by kernel_rfl) (by kernel_rfl)
  (ll 0 (by kernel_rfl) trivial) (λx=>by kernel_rfl)
def qg9:Plan:=⟨[],[],0,0⟩
def zoy (t0:PV .str)(t1:PV .str):Option (PVs [.str,.str,.bool]×PVs []):=
 (zgb t0 t1).bind λr4=>
   bif (decide (r4.1.1>=0)) then
    bif cutB 0 r4.1.1 t0.length then
     bif cutB (IntKind.wrap .i64 (r4.1.1+(t1.length:Int))) (t0.length:Int) t0.length then
      some (((cutL 0 r4.1.1 t0),(cutL (IntKind.wrap .i64 (r4.1.1+(t1.length:Int))) (t0.length:Int) t0),true,()),())
     else
      none
    else
     none
   else
    some ((t0,[],false,()),())
def zzc:Ct:=⟨[(.bor,.str),(.bor,.str)],[(.str,.b),(.str,.b),(.bool,.b)],λx=>zoy x.1 x.2.1⟩
def qha:Cx:=⟨tab,arrs,[(277,zzb)],[],gl,[]⟩
theorem qhb:FnOk gl Tryz.prog 253 zzc:=
 fo qha qg9 0 (oz ⟨qg8,trivial⟩ trivial) Tryz.func253 (by kernel_rfl) (by kernel_rfl) (by kernel_rfl)
  (ll 0 (by kernel_rfl) trivial) (λx=>by kernel_rfl)
def qpr:Plan:=⟨[],[],0,0⟩
def zdq (t0:PV .str)(t1:PV .str):Option (PVs [.str,.str,.bool]×PVs []):=
 (zoy t0 t1).bind λr1=>
   some ((r1.1.1,r1.1.2.1,r1.1.2.2.1,()),())
def zug:Ct:=⟨[(.bor,.str),(.bor,.str)],[(.str,.b),(.str,.b),(.bool,.b)],λx=>zdq x.1 x.2.1⟩
def qps:Cx:=⟨tab,arrs,[(253,zzc)],[],gl,[]⟩
theorem z3i:FnOk gl Tryz.prog 211 zug:=
 fo qps qpr 0 (oz ⟨qhb,trivial⟩ trivial) Tryz.func211 (by kernel_rfl) (by kernel_rfl) (by kernel_rfl)
  (ll 0 (by kernel_rfl) trivial) (λx=>by kernel_rfl)
def qwi:Plan:=⟨[],[],0,0⟩
def zec (t0:PV .str):Option (PVs [(.int .i64),(.int .i64),.bool,.bool]×PVs []):=
 (zdq t0 [44]).bind λr2=>
   (zl8 r2.1.1).bind λr4=>
     bif (!r2.1.2.2.1) then
      some ((r4.1.1,r4.1.1,false,r4.1.2.1,()),())
     else
      (zl8 r2.1.2.1).bind λr6=>
        bif r4.1.2.1 then
         some ((r4.1.1,r6.1.1,true,r6.1.2.1,()),())
        else
         some ((r4.1.1,r6.1.1,true,false,()),())
def zmo:Ct:=⟨[(.bor,.str)],[((.int .i64),.b),((.int .i64),.b),(.bool,.b),(.bool,.b)],λx=>zec x.1⟩
def qwj:Cx:=⟨tab,arrs,[(211,zug),(212,z2e)],[],gl,[]⟩
theorem zpp:FnOk gl Tryz.prog 143 zmo:=
 fo qwj qwi 0 (oz ⟨z3i,qnk,trivial⟩ trivial) Tryz.func143 (by kernel_rfl) (by kernel_rfl) (by kernel_rfl)
  (ll 0 (by kernel_rfl) trivial) (λx=>by kernel_rfl)
def qgz:Plan:=⟨[],[],0,0⟩
def zga (t0:PV .str)(t1:PV .str):Option (PVs [.bool]×PVs []):=
 bif (decide ((t0.length:Int)>=(t1.length:Int))) then
  bif cutB 0 (t1.length:Int) t0.length then
   some ((((cutL 0 (t1.length:Int) t0)==t1),()),())
  else
   none
 else
  some ((false,()),())
def zox:Ct:=⟨[(.bor,.str),(.bor,.str)],[(.bool,.b)],λx=>zga x.1 x.2.1⟩
def qg0:Cx:=⟨tab,arrs,[],[],gl,[]⟩
theorem ztq:FnOk gl Tryz.prog 255 zox:=
 fo qg0 qgz 0 (oz trivial trivial) Tryz.func255 (by kernel_rfl) (by kernel_rfl) (by kernel_rfl)
  (ll 0 (by kernel_rfl) trivial) (λx=>by kernel_rfl)
def qih:Plan:=⟨[],[],0,0⟩
def zo2 (t0:PV .str)(t1:PV .str):Option (PVs [.bool]×PVs []):=
 (zga t0 t1).bind λr1=>
   some ((r1.1.1,()),())
def zzq:Ct:=⟨[(.bor,.str),(.bor,.str)],[(.bool,.b)],λx=>zo2 x.1 x.2.1⟩
def qii:Cx:=⟨tab,arrs,[(255,zox)],[],gl,[]⟩
theorem qij:FnOk gl Tryz.prog 213 zzq:=
 fo qii qih 0 (oz ⟨ztq,trivial⟩ trivial) Tryz.func213 (by kernel_rfl) (by kernel_rfl) (by kernel_rfl)
  (ll 0 (by kernel_rfl) trivial) (λx=>by kernel_rfl)
def qgt:Plan:=⟨[],[],0,0⟩
def zto (t0:PV .str)(t1:PV .str):Option (PVs [.str]×PVs []):=
 (zga t0 t1).bind λr4=>
   bif r4.1.1 then
    bif cutB (t1.length:Int) (t0.length:Int) t0.length then
     some (((cutL (t1.length:Int) (t0.length:Int) t0),()),())
    else
     none
   else
    some ((t0,()),())
def zy7:Ct:=⟨[(.bor,.str),(.bor,.str)],[(.str,.b)],λx=>zto x.1 x.2.1⟩
def qgu:Cx:=⟨tab,arrs,[(255,zox)],[],gl,[]⟩
theorem qgv:FnOk gl Tryz.prog 256 zy7:=
 fo qgu qgt 0 (oz ⟨ztq,trivial⟩ trivial) Tryz.func256 (by kernel_rfl) (by kernel_rfl) (by kernel_rfl)
  (ll 0 (by kernel_rfl) trivial) (λx=>by kernel_rfl)
end
end R
