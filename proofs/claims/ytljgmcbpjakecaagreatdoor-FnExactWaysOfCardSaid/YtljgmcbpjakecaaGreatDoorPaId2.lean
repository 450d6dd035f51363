/- The functions, part 2. -/
import Derived.Test.YtljgmcbpjakecaaGreatDoorPaId1
set_option linter.unusedVariables false
open Go Go.Dn Go.Proofs
namespace R
set_option maxRecDepth 20000
open Go.Shelf
noncomputable section
def qwc:List Out:=[⟨.normal,⟨[],[0,1,2,8,9,10,11,17,18,19,20,51],[]⟩,mkSh 75 [(0,.val zf .b),(1,.val (.int .i64) .b),(2,.val (.int .i64) .b),(8,.val zi (.row (.pr .b (.pr .b .b)))),(9,.val (.int .i64) .b),(10,.val (.int .i64) .b),(11,.val .str .b),(17,.val (.int .i64) .b),(18,.val (.int .i64) .b),(19,.val (.int .i64) .b),(20,.val .bool .b),(51,.val .bool .b)]⟩]
def qss:List Out:=[⟨.normal,⟨[],[0,1,2,8,9,10,11,17,18,19,20,42,43,44,45,46,49,50],[]⟩,mkSh 75 [(0,.val zf .b),(1,.val (.int .i64) .b),(2,.val (.int .i64) .b),(8,.val zi (.row (.pr .b (.pr .b .b)))),(9,.val (.int .i64) .b),(10,.val (.int .i64) .b),(11,.val .str .b),(17,.val (.int .i64) .b),(18,.val (.int .i64) .b),(19,.val (.int .i64) .b),(20,.val .bool .b)]⟩]
def qst:List Out:=[⟨.normal,⟨[],[0,1,2,8,9,10,11,17,18,19,20,42,43,44,45,46,49,50],[]⟩,mkSh 75 [(0,.val zf .b),(1,.val (.int .i64) .b),(2,.val (.int .i64) .b),(8,.val zi (.row (.pr .b (.pr .b .b)))),(9,.val (.int .i64) .b),(10,.val (.int .i64) .b),(11,.val .str .b),(17,.val (.int .i64) .b),(18,.val (.int .i64) .b),(19,.val (.int .i64) .b),(20,.val .bool .b)]⟩]
def qsu:List Out:=[⟨.normal,⟨[],[0,1,2,8,9,10,11,17,18,19,20,42,43,44,45,46,49,50],[]⟩,mkSh 75 [(0,.val zf .b),(1,.val (.int .i64) .b),(2,.val (.int .i64) .b),(8,.val zi (.row (.pr .b (.pr .b .b)))),(9,.val (.int .i64) .b),(10,.val (.int .i64) .b),(11,.val .str .b),(17,.val (.int .i64) .b),(18,.val (.int .i64) .b),(19,.val (.int .i64) .b),(20,.val .bool .b)]⟩]
def qsv:List Sh:=mkSh 75 [(0,.val zf .b),(1,.val (.int .i64) .b),(2,.val (.int .i64) .b),(8,.val zi (.row (.pr .b (.pr .b .b)))),(9,.val (.int .i64) .b)]
def qwd:List Out:=[⟨.exit 0,⟨[],[8,9],[]⟩,mkSh 75 [(8,.val zi (.row (.pr .b (.pr .b .b)))),(9,.val (.int .i64) .b)]⟩]
def zj4 (t0:PV zf)(t1:PV (.int .i64))(t2:PV (.int .i64))(t8:PV zi)(t9:PV (.int .i64)):Option ((PV zf×PV (.int .i64)×PV (.int .i64)×PV zi×PV (.int .i64)×Unit)⊕((PV zi×PV (.int .i64)×Unit))):=
 bif (decide (t9<(t0.length:Int))) then
  bif (decide ((IntKind.wrap .i64 (t1+t2))>0)) then
   bif inB t9 t0.length then
    bif inB 0 (t0.getD t9.toNat []).length then
     (zq1 (((t0.getD t9.toNat []).getD (0:Int).toNat 0).toNat:Int)).bind λr9=>
       bif (r9.1.1==0) then
        some (.inr (t8,t9,()))
       else
        bif inB t9 t0.length then
         bif cutB 1 ((t0.getD t9.toNat []).length:Int) (t0.getD t9.toNat []).length then
          ((
            ((
              bif (decide ((IntKind.wrap .i64 (t9+1))<(t0.length:Int))) then
               bif inB (IntKind.wrap .i64 (t9+1)) t0.length then
                bif ((t0.getD ((IntKind.wrap .i64 (t9+1)).toNat) [])==[92,32,110,111,110,101,10]) then
                 some (t0,t1,t2,t8,(IntKind.wrap .i64 (t9+1)),r9.1.1,(cutL 1 ((t0.getD t9.toNat []).length:Int) (t0.getD t9.toNat [])),t1,t2,(IntKind.wrap .i64 (t1+t2)),(decide ((IntKind.wrap .i64 (t1+t2))>0)),(!((cutL 1 ((t0.getD t9.toNat []).length:Int) (t0.getD t9.toNat []))==[])),())
                else
                 some (t0,t1,t2,t8,(IntKind.wrap .i64 (t9+1)),r9.1.1,(cutL 1 ((t0.getD t9.toNat []).length:Int) (t0.getD t9.toNat [])),t1,t2,(IntKind.wrap .i64 (t1+t2)),(decide ((IntKind.wrap .i64 (t1+t2))>0)),false,())
               else
                none
              else
               some (t0,t1,t2,t8,(IntKind.wrap .i64 (t9+1)),r9.1.1,(cutL 1 ((t0.getD t9.toNat []).length:Int) (t0.getD t9.toNat [])),t1,t2,(IntKind.wrap .i64 (t1+t2)),(decide ((IntKind.wrap .i64 (t1+t2))>0)),false,()):Option ((PV zf×PV (.int .i64)×PV (.int .i64)×PV zi×PV (.int .i64)×PV (.int .i64)×PV .str×PV (.int .i64)×PV (.int .i64)×PV (.int .i64)×PV .bool×PV .bool×Unit)))).bind λj10=>
              bif j10.2.2.2.2.2.2.2.2.2.2.2.1 then
               bif cutB 0 (IntKind.wrap .i64 ((j10.2.2.2.2.2.2.1.length:Int) -1)) j10.2.2.2.2.2.2.1.length then
                some (j10.1,j10.2.1,j10.2.2.1,j10.2.2.2.1,(IntKind.wrap .i64 (j10.2.2.2.2.1+1)),j10.2.2.2.2.2.1,(cutL 0 (IntKind.wrap .i64 ((j10.2.2.2.2.2.2.1.length:Int) -1)) j10.2.2.2.2.2.2.1),j10.2.2.2.2.2.2.2.1,j10.2.2.2.2.2.2.2.2.1,j10.2.2.2.2.2.2.2.2.2.1,j10.2.2.2.2.2.2.2.2.2.2.1,())
               else
                none
              else
               some (j10.1,j10.2.1,j10.2.2.1,j10.2.2.2.1,j10.2.2.2.2.1,j10.2.2.2.2.2.1,j10.2.2.2.2.2.2.1,j10.2.2.2.2.2.2.2.1,j10.2.2.2.2.2.2.2.2.1,j10.2.2.2.2.2.2.2.2.2.1,j10.2.2.2.2.2.2.2.2.2.2.1,()):Option ((PV zf×PV (.int .i64)×PV (.int .i64)×PV zi×PV (.int .i64)×PV (.int .i64)×PV .str×PV (.int .i64)×PV (.int .i64)×PV (.int .i64)×PV .bool×Unit)))).bind λj11=>
            ((
              bif (!(j11.2.2.2.2.2.1==3)) then
               some (j11.1,(IntKind.wrap .i64 (j11.2.1 -1)),j11.2.2.1,j11.2.2.2.1,j11.2.2.2.2.1,j11.2.2.2.2.2.1,j11.2.2.2.2.2.2.1,j11.2.2.2.2.2.2.2.1,j11.2.2.2.2.2.2.2.2.1,j11.2.2.2.2.2.2.2.2.2.1,j11.2.2.2.2.2.2.2.2.2.2.1,())
              else
               some (j11.1,j11.2.1,j11.2.2.1,j11.2.2.2.1,j11.2.2.2.2.1,j11.2.2.2.2.2.1,j11.2.2.2.2.2.2.1,j11.2.2.2.2.2.2.2.1,j11.2.2.2.2.2.2.2.2.1,j11.2.2.2.2.2.2.2.2.2.1,j11.2.2.2.2.2.2.2.2.2.2.1,()):Option ((PV zf×PV (.int .i64)×PV (.int .i64)×PV zi×PV (.int .i64)×PV (.int .i64)×PV .str×PV (.int .i64)×PV (.int .i64)×PV (.int .i64)×PV .bool×Unit)))).bind λj12=>
              ((
                bif (!(j12.2.2.2.2.2.1==2)) then
                 some (j12.1,j12.2.1,(IntKind.wrap .i64 (j12.2.2.1 -1)),j12.2.2.2.1,j12.2.2.2.2.1,j12.2.2.2.2.2.1,j12.2.2.2.2.2.2.1,j12.2.2.2.2.2.2.2.1,j12.2.2.2.2.2.2.2.2.1,j12.2.2.2.2.2.2.2.2.2.1,j12.2.2.2.2.2.2.2.2.2.2.1,())
                else
                 some (j12.1,j12.2.1,j12.2.2.1,j12.2.2.2.1,j12.2.2.2.2.1,j12.2.2.2.2.2.1,j12.2.2.2.2.2.2.1,j12.2.2.2.2.2.2.2.1,j12.2.2.2.2.2.2.2.2.1,j12.2.2.2.2.2.2.2.2.2.1,j12.2.2.2.2.2.2.2.2.2.2.1,()):Option ((PV zf×PV (.int .i64)×PV (.int .i64)×PV zi×PV (.int .i64)×PV (.int .i64)×PV .str×PV (.int .i64)×PV (.int .i64)×PV (.int .i64)×PV .bool×Unit)))).bind λj13=>
                bif qw (j13.2.2.2.1.length+[(j13.2.2.2.2.2.1,(j13.2.2.2.2.2.2.1,()))].length) then
                 some (.inl (j13.1,j13.2.1,j13.2.2.1,(j13.2.2.2.1++[(j13.2.2.2.2.2.1,(j13.2.2.2.2.2.2.1,()))]),j13.2.2.2.2.1,()))
                else
                 none
         else
          none
        else
         none
    else
     none
   else
    none
  else
   some (.inr (t8,t9,()))
 else
  some (.inr (t8,t9,()))
def zj5:PV zf×PV (.int .i64)×PV (.int .i64)×PV zi×PV (.int .i64)×Unit->Option ((PV zi×PV (.int .i64)×Unit)):=fix λd=>zj4 d.1 d.2.1 d.2.2.1 d.2.2.2.1 d.2.2.2.2.1
def z4x:Lp:=⟨⟨[],[0,1,2,8,9,42,43,44,45,46,49,50],[]⟩,qsv,qwd,λd=>zj4 d.1 d.2.1 d.2.2.1 d.2.2.2.1 d.2.2.2.2.1⟩
def qz9:Plan:=⟨[(9,qwc),(11,qss),(13,qst),(15,qsu)],[(3,z4x)],0,0⟩
def zq2 (t0:PV zf)(t1:PV (.int .i64))(t2:PV (.int .i64)):Option (PVs [zi,(.int .i64)]×PVs []):=
 (zj5 (t0,t1,t2,[],0,())).bind λl15=>
   some ((l15.1,l15.2.1,()),())
def z8t:Ct:=⟨[(.bor,zf),(.bor,(.int .i64)),(.bor,(.int .i64))],[(zi,(.row (.pr .b (.pr .b .b)))),((.int .i64),.b)],λx=>zq2 x.1 x.2.1 x.2.2.1⟩
def q0a:Cx:=⟨tab,arrs,[(195,z8s)],[],gl,[]⟩
theorem q0b:FnOk gl Tryz.prog 125 z8t:=
 fo q0a qz9 0 (oz ⟨qz8,trivial⟩ trivial) Tryz.func125 (by kernel_rfl) (by kernel_rfl) (by kernel_rfl)
  (ll 1 (by kernel_rfl) (lc z4x (by kernel_rfl) (λd=>by kernel_rfl) trivial)) (λx=>by kernel_rfl)
def qsw:Plan:=⟨[],[],0,0⟩
def zmn (t0:PV (.int .i64))(t1:PV (.int .i64)):Option (PVs [(.int .i64)]×PVs []):=
 bif (decide (t1>0)) then
  some (((IntKind.wrap .i64 (t0+1)),()),())
 else
  some ((t0,()),())
def zu1:Ct:=⟨[(.bor,(.int .i64)),(.bor,(.int .i64))],[((.int .i64),.b)],λx=>zmn x.1 x.2.1⟩
def qsx:Cx:=⟨tab,arrs,[],[],gl,[]⟩
theorem z4y:FnOk gl Tryz.prog 197 zu1:=
 fo qsx qsw 0 (oz trivial trivial) Tryz.func197 (by kernel_rfl) (by kernel_rfl) (by kernel_rfl)
  (ll 0 (by kernel_rfl) trivial) (λx=>by kernel_rfl)
def qsy:List Out:=[⟨.normal,⟨[],[5],[]⟩,mkSh 18 [(5,.val .str .b)]⟩]
def qwe:Plan:=⟨[(4,qsy)],[],0,0⟩
def zfw (t0:PV (.int .i64))(t1:PV (.int .i64)):Option (PVs [.str]×PVs []):=
 (zmn t0 t1).bind λr3=>
   (zek r3.1.1).bind λr4=>
     ((
       bif (!(t1==1)) then
        (zek t1).bind λr6=>
          bif decide ([44].length+r6.1.1.length<=1099511627776) then
           bif decide (r4.1.1.length+([44]++r6.1.1).length<=1099511627776) then
            some ((r4.1.1++([44]++r6.1.1)),())
           else
            none
          else
           none
       else
        some (r4.1.1,()):Option ((PV .str×Unit)))).bind λj7=>
       some ((j7.1,()),())
def zvk:Ct:=⟨[(.bor,(.int .i64)),(.bor,(.int .i64))],[(.str,.b)],λx=>zfw x.1 x.2.1⟩
def qwf:Cx:=⟨tab,arrs,[(196,zrh),(197,zu1)],[],gl,[]⟩
theorem z7d:FnOk gl Tryz.prog 126 zvk:=
 fo qwf qwe 0 (oz ⟨zwb,z4y,trivial⟩ trivial) Tryz.func126 (by kernel_rfl) (by kernel_rfl) (by kernel_rfl)
  (ll 0 (by kernel_rfl) trivial) (λx=>by kernel_rfl)
def qsz:List Sh:=mkSh 17 [(3,.val .str .b),(6,.val zf .b),(7,.val (.int .i64) .b),(8,.val (.int .i64) .b)]
def qwg:List Out:=[⟨.exit 0,⟨[],[3],[]⟩,mkSh 17 [(3,.val .str .b)]⟩]
def zc8 (t3:PV .str)(t6:PV zf)(t7:PV (.int .i64))(t8:PV (.int .i64)):Option ((PV .str×PV zf×PV (.int .i64)×PV (.int .i64)×Unit)⊕((PV .str×Unit))):=
 bif (decide (t8<t7)) then
  bif inB t8 t6.length then
   bif decide (t3.length+(t6.getD t8.toNat []).length<=1099511627776) then
    some (.inl ((t3++(t6.getD t8.toNat [])),t6,t7,(IntKind.wrap .i64 (t8+1)),()))
   else
    none
  else
   none
 else
  some (.inr (t3,()))
def zu9:PV .str×PV zf×PV (.int .i64)×PV (.int .i64)×Unit->Option ((PV .str×Unit)):=fix λd=>zc8 d.1 d.2.1 d.2.2.1 d.2.2.2.1
def z4z:Lp:=⟨⟨[],[3,6,7,8],[]⟩,qsz,qwg,λd=>zc8 d.1 d.2.1 d.2.2.1 d.2.2.2.1⟩
def q0c:Plan:=⟨[],[(3,z4z)],0,0⟩
def ziv (t0:PV zf):Option (PVs [.str]×PVs []):=
 (zu9 ([],t0,(t0.length:Int),0,())).bind λl2=>
   some ((l2.1,()),())
def zvu:Ct:=⟨[(.bor,zf)],[(.str,.b)],λx=>ziv x.1⟩
def q0d:Cx:=⟨tab,arrs,[],[],gl,[]⟩
theorem z8u:FnOk gl Tryz.prog 127 zvu:=
 fo q0d q0c 0 (oz trivial trivial) Tryz.func127 (by kernel_rfl) (by kernel_rfl) (by kernel_rfl)
  (ll 1 (by kernel_rfl) (lc z4z (by kernel_rfl) (λd=>by kernel_rfl) trivial)) (λx=>by kernel_rfl)
def q0e:List Out:=[⟨.normal,⟨[],[3,7,8,9],[]⟩,mkSh 23 [(3,.val zf (.row .b)),(7,.val zi .b),(8,.val (.int .i64) .b),(9,.val (.int .i64) .b)]⟩]
def qwh:List Sh:=mkSh 23 [(3,.val zf (.row .b)),(7,.val zi .b),(8,.val (.int .i64) .b),(9,.val (.int .i64) .b)]
def q0f:List Out:=[⟨.exit 0,⟨[],[3],[]⟩,mkSh 23 [(3,.val zf (.row .b))]⟩]
def zil (t3:PV zf)(t7:PV zi)(t8:PV (.int .i64))(t9:PV (.int .i64)):Option ((PV zf×PV zi×PV (.int .i64)×PV (.int .i64)×Unit)⊕((PV zf×Unit))):=
 bif (decide (t9<t8)) then
  ((
    bif inB t9 t7.length then
     bif (!(((t7.getD t9.toNat (dflt zo)).1)==3)) then
      bif qw (t3.length+[((t7.getD t9.toNat (dflt zo)).2).1].length) then
       some ((t3++[((t7.getD t9.toNat (dflt zo)).2).1]),t7,t8,t9,())
      else
       none
     else
      some (t3,t7,t8,t9,())
    else
     none:Option ((PV zf×PV zi×PV (.int .i64)×PV (.int .i64)×Unit)))).bind λj1=>
    some (.inl (j1.1,j1.2.1,j1.2.2.1,(IntKind.wrap .i64 (j1.2.2.2.1+1)),()))
 else
  some (.inr (t3,()))
def z7x:PV zf×PV zi×PV (.int .i64)×PV (.int .i64)×Unit->Option ((PV zf×Unit)):=fix λd=>zil d.1 d.2.1 d.2.2.1 d.2.2.2.1
def z7e:Lp:=⟨⟨[],[3,7,8,9],[]⟩,qwh,q0f,λd=>zil d.1 d.2.1 d.2.2.1 d.2.2.2.1⟩
def q4i:Plan:=⟨[(7,q0e)],[(3,z7e)],0,0⟩
def zfz (t0:PV zh):Option (PVs [zf]×PVs []):=
 (z7x ([],t0.2.2.1,(t0.2.2.1.length:Int),0,())).bind λl3=>
   some ((l3.1,()),())
def zkn:Ct:=⟨[(.bor,zh)],[(zf,(.row .b))],λx=>zfz x.1⟩
def q4j:Cx:=⟨tab,arrs,[],[],gl,[]⟩
theorem zng:FnOk gl Tryz.prog 163 zkn:=
 fo q4j q4i 0 (oz trivial trivial) Tryz.func163 (by kernel_rfl) (by kernel_rfl) (by kernel_rfl)
  (ll 1 (by kernel_rfl) (lc z7e (by kernel_rfl) (λd=>by kernel_rfl) trivial)) (λx=>by kernel_rfl)
def q0g:List Out:=[⟨.normal,⟨[],[3,7,8,9],[]⟩,mkSh 23 [(3,.val zf (.row .b)),(7,.val zi .b),(8,.val (.int .i64) .b),(9,.val (.int .i64) .b)]⟩]
def qwi:List Sh:=mkSh 23 [(3,.val zf (.row .b)),(7,.val zi .b),(8,.val (.int .i64) .b),(9,.val (.int .i64) .b)]
def q0h:List Out:=[⟨.exit 0,⟨[],[3],[]⟩,mkSh 23 [(3,.val zf (.row .b))]⟩]
def zim (t3:PV zf)(t7:PV zi)(t8:PV (.int .i64))(t9:PV (.int .i64)):Option ((PV zf×PV zi×PV (.int .i64)×PV (.int .i64)×Unit)⊕((PV zf×Unit))):=
 bif (decide (t9<t8)) then
  ((
    bif inB t9 t7.length then
     bif (!(((t7.getD t9.toNat (dflt zo)).1)==2)) then
      bif qw (t3.length+[((t7.getD t9.toNat (dflt zo)).2).1].length) then
       some ((t3++[((t7.getD t9.toNat (dflt zo)).2).1]),t7,t8,t9,())
      else
       none
     else
      some (t3,t7,t8,t9,())
    else
     none:Option ((PV zf×PV zi×PV (.int .i64)×PV (.int .i64)×Unit)))).bind λj1=>
    some (.inl (j1.1,j1.2.1,j1.2.2.1,(IntKind.wrap .i64 (j1.2.2.2.1+1)),()))
 else
  some (.inr (t3,()))
def z7y:PV zf×PV zi×PV (.int .i64)×PV (.int .i64)×Unit->Option ((PV zf×Unit)):=fix λd=>zim d.1 d.2.1 d.2.2.1 d.2.2.2.1
def z7f:Lp:=⟨⟨[],[3,7,8,9],[]⟩,qwi,q0h,λd=>zim d.1 d.2.1 d.2.2.1 d.2.2.2.1⟩
def q4k:Plan:=⟨[(7,q0g)],[(3,z7f)],0,0⟩
def zej (t0:PV zh):Option (PVs [zf]×PVs []):=
 (z7y ([],t0.2.2.1,(t0.2.2.1.length:Int),0,())).bind λl3=>
   some ((l3.1,()),())
def zko:Ct:=⟨[(.bor,zh)],[(zf,(.row .b))],λx=>zej x.1⟩
def q4l:Cx:=⟨tab,arrs,[],[],gl,[]⟩
theorem znh:FnOk gl Tryz.prog 164 zko:=
 fo q4l q4k 0 (oz trivial trivial) Tryz.func164 (by kernel_rfl) (by kernel_rfl) (by kernel_rfl)
  (ll 1 (by kernel_rfl) (lc z7f (by kernel_rfl) (λd=>by kernel_rfl) trivial)) (λx=>by kernel_rfl)
def qs0:List Out:=[⟨.normal,⟨[],[1,3,5,7,8,9,42,45,46,47,52,53,54,57,58,59,62,63,64,65,66,67,68,71,72,73,74,75,76,77,80,81,82,83,86,87,88,91,92,93],[]⟩,mkSh 95 [(1,.var zh .b),(3,.val .bool .b),(5,.var zo .b),(7,.val zi .b),(8,.val (.int .i64) .b),(9,.val (.int .i64) .b),(42,.val .bool .b)]⟩]
def qs1:List Out:=[⟨.normal,⟨[],[1,3,5,7,8,9,19,20,21,22,25,26,27,28,29,30,31,32,33,34,35,36,37,38,39,40,41,52,53,54,57,58,59,62,63,64,65,66,67,68,71,72,73,74,75,76,77,80,81,82,83,86,87,88,91,92,93],[]⟩,mkSh 95 [(1,.var zh .b),(3,.val .bool .b),(5,.var zo .b),(7,.val zi .b),(8,.val (.int .i64) .b),(9,.val (.int .i64) .b)]⟩,⟨.ret,⟨[],[2],[]⟩,mkSh 95 [(2,.val .bool .b)]⟩]
def qqf:List Sh:=mkSh 95 [(1,.var zh .b),(3,.val .bool .b),(7,.val zi .b),(8,.val (.int .i64) .b),(9,.val (.int .i64) .b)]
def qs2:List Out:=[⟨.exit 0,⟨[],[1,3,52,53,54,57,58,59,62,63,64,65,66,67,68,71,72,73,74,75,76,77,80,81,82,83,86,87,88,91,92,93],[]⟩,mkSh 95 [(1,.var zh .b),(3,.val .bool .b)]⟩,⟨.ret,⟨[],[2],[]⟩,mkSh 95 [(2,.val .bool .b)]⟩]
def zfj (t1:PV zh)(t3:PV .bool)(t7:PV zi)(t8:PV (.int .i64))(t9:PV (.int .i64)):Option ((PV zh×PV .bool×PV zi×PV (.int .i64)×PV (.int .i64)×Unit)⊕((PV zh×PV .bool×Unit)⊕(PV .bool×Unit))):=
 bif (decide (t9<t8)) then
  ((
    bif inB t9 t7.length then
     ((
       (zb3 ((t7.getD t9.toNat (dflt zo)).1) 1 3).bind λr4=>
         bif (!r4.1.1) then
          some (t1,t3,(t7.getD t9.toNat (dflt zo)),t7,t8,t9,true,())
         else
          (zgq (((t7.getD t9.toNat (dflt zo)).2).1)).bind λr5=>
            bif (!r5.1.1) then
             some (t1,t3,(t7.getD t9.toNat (dflt zo)),t7,t8,t9,true,())
            else
             bif (decide (t9>0)) then
              bif (((t7.getD t9.toNat (dflt zo)).1)==2) then
               bif inB (IntKind.wrap .i64 (t9 -1)) t1.2.2.1.length then
                some (t1,t3,(t7.getD t9.toNat (dflt zo)),t7,t8,t9,(((t1.2.2.1.getD ((IntKind.wrap .i64 (t9 -1)).toNat) (dflt zo)).1)==3),())
               else
                none
              else
               some (t1,t3,(t7.getD t9.toNat (dflt zo)),t7,t8,t9,false,())
             else
              some (t1,t3,(t7.getD t9.toNat (dflt zo)),t7,t8,t9,false,()):Option ((PV zh×PV .bool×PV zo×PV zi×PV (.int .i64)×PV (.int .i64)×PV .bool×Unit)))).bind λj6=>
       bif j6.2.2.2.2.2.2.1 then
        some (.inr (false,()))
       else
        bif j6.2.1 then
         some (.inl (j6.1,true,j6.2.2.1,j6.2.2.2.1,j6.2.2.2.2.1,j6.2.2.2.2.2.1,()))
        else
         some (.inl (j6.1,(!(j6.2.2.1.1==1)),j6.2.2.1,j6.2.2.2.1,j6.2.2.2.2.1,j6.2.2.2.2.2.1,()))
    else
     none:Option ((PV zh×PV .bool×PV zo×PV zi×PV (.int .i64)×PV (.int .i64)×Unit)⊕(PV .bool×Unit)))).bind λx21=>
    match x21 with
    | .inl j7=>
      some (.inl (j7.1,j7.2.1,j7.2.2.2.1,j7.2.2.2.2.1,(IntKind.wrap .i64 (j7.2.2.2.2.2.1+1)),()))
    | .inr j8=>
      some (.inr (.inr (j8.1,())))
 else
  some (.inr (.inl (t1,t3,())))
def z4i:PV zh×PV .bool×PV zi×PV (.int .i64)×PV (.int .i64)×Unit->Option ((PV zh×PV .bool×Unit)⊕(PV .bool×Unit)):=fix λd=>zfj d.1 d.2.1 d.2.2.1 d.2.2.2.1 d.2.2.2.2.1
def z3p:Lp:=⟨⟨[],[1,3,7,8,9,19,20,21,22,25,26,27,28,29,30,31,32,33,34,35,36,37,38,39,40,41,45,46,47,52,53,54,57,58,59,62,63,64,65,66,67,68,71,72,73,74,75,76,77,80,81,82,83,86,87,88,91,92,93],[]⟩,qqf,qs2,λd=>zfj d.1 d.2.1 d.2.2.1 d.2.2.2.1 d.2.2.2.2.1⟩
def qwj:Plan:=⟨[(6,qs0),(8,qs1)],[(3,z3p)],0,0⟩
def zqa (t0:PV zh):Option (PVs [.bool]×PVs []):=
 (z4i (t0,false,t0.2.2.1,(t0.2.2.1.length:Int),0,())).bind λx22=>
   match x22 with
   | .inl l11=>
     bif l11.2.1 then
      (zb3 l11.1.1 0 999).bind λr12=>
        bif r12.1.1 then
         (zb3 l11.1.2.1 0 999).bind λr13=>
           bif r13.1.1 then
            (zfz l11.1).bind λr14=>
              bif (decide ((IntKind.wrap .i64 (l11.1.1+(r14.1.1.length:Int)))<=1000)) then
               (zej l11.1).bind λr15=>
                 bif (decide ((IntKind.wrap .i64 (l11.1.2.1+(r15.1.1.length:Int)))<=1000)) then
                  bif (decide ((l11.1.2.2.1.length:Int)<=80)) then
                   (zfz l11.1).bind λr16=>
                     (zj8 r16.1.1).bind λr17=>
                       bif r17.1.1 then
                        (zej l11.1).bind λr18=>
                          (zj8 r18.1.1).bind λr19=>
                            some ((r19.1.1,()),())
                       else
                        some ((false,()),())
                  else
                   some ((false,()),())
                 else
                  some ((false,()),())
              else
               some ((false,()),())
           else
            some ((false,()),())
        else
         some ((false,()),())
     else
      some ((false,()),())
   | .inr l20=>
     some ((l20.1,()),())
def z7g:Ct:=⟨[(.bor,zh)],[(.bool,.b)],λx=>zqa x.1⟩
def qwk:Cx:=⟨tab,arrs,[(114,zgx),(163,zkn),(164,zko),(183,zqj),(184,zvi)],[],gl,[]⟩
theorem qwl:FnOk gl Tryz.prog 108 z7g:=
 fo qwk qwj 0 (oz ⟨zi1,zng,znh,zvs,z7b,trivial⟩ trivial) Tryz.func108 (by kernel_rfl) (by kernel_rfl) (by kernel_rfl)
  (ll 1 (by kernel_rfl) (lc z3p (by kernel_rfl) (λd=>by kernel_rfl) trivial)) (λx=>by kernel_rfl)
def qwm:List Out:=[⟨.normal,⟨[],[0,4,5,6,7,54],[]⟩,mkSh 59 [(0,.val zl .b),(4,.var zh .b),(5,.val zl .b),(6,.val (.int .i64) .b),(7,.val (.int .i64) .b),(54,.val .bool .b)]⟩]
def qs3:List Sh:=mkSh 59 [(0,.val zl .b),(5,.val zl .b),(6,.val (.int .i64) .b),(7,.val (.int .i64) .b)]
def qwn:List Out:=[⟨.exit 0,⟨[],[0],[]⟩,mkSh 59 [(0,.val zl .b)]⟩,⟨.ret,⟨[],[2],[]⟩,mkSh 59 [(2,.val .bool .b)]⟩]
def zfn (t0:PV zl)(t5:PV zl)(t6:PV (.int .i64))(t7:PV (.int .i64)):Option ((PV zl×PV zl×PV (.int .i64)×PV (.int .i64)×Unit)⊕((PV zl×Unit)⊕(PV .bool×Unit))):=
 bif (decide (t7<t6)) then
  bif inB t7 t5.length then
   (zqa (t5.getD t7.toNat (dflt zh))).bind λr11=>
     bif (!r11.1.1) then
      some (.inr (.inr (false,())))
     else
      ((
        bif (decide (t7>0)) then
         bif inB (IntKind.wrap .i64 (t7 -1)) t0.length then
          bif inB (IntKind.wrap .i64 (t7 -1)) t0.length then
           (zfz (t0.getD ((IntKind.wrap .i64 (t7 -1)).toNat) (dflt zh))).bind λr12=>
             bif (decide (((t5.getD t7.toNat (dflt zh)).1)<(IntKind.wrap .i64 (((t0.getD ((IntKind.wrap .i64 (t7 -1)).toNat) (dflt zh)).1)+(r12.1.1.length:Int))))) then
              some (t0,(t5.getD t7.toNat (dflt zh)),t5,t6,t7,true,())
             else
              bif inB (IntKind.wrap .i64 (t7 -1)) t0.length then
               bif inB (IntKind.wrap .i64 (t7 -1)) t0.length then
                (zej (t0.getD ((IntKind.wrap .i64 (t7 -1)).toNat) (dflt zh))).bind λr13=>
                  some (t0,(t5.getD t7.toNat (dflt zh)),t5,t6,t7,(decide ((((t5.getD t7.toNat (dflt zh)).2).1)<(IntKind.wrap .i64 ((((t0.getD ((IntKind.wrap .i64 (t7 -1)).toNat) (dflt zh)).2).1)+(r13.1.1.length:Int))))),())
               else
                none
              else
               none
          else
           none
         else
          none
        else
         some (t0,(t5.getD t7.toNat (dflt zh)),t5,t6,t7,false,()):Option ((PV zl×PV zh×PV zl×PV (.int .i64)×PV (.int .i64)×PV .bool×Unit)))).bind λj14=>
        bif j14.2.2.2.2.2.1 then
         some (.inr (.inr (false,())))
        else
         some (.inl (j14.1,j14.2.2.1,j14.2.2.2.1,(IntKind.wrap .i64 (j14.2.2.2.2.1+1)),()))
  else
   none
 else
  some (.inr (.inl (t0,())))
def z6l:PV zl×PV zl×PV (.int .i64)×PV (.int .i64)×Unit->Option ((PV zl×Unit)⊕(PV .bool×Unit)):=fix λd=>zfn d.1 d.2.1 d.2.2.1 d.2.2.2.1
def z5a:Lp:=⟨⟨[],[0,5,6,7,18,19,20,21,22,23,24,25,26,27,28,29,30,31,32,33,34,35,36,37,38,39,40,41,42,43,44,45,46,47,48,49,50,51,52,53],[]⟩,qs3,qwn,λd=>zfn d.1 d.2.1 d.2.2.1 d.2.2.2.1⟩
def q0i:Plan:=⟨[(7,qwm)],[(2,z5a)],0,0⟩
def zm6 (t0:PV zl):Option (PVs [.bool]×PVs []):=
 (z6l (t0,t0,(t0.length:Int),0,())).bind λx19=>
   match x19 with
   | .inl l17=>
     some (((decide ((l17.1.length:Int)<=20)),()),())
   | .inr l18=>
     some ((l18.1,()),())
def zvv:Ct:=⟨[(.bor,zl)],[(.bool,.b)],λx=>zm6 x.1⟩
def q0j:Cx:=⟨tab,arrs,[(108,z7g),(163,zkn),(164,zko)],[],gl,[]⟩
theorem z8v:FnOk gl Tryz.prog 95 zvv:=
 fo q0j q0i 0 (oz ⟨qwl,zng,znh,trivial⟩ trivial) Tryz.func95 (by kernel_rfl) (by kernel_rfl) (by kernel_rfl)
  (ll 1 (by kernel_rfl) (lc z5a (by kernel_rfl) (λd=>by kernel_rfl) trivial)) (λx=>by kernel_rfl)
def q0k:Plan:=⟨[],[],0,0⟩
def zqx (t0:PV (.int .i64)):Option (PVs [.str]×PVs []):=
 bif cutB t0 (IntKind.wrap .i64 (t0+1)) [63,32,45,43].length then
  some (((cutL t0 (IntKind.wrap .i64 (t0+1)) [63,32,45,43]),()),())
 else
  none
def z8w:Ct:=⟨[(.bor,(.int .i64))],[(.str,.b)],λx=>zqx x.1⟩
def q0l:Cx:=⟨tab,arrs,[],[],gl,[]⟩
theorem q0m:FnOk gl Tryz.prog 198 z8w:=
 fo q0l q0k 0 (oz trivial trivial) Tryz.func198 (by kernel_rfl) (by kernel_rfl) (by kernel_rfl)
  (ll 0 (by kernel_rfl) trivial) (λx=>by kernel_rfl)
def qs4:List Sh:=mkSh 50 [(3,.val .str .b),(8,.val zl .b),(9,.val (.int .i64) .b),(10,.val (.int .i64) .b),(33,.val zi .b),(34,.val (.int .i64) .b),(35,.val (.int .i64) .b)]
def qwo:List Out:=[⟨.exit 2,⟨[],[3,8,9,10],[]⟩,mkSh 50 [(3,.val .str .b),(8,.val zl .b),(9,.val (.int .i64) .b),(10,.val (.int .i64) .b)]⟩]
def zic (t3:PV .str)(t8:PV zl)(t9:PV (.int .i64))(t10:PV (.int .i64))(t33:PV zi)(t34:PV (.int .i64))(t35:PV (.int .i64)):Option ((PV .str×PV zl×PV (.int .i64)×PV (.int .i64)×PV zi×PV (.int .i64)×PV (.int .i64)×Unit)⊕((PV .str×PV zl×PV (.int .i64)×PV (.int .i64)×Unit))):=
 bif (decide (t35<t34)) then
  bif inB t35 t33.length then
   (zqx ((t33.getD t35.toNat (dflt zo)).1)).bind λr11=>
     (zdw r11.1.1 (((t33.getD t35.toNat (dflt zo)).2).1)).bind λr12=>
       bif decide (t3.length+r12.1.1.length<=1099511627776) then
        some (.inl ((t3++r12.1.1),t8,t9,t10,t33,t34,(IntKind.wrap .i64 (t35+1)),()))
       else
        none
  else
   none
 else
  some (.inr (t3,t8,t9,t10,()))
def z6r:PV .str×PV zl×PV (.int .i64)×PV (.int .i64)×PV zi×PV (.int .i64)×PV (.int .i64)×Unit->Option ((PV .str×PV zl×PV (.int .i64)×PV (.int .i64)×Unit)):=fix λd=>zic d.1 d.2.1 d.2.2.1 d.2.2.2.1 d.2.2.2.2.1 d.2.2.2.2.2.1 d.2.2.2.2.2.2.1
def z5b:Lp:=⟨⟨[],[3,8,9,10,33,34,35],[]⟩,qs4,qwo,λd=>zic d.1 d.2.1 d.2.2.1 d.2.2.2.1 d.2.2.2.2.1 d.2.2.2.2.2.1 d.2.2.2.2.2.2.1⟩
def qs5:List Sh:=mkSh 50 [(3,.val .str .b),(8,.val zl .b),(9,.val (.int .i64) .b),(10,.val (.int .i64) .b)]
def qwp:List Out:=[⟨.exit 0,⟨[],[3],[]⟩,mkSh 50 [(3,.val .str .b)]⟩]
def zid (t3:PV .str)(t8:PV zl)(t9:PV (.int .i64))(t10:PV (.int .i64)):Option ((PV .str×PV zl×PV (.int .i64)×PV (.int .i64)×Unit)⊕((PV .str×Unit))):=
 bif (decide (t10<t9)) then
  bif inB t10 t8.length then
   (zfz (t8.getD t10.toNat (dflt zh))).bind λr14=>
     (zfw ((t8.getD t10.toNat (dflt zh)).1) (r14.1.1.length:Int)).bind λr15=>
       bif decide ([64,64,32,45].length+r15.1.1.length<=1099511627776) then
        bif decide (([64,64,32,45]++r15.1.1).length+[32,43].length<=1099511627776) then
         (zej (t8.getD t10.toNat (dflt zh))).bind λr16=>
           (zfw (((t8.getD t10.toNat (dflt zh)).2).1) (r16.1.1.length:Int)).bind λr17=>
             bif decide ((([64,64,32,45]++r15.1.1)++[32,43]).length+r17.1.1.length<=1099511627776) then
              bif decide (((([64,64,32,45]++r15.1.1)++[32,43])++r17.1.1).length+[32,64,64,10].length<=1099511627776) then
               bif decide (t3.length+(((([64,64,32,45]++r15.1.1)++[32,43])++r17.1.1)++[32,64,64,10]).length<=1099511627776) then
                (z6r ((t3++(((([64,64,32,45]++r15.1.1)++[32,43])++r17.1.1)++[32,64,64,10])),t8,t9,t10,(((t8.getD t10.toNat (dflt zh)).2).2).1,(((((t8.getD t10.toNat (dflt zh)).2).2).1).length:Int),0,())).bind λl18=>
                  some (.inl (l18.1,l18.2.1,l18.2.2.1,(IntKind.wrap .i64 (l18.2.2.2.1+1)),()))
               else
                none
              else
               none
             else
              none
        else
         none
       else
        none
  else
   none
 else
  some (.inr (t3,()))
def z6s:PV .str×PV zl×PV (.int .i64)×PV (.int .i64)×Unit->Option ((PV .str×Unit)):=fix λd=>zid d.1 d.2.1 d.2.2.1 d.2.2.2.1
def z5c:Lp:=⟨⟨[],[3,8,9,10],[]⟩,qs5,qwp,λd=>zid d.1 d.2.1 d.2.2.1 d.2.2.2.1⟩
def q0o:Plan:=⟨[],[(7,z5b),(3,z5c)],0,0⟩
def zqy (t0:PV zl):Option (PVs [.str]×PVs []):=
 (z6s ([],t0,(t0.length:Int),0,())).bind λl20=>
   some ((l20.1,()),())
def z8x:Ct:=⟨[(.bor,zl)],[(.str,.b)],λx=>zqy x.1⟩
def q0p:Cx:=⟨tab,arrs,[(126,zvk),(139,zp3),(163,zkn),(164,zko),(198,z8w)],[],gl,[]⟩
theorem q0q:FnOk gl Tryz.prog 129 z8x:=
 fo q0p q0o 0 (oz ⟨z7d,zvj,zng,znh,q0m,trivial⟩ trivial) Tryz.func129 (by kernel_rfl) (by kernel_rfl) (by kernel_rfl)
  (ll 2 (by kernel_rfl) (lc z5c (by kernel_rfl) (λd=>by kernel_rfl) (lc z5b (by kernel_rfl) (λd=>by kernel_rfl) trivial))) (λx=>by kernel_rfl)
def qkc:List Out:=[⟨.normal,⟨[],[6,87],[]⟩,mkSh 89 [(6,.val zl (.row (.pr .b (.pr .b (.pr (.row (.pr .b (.pr .b .b))) .b))))),(87,.val .bool .b)]⟩]
def qkd:List Sh:=mkSh 89 [(5,.val zf .b),(6,.val zl (.row (.pr .b (.pr .b (.pr (.row (.pr .b (.pr .b .b))) .b))))),(7,.val .str .b)]
def qld:List Out:=[⟨.exit 0,⟨[],[6,7,83,84,85,86],[]⟩,mkSh 89 [(6,.val zl (.row (.pr .b (.pr .b (.pr (.row (.pr .b (.pr .b .b))) .b))))),(7,.val .str .b)]⟩,⟨.ret,⟨[],[2,3,4],[]⟩,mkSh 89 [(2,.val zl (.row (.pr .b (.pr .b (.pr (.row (.pr .b (.pr .b .b))) .b))))),(3,.val (.int .i64) .b),(4,.val .bool .b)]⟩]
def zhm (t5:PV zf)(t6:PV zl)(t7:PV .str):Option ((PV zf×PV zl×PV .str×Unit)⊕((PV zl×PV .str×Unit)⊕(PV zl×PV (.int .i64)×PV .bool×Unit))):=
 bif (decide ((t5.length:Int)>0)) then
  bif inB 0 t5.length then
   (zgo (t5.getD ((0:Int).toNat) [])).bind λr5=>
     (zdy r5.1.1).bind λr6=>
       bif (!r6.1.2.2.2.1) then
        some (.inr (.inr ([],1,false,())))
       else
        bif cutB 1 (t5.length:Int) t5.length then
         (zq2 (cutL 1 (t5.length:Int) t5) r6.1.2.1 r6.1.2.2.1).bind λr8=>
           (zfw r6.1.1.1 r6.1.2.1).bind λr11=>
             bif decide ([64,64,32,45].length+r11.1.1.length<=1099511627776) then
              bif decide (([64,64,32,45]++r11.1.1).length+[32,43].length<=1099511627776) then
               (zfw r6.1.1.2.1 r6.1.2.2.1).bind λr12=>
                 bif decide ((([64,64,32,45]++r11.1.1)++[32,43]).length+r12.1.1.length<=1099511627776) then
                  bif decide (((([64,64,32,45]++r11.1.1)++[32,43])++r12.1.1).length+[32,64,64,10].length<=1099511627776) then
                   bif cutB 1 (IntKind.wrap .i64 (1+r8.1.2.1)) t5.length then
                    (ziv (cutL 1 (IntKind.wrap .i64 (1+r8.1.2.1)) t5)).bind λr14=>
                      bif decide ((((([64,64,32,45]++r11.1.1)++[32,43])++r12.1.1)++[32,64,64,10]).length+r14.1.1.length<=1099511627776) then
                       bif decide (t7.length+((((([64,64,32,45]++r11.1.1)++[32,43])++r12.1.1)++[32,64,64,10])++r14.1.1).length<=1099511627776) then
                        bif inB 0 t5.length then
                         (zei (t5.getD ((0:Int).toNat) [])).bind λr18=>
                           bif (!r18.1.1) then
                            some (.inr (.inr ([],1,false,())))
                           else
                            bif cutB (IntKind.wrap .i64 (1+r8.1.2.1)) (t5.length:Int) t5.length then
                             bif qw (t6.length+[(r6.1.1.1,(r6.1.1.2.1,(r8.1.1,r6.1.1.2.2.2)))].length) then
                              some (.inl ((cutL (IntKind.wrap .i64 (1+r8.1.2.1)) (t5.length:Int) t5),(t6++[(r6.1.1.1,(r6.1.1.2.1,(r8.1.1,r6.1.1.2.2.2)))]),(t7++((((([64,64,32,45]++r11.1.1)++[32,43])++r12.1.1)++[32,64,64,10])++r14.1.1)),()))
                             else
                              none
                            else
                             none
                        else
                         none
                       else
                        none
                      else
                       none
                   else
                    none
                  else
                   none
                 else
                  none
              else
               none
             else
              none
        else
         none
  else
   none
 else
  some (.inr (.inl (t6,t7,())))
def zjq:PV zf×PV zl×PV .str×Unit->Option ((PV zl×PV .str×Unit)⊕(PV zl×PV (.int .i64)×PV .bool×Unit)):=fix λd=>zhm d.1 d.2.1 d.2.2.1
def z0k:Lp:=⟨⟨[],[5,6,7,83,84,85,86],[]⟩,qkd,qld,λd=>zhm d.1 d.2.1 d.2.2.1⟩
def qme:Plan:=⟨[(19,qkc)],[(6,z0k)],0,0⟩
def zmc (t0:PV .str):Option (PVs [zl,(.int .i64),.bool]×PVs []):=
 bif (decide ((t0.length:Int)>3000)) then
  some (([],1,false,()),())
 else
  (ziy t0).bind λr2=>
    (zjq (r2.1.1,[],[],())).bind λx31=>
      match x31 with
      | .inl l21=>
        ((
          (zm6 l21.1).bind λr27=>
            bif (!r27.1.1) then
             some (l21.1,true,())
            else
             (zqy l21.1).bind λr28=>
               some (l21.1,(!(r28.1.1==l21.2.1)),()):Option ((PV zl×PV .bool×Unit)))).bind λj29=>
          bif j29.2.1 then
           some (([],1,false,()),())
          else
           some ((j29.1,0,true,()),())
      | .inr l30=>
        some ((l30.1,l30.2.1,l30.2.2.1,()),())
def z1j:Ct:=⟨[(.bor,.str)],[(zl,(.row (.pr .b (.pr .b (.pr (.row (.pr .b (.pr .b .b))) .b))))),((.int .i64),.b),(.bool,.b)],λx=>zmc x.1⟩
def qmf:Cx:=⟨tab,arrs,[(79,znf),(81,zp2),(95,zvv),(124,z8r),(125,z8t),(126,zvk),(127,zvu),(128,zkb),(129,z8x)],[],gl,[]⟩
theorem qmg:FnOk gl Tryz.prog 62 z1j:=
 fo qmf qme 0 (oz ⟨zrg,zvh,z8v,qz5,q0b,z7d,z8u,zm1,q0q,trivial⟩ trivial) Tryz.func62 (by kernel_rfl) (by kernel_rfl) (by kernel_rfl)
  (ll 1 (by kernel_rfl) (lc z0k (by kernel_rfl) (λd=>by kernel_rfl) trivial)) (λx=>by kernel_rfl)
def qs6:List Out:=[⟨.normal,⟨[],[0,1,2,35],[]⟩,mkSh 49 [(0,.val .str .b),(1,.val .str .b),(2,.val .str .b),(35,.val .bool .b)]⟩]
def qwq:Plan:=⟨[(2,qs6)],[],0,0⟩
def zm0 (t0:PV .str)(t1:PV .str)(t2:PV .str):Option (PVs [(.int .i64),(.int .i64),.bool]×PVs []):=
 ((
   bif (decide ((t0.length:Int)<(IntKind.wrap .i64 ((t1.length:Int)+(t2.length:Int))))) then
    some (t0,t1,t2,true,())
   else
    bif cutB 0 (t1.length:Int) t0.length then
     bif (!((cutL 0 (t1.length:Int) t0)==t1)) then
      some (t0,t1,t2,true,())
     else
      bif cutB (IntKind.wrap .i64 ((t0.length:Int) -(t2.length:Int))) (t0.length:Int) t0.length then
       some (t0,t1,t2,(!((cutL (IntKind.wrap .i64 ((t0.length:Int) -(t2.length:Int))) (t0.length:Int) t0)==t2)),())
      else
       none
    else
     none:Option ((PV .str×PV .str×PV .str×PV .bool×Unit)))).bind λj2=>
   bif j2.2.2.2.1 then
    some ((0,0,false,()),())
   else
    bif cutB (j2.2.1.length:Int) (IntKind.wrap .i64 ((j2.1.length:Int) -(j2.2.2.1.length:Int))) j2.1.length then
     (zgl (cutL (j2.2.1.length:Int) (IntKind.wrap .i64 ((j2.1.length:Int) -(j2.2.2.1.length:Int))) j2.1)).bind λr3=>
       some ((r3.1.1,r3.1.2.1,r3.1.2.2.1,()),())
    else
     none
def z7h:Ct:=⟨[(.bor,.str),(.bor,.str),(.bor,.str)],[((.int .i64),.b),((.int .i64),.b),(.bool,.b)],λx=>zm0 x.1 x.2.1 x.2.2.1⟩
def qwr:Cx:=⟨tab,arrs,[(148,zuz)],[],gl,[]⟩
theorem qws:FnOk gl Tryz.prog 175 z7h:=
 fo qwr qwq 0 (oz ⟨zu0,trivial⟩ trivial) Tryz.func175 (by kernel_rfl) (by kernel_rfl) (by kernel_rfl)
  (ll 0 (by kernel_rfl) trivial) (λx=>by kernel_rfl)
def qs7:List Out:=[⟨.normal,⟨[],[0,1,6,7,10,24,25,26,27,28,29,38,39,40,43,44,45,64],[]⟩,mkSh 81 [(0,.val zf .b),(1,.val .str .b),(6,.val qc (.row (.pr .b (.pr .b .b)))),(7,.val (.int .i64) .b),(10,.var xg .b),(38,.val .str .b),(39,.val (.int .i64) .b),(40,.val .bool .b),(43,.val .str .b),(44,.val (.int .u8) .b),(45,.val .bool .b),(64,.val .bool .b)]⟩]
def qs8:List Out:=[⟨.normal,⟨[(10,.b)],[0,1,6,7,10,24,25,26,27,28,29,38,39,40,43,44,45,59,60,61,62,63],[]⟩,mkSh 81 [(0,.val zf .b),(1,.val .str .b),(6,.val qc (.row (.pr .b (.pr .b .b)))),(7,.val (.int .i64) .b),(10,.var xg .b),(38,.val .str .b),(39,.val (.int .i64) .b),(40,.val .bool .b),(43,.val .str .b),(44,.val (.int .u8) .b),(45,.val .bool .b)]⟩]
def qs9:List Sh:=mkSh 81 [(0,.val zf .b),(1,.val .str .b),(6,.val qc (.row (.pr .b (.pr .b .b)))),(7,.val (.int .i64) .b),(8,.val .str .b),(9,.val (.int .i64) .b)]
def qwt:List Out:=[⟨.exit 2,⟨[],[0,1,6,7,8,9,38,39,40,43,44,45,59,60,61,62,63],[]⟩,mkSh 81 [(0,.val zf .b),(1,.val .str .b),(6,.val qc (.row (.pr .b (.pr .b .b)))),(7,.val (.int .i64) .b),(8,.val .str .b),(9,.val (.int .i64) .b)]⟩]
def zec (t0:PV zf)(t1:PV .str)(t6:PV qc)(t7:PV (.int .i64))(t8:PV .str)(t9:PV (.int .i64)):Option ((PV zf×PV .str×PV qc×PV (.int .i64)×PV .str×PV (.int .i64)×Unit)⊕((PV zf×PV .str×PV qc×PV (.int .i64)×PV .str×PV (.int .i64)×Unit))):=
 bif (decide (t9<(t1.length:Int))) then
  bif inB t9 t1.length then
   bif inB 0 t8.length then
    bif (!(((t1.getD t9.toNat 0).toNat:Int)==((t8.getD (0:Int).toNat 0).toNat:Int))) then
     some (.inl (t0,t1,t6,t7,t8,(IntKind.wrap .i64 (t9+1)),()))
    else
     some (.inr (t0,t1,t6,t7,t8,t9,()))
   else
    none
  else
   none
 else
  some (.inr (t0,t1,t6,t7,t8,t9,()))
def zmq:PV zf×PV .str×PV qc×PV (.int .i64)×PV .str×PV (.int .i64)×Unit->Option ((PV zf×PV .str×PV qc×PV (.int .i64)×PV .str×PV (.int .i64)×Unit)):=fix λd=>zec d.1 d.2.1 d.2.2.1 d.2.2.2.1 d.2.2.2.2.1 d.2.2.2.2.2.1
def z5d:Lp:=⟨⟨[],[0,1,6,7,8,9,38,39,40,43,44,45,59,60,61,62,63],[]⟩,qs9,qwt,λd=>zec d.1 d.2.1 d.2.2.1 d.2.2.2.1 d.2.2.2.2.1 d.2.2.2.2.2.1⟩
def qta:List Sh:=mkSh 81 [(0,.val zf .b),(1,.val .str .b),(6,.val qc (.row (.pr .b (.pr .b .b)))),(7,.val (.int .i64) .b)]
def qwu:List Out:=[⟨.exit 0,⟨[],[6,7],[]⟩,mkSh 81 [(6,.val qc (.row (.pr .b (.pr .b .b)))),(7,.val (.int .i64) .b)]⟩]
def zfr (t0:PV zf)(t1:PV .str)(t6:PV qc)(t7:PV (.int .i64)):Option ((PV zf×PV .str×PV qc×PV (.int .i64)×Unit)⊕((PV qc×PV (.int .i64)×Unit))):=
 bif (decide (t7<(t0.length:Int))) then
  bif inB t7 t0.length then
   (zmq (t0,t1,t6,t7,(t0.getD t7.toNat []),0,())).bind λl7=>
     bif (l7.2.2.2.2.2.1==(l7.2.1.length:Int)) then
      some (.inr (l7.2.2.1,l7.2.2.2.1,()))
     else
      bif (decide ((l7.2.2.2.2.1.length:Int)<3)) then
       some (.inr (l7.2.2.1,l7.2.2.2.1,()))
      else
       bif inB 1 l7.2.2.2.2.1.length then
        bif (!(((l7.2.2.2.2.1.getD (1:Int).toNat 0).toNat:Int)==32)) then
         some (.inr (l7.2.2.1,l7.2.2.2.1,()))
        else
         bif inB 0 l7.2.2.2.2.1.length then
          bif cutB 2 (l7.2.2.2.2.1.length:Int) l7.2.2.2.2.1.length then
           ((
             ((
               bif (decide ((IntKind.wrap .i64 (l7.2.2.2.1+1))<(l7.1.length:Int))) then
                bif inB (IntKind.wrap .i64 (l7.2.2.2.1+1)) l7.1.length then
                 some (l7.1,l7.2.1,l7.2.2.1,(IntKind.wrap .i64 (l7.2.2.2.1+1)),(((l7.2.2.2.2.1.getD (0:Int).toNat 0).toNat:Int),((cutL 2 (l7.2.2.2.2.1.length:Int) l7.2.2.2.2.1),())),l7.2.2.2.2.1,(l7.2.2.2.2.1.length:Int),(decide ((l7.2.2.2.2.1.length:Int)<3)),l7.2.2.2.2.1,((l7.2.2.2.2.1.getD (1:Int).toNat 0).toNat:Int),(!(((l7.2.2.2.2.1.getD (1:Int).toNat 0).toNat:Int)==32)),((l7.1.getD ((IntKind.wrap .i64 (l7.2.2.2.1+1)).toNat) [])==[92,32,110,111,110,101,10]),())
                else
                 none
               else
                some (l7.1,l7.2.1,l7.2.2.1,(IntKind.wrap .i64 (l7.2.2.2.1+1)),(((l7.2.2.2.2.1.getD (0:Int).toNat 0).toNat:Int),((cutL 2 (l7.2.2.2.2.1.length:Int) l7.2.2.2.2.1),())),l7.2.2.2.2.1,(l7.2.2.2.2.1.length:Int),(decide ((l7.2.2.2.2.1.length:Int)<3)),l7.2.2.2.2.1,((l7.2.2.2.2.1.getD (1:Int).toNat 0).toNat:Int),(!(((l7.2.2.2.2.1.getD (1:Int).toNat 0).toNat:Int)==32)),false,()):Option ((PV zf×PV .str×PV qc×PV (.int .i64)×PV xg×PV .str×PV (.int .i64)×PV .bool×PV .str×PV (.int .u8)×PV .bool×PV .bool×Unit)))).bind λj8=>
               bif j8.2.2.2.2.2.2.2.2.2.2.2.1 then
                bif cutB 0 (IntKind.wrap .i64 ((j8.2.2.2.2.1.2.1.length:Int) -1)) j8.2.2.2.2.1.2.1.length then
                 some (j8.1,j8.2.1,j8.2.2.1,(IntKind.wrap .i64 (j8.2.2.2.1+1)),(j8.2.2.2.2.1.1,((cutL 0 (IntKind.wrap .i64 ((j8.2.2.2.2.1.2.1.length:Int) -1)) j8.2.2.2.2.1.2.1),j8.2.2.2.2.1.2.2)),j8.2.2.2.2.2.1,j8.2.2.2.2.2.2.1,j8.2.2.2.2.2.2.2.1,j8.2.2.2.2.2.2.2.2.1,j8.2.2.2.2.2.2.2.2.2.1,j8.2.2.2.2.2.2.2.2.2.2.1,())
                else
                 none
               else
                some (j8.1,j8.2.1,j8.2.2.1,j8.2.2.2.1,j8.2.2.2.2.1,j8.2.2.2.2.2.1,j8.2.2.2.2.2.2.1,j8.2.2.2.2.2.2.2.1,j8.2.2.2.2.2.2.2.2.1,j8.2.2.2.2.2.2.2.2.2.1,j8.2.2.2.2.2.2.2.2.2.2.1,()):Option ((PV zf×PV .str×PV qc×PV (.int .i64)×PV xg×PV .str×PV (.int .i64)×PV .bool×PV .str×PV (.int .u8)×PV .bool×Unit)))).bind λj9=>
             bif qw (j9.2.2.1.length+[j9.2.2.2.2.1].length) then
              some (.inl (j9.1,j9.2.1,(j9.2.2.1++[j9.2.2.2.2.1]),j9.2.2.2.1,()))
             else
              none
          else
           none
         else
          none
       else
        none
  else
   none
 else
  some (.inr (t6,t7,()))
def zj2:PV zf×PV .str×PV qc×PV (.int .i64)×Unit->Option ((PV qc×PV (.int .i64)×Unit)):=fix λd=>zfr d.1 d.2.1 d.2.2.1 d.2.2.2.1
def z5e:Lp:=⟨⟨[],[0,1,6,7,24,25,26,27,28,29,59,60,61,62,63],[]⟩,qta,qwu,λd=>zfr d.1 d.2.1 d.2.2.1 d.2.2.2.1⟩
def q0r:Plan:=⟨[(12,qs7),(14,qs8)],[(6,z5d),(3,z5e)],0,0⟩
def zm8 (t0:PV zf)(t1:PV .str):Option (PVs [qc,(.int .i64)]×PVs []):=
 (zj2 (t0,t1,[],0,())).bind λl11=>
   some ((l11.1,l11.2.1,()),())
def z8y:Ct:=⟨[(.bor,zf),(.bor,.str)],[(qc,(.row (.pr .b (.pr .b .b)))),((.int .i64),.b)],λx=>zm8 x.1 x.2.1⟩
def q0s:Cx:=⟨tab,arrs,[],[],gl,[]⟩
theorem q0t:FnOk gl Tryz.prog 176 z8y:=
 fo q0s q0r 0 (oz trivial trivial) Tryz.func176 (by kernel_rfl) (by kernel_rfl) (by kernel_rfl)
  (ll 2 (by kernel_rfl) (lc z5e (by kernel_rfl) (λd=>by kernel_rfl) (lc z5d (by kernel_rfl) (λd=>by kernel_rfl) trivial))) (λx=>by kernel_rfl)
def qwv:List Out:=[⟨.normal,⟨[],[0,1,3,17,18,19,51,52,53,54,79,80,81,82,83,84,103,104,105,106,107,108],[]⟩,mkSh 122 [(0,.val qc (.row (.pr .b (.pr .b .b)))),(1,.val qc .b),(3,.val .bool .b),(17,.val qc .b),(18,.val (.int .i64) .b),(19,.val (.int .i64) .b)]⟩]
def qww:List Out:=[⟨.normal,⟨[(0,.b)],[0,1,3,51,52,53,54,79,80,81,82,83,84,103,104,105,106,107,108],[]⟩,mkSh 122 [(0,.val qc .b),(1,.val qc .b),(3,.val .bool .b)]⟩]
def qtb:List Out:=[⟨.normal,⟨[],[0,1,32,33,34,51,52,53,54,79,80,81,82,83,84,103,104,105,106,107,108],[]⟩,mkSh 122 [(0,.val qc .b),(1,.val qc (.row (.pr .b (.pr .b .b)))),(32,.val qc .b),(33,.val (.int .i64) .b),(34,.val (.int .i64) .b)]⟩]
def qtc:List Out:=[⟨.normal,⟨[(1,.b)],[0,1,51,52,53,54,79,80,81,82,83,84,103,104,105,106,107,108],[]⟩,mkSh 122 [(0,.val qc .b),(1,.val qc .b)]⟩]
def qtd:List Out:=[⟨.exit 4,⟨[],[13],[]⟩,mkSh 122 [(13,.val zi (.row (.pr .b (.pr .b .b))))]⟩,⟨.normal,⟨[],[0,1,13,14,15,79,80,81,82,83,84,103,104,105,106,107,108],[]⟩,mkSh 122 [(0,.val qc .b),(1,.val qc .b),(13,.val zi (.row (.pr .b (.pr .b .b)))),(14,.val (.int .i64) .b),(15,.val (.int .i64) .b)]⟩]
def qte:List Out:=[⟨.normal,⟨[],[0,1,13,14,15,51,52,53,54,73,103,104,105,106,107,108],[]⟩,mkSh 122 [(0,.val qc .b),(1,.val qc .b),(13,.val zi (.row (.pr .b (.pr .b .b)))),(14,.val (.int .i64) .b),(15,.val (.int .i64) .b),(73,.val .bool .b)]⟩]
def qtf:List Out:=[⟨.normal,⟨[],[0,1,13,14,15,51,52,53,54,79,80,81,82,83,84,97],[]⟩,mkSh 122 [(0,.val qc .b),(1,.val qc .b),(13,.val zi (.row (.pr .b (.pr .b .b)))),(14,.val (.int .i64) .b),(15,.val (.int .i64) .b),(97,.val .bool .b)]⟩]
def qtg:List Out:=[⟨.normal,⟨[],[0,1,13,14,15,51,52,53,54,79,80,81,82,83,84,103,104,105,106,107,108],[]⟩,mkSh 122 [(0,.val qc .b),(1,.val qc .b),(13,.val zi (.row (.pr .b (.pr .b .b)))),(14,.val (.int .i64) .b),(15,.val (.int .i64) .b)]⟩]
def qth:List Sh:=mkSh 122 [(0,.val qc (.row (.pr .b (.pr .b .b)))),(1,.val qc .b),(3,.val .bool .b),(17,.val qc .b),(18,.val (.int .i64) .b),(19,.val (.int .i64) .b)]
def qwx:List Out:=[⟨.exit 0,⟨[],[0,1,3,51,52,53,54,79,80,81,82,83,84,103,104,105,106,107,108],[]⟩,mkSh 122 [(0,.val qc (.row (.pr .b (.pr .b .b)))),(1,.val qc .b),(3,.val .bool .b)]⟩]
def zib (t0:PV qc)(t1:PV qc)(t3:PV .bool)(t17:PV qc)(t18:PV (.int .i64))(t19:PV (.int .i64)):Option ((PV qc×PV qc×PV .bool×PV qc×PV (.int .i64)×PV (.int .i64)×Unit)⊕((PV qc×PV qc×PV .bool×Unit))):=
 bif (decide (t19<t18)) then
  ((
    bif inB t19 t17.length then
     bif (((t17.getD t19.toNat (dflt xg)).1)==32) then
      bif qw (t0.length+[(t17.getD t19.toNat (dflt xg))].length) then
       some ((t0++[(t17.getD t19.toNat (dflt xg))]),t1,t3,t17,t18,t19,())
      else
       none
     else
      some (t0,t1,t3,t17,t18,t19,())
    else
     none:Option ((PV qc×PV qc×PV .bool×PV qc×PV (.int .i64)×PV (.int .i64)×Unit)))).bind λj1=>
    some (.inl (j1.1,j1.2.1,j1.2.2.1,j1.2.2.2.1,j1.2.2.2.2.1,(IntKind.wrap .i64 (j1.2.2.2.2.2.1+1)),()))
 else
  some (.inr (t0,t1,t3,()))
def zu8:PV qc×PV qc×PV .bool×PV qc×PV (.int .i64)×PV (.int .i64)×Unit->Option ((PV qc×PV qc×PV .bool×Unit)):=fix λd=>zib d.1 d.2.1 d.2.2.1 d.2.2.2.1 d.2.2.2.2.1 d.2.2.2.2.2.1
def z5f:Lp:=⟨⟨[],[0,1,3,17,18,19,51,52,53,54,79,80,81,82,83,84,103,104,105,106,107,108],[]⟩,qth,qwx,λd=>zib d.1 d.2.1 d.2.2.1 d.2.2.2.1 d.2.2.2.2.1 d.2.2.2.2.2.1⟩
def qqg:List Sh:=mkSh 122 [(0,.val qc .b),(1,.val qc (.row (.pr .b (.pr .b .b)))),(32,.val qc .b),(33,.val (.int .i64) .b),(34,.val (.int .i64) .b)]
def qti:List Out:=[⟨.exit 2,⟨[],[0,1,51,52,53,54,79,80,81,82,83,84,103,104,105,106,107,108],[]⟩,mkSh 122 [(0,.val qc .b),(1,.val qc (.row (.pr .b (.pr .b .b))))]⟩]
def zh2 (t0:PV qc)(t1:PV qc)(t32:PV qc)(t33:PV (.int .i64))(t34:PV (.int .i64)):Option ((PV qc×PV qc×PV qc×PV (.int .i64)×PV (.int .i64)×Unit)⊕((PV qc×PV qc×Unit))):=
 bif (decide (t34<t33)) then
  ((
    bif inB t34 t32.length then
     bif (((t32.getD t34.toNat (dflt xg)).1)==32) then
      bif qw (t1.length+[(t32.getD t34.toNat (dflt xg))].length) then
       some (t0,(t1++[(t32.getD t34.toNat (dflt xg))]),t32,t33,t34,())
      else
       none
     else
      some (t0,t1,t32,t33,t34,())
    else
     none:Option ((PV qc×PV qc×PV qc×PV (.int .i64)×PV (.int .i64)×Unit)))).bind λj5=>
    some (.inl (j5.1,j5.2.1,j5.2.2.1,j5.2.2.2.1,(IntKind.wrap .i64 (j5.2.2.2.2.1+1)),()))
 else
  some (.inr (t0,t1,()))
def zuu:PV qc×PV qc×PV qc×PV (.int .i64)×PV (.int .i64)×Unit->Option ((PV qc×PV qc×Unit)):=fix λd=>zh2 d.1 d.2.1 d.2.2.1 d.2.2.2.1 d.2.2.2.2.1
def z3q:Lp:=⟨⟨[],[0,1,32,33,34,51,52,53,54,79,80,81,82,83,84,103,104,105,106,107,108],[]⟩,qqg,qti,λd=>zh2 d.1 d.2.1 d.2.2.1 d.2.2.2.1 d.2.2.2.2.1⟩
def qqh:List Sh:=mkSh 122 [(0,.val qc .b),(1,.val qc .b),(13,.val zi (.row (.pr .b (.pr .b .b)))),(14,.val (.int .i64) .b),(15,.val (.int .i64) .b)]
def qtj:List Out:=[⟨.exit 4,⟨[],[13],[]⟩,mkSh 122 [(13,.val zi (.row (.pr .b (.pr .b .b))))]⟩]
def zeb (t0:PV qc)(t1:PV qc)(t13:PV zi)(t14:PV (.int .i64))(t15:PV (.int .i64)):Option ((PV qc×PV qc×PV zi×PV (.int .i64)×PV (.int .i64)×Unit)⊕((PV zi×Unit))):=
 ((
   bif (decide (t14<(t0.length:Int))) then
    some (.inr (t0,t1,t13,t14,t15,()))
   else
    bif (decide (t15<(t1.length:Int))) then
     some (.inr (t0,t1,t13,t14,t15,()))
    else
     some (.inl (t13,())):Option ((PV zi×Unit)⊕(PV qc×PV qc×PV zi×PV (.int .i64)×PV (.int .i64)×Unit)))).bind λx16=>
   match x16 with
   | .inl j9=>
     some (.inr (j9.1,()))
   | .inr j10=>
     ((
       bif (decide (j10.2.2.2.1<(j10.1.length:Int))) then
        bif inB j10.2.2.2.1 j10.1.length then
         some (j10.1,j10.2.1,j10.2.2.1,j10.2.2.2.1,j10.2.2.2.2.1,(!(((j10.1.getD j10.2.2.2.1.toNat (dflt xg)).1)==32)),())
        else
         none
       else
        some (j10.1,j10.2.1,j10.2.2.1,j10.2.2.2.1,j10.2.2.2.2.1,false,()):Option ((PV qc×PV qc×PV zi×PV (.int .i64)×PV (.int .i64)×PV .bool×Unit)))).bind λj11=>
       bif j11.2.2.2.2.2.1 then
        bif inB j11.2.2.2.1 j11.1.length then
         bif qw (j11.2.2.1.length+[(2,(((j11.1.getD j11.2.2.2.1.toNat (dflt xg)).2).1,()))].length) then
          some (.inl (j11.1,j11.2.1,(j11.2.2.1++[(2,(((j11.1.getD j11.2.2.2.1.toNat (dflt xg)).2).1,()))]),(IntKind.wrap .i64 (j11.2.2.2.1+1)),j11.2.2.2.2.1,()))
         else
          none
        else
         none
       else
        ((
          bif (decide (j11.2.2.2.2.1<(j11.2.1.length:Int))) then
           bif inB j11.2.2.2.2.1 j11.2.1.length then
            some (j11.1,j11.2.1,j11.2.2.1,j11.2.2.2.1,j11.2.2.2.2.1,(!(((j11.2.1.getD j11.2.2.2.2.1.toNat (dflt xg)).1)==32)),())
           else
            none
          else
           some (j11.1,j11.2.1,j11.2.2.1,j11.2.2.2.1,j11.2.2.2.2.1,false,()):Option ((PV qc×PV qc×PV zi×PV (.int .i64)×PV (.int .i64)×PV .bool×Unit)))).bind λj12=>
          bif j12.2.2.2.2.2.1 then
           bif inB j12.2.2.2.2.1 j12.2.1.length then
            bif qw (j12.2.2.1.length+[(3,(((j12.2.1.getD j12.2.2.2.2.1.toNat (dflt xg)).2).1,()))].length) then
             some (.inl (j12.1,j12.2.1,(j12.2.2.1++[(3,(((j12.2.1.getD j12.2.2.2.2.1.toNat (dflt xg)).2).1,()))]),j12.2.2.2.1,(IntKind.wrap .i64 (j12.2.2.2.2.1+1)),()))
            else
             none
           else
            none
          else
           ((
             bif (decide (j12.2.2.2.1<(j12.1.length:Int))) then
              bif inB j12.2.2.2.1 j12.1.length then
               bif qw (j12.2.2.1.length+[(1,(((j12.1.getD j12.2.2.2.1.toNat (dflt xg)).2).1,()))].length) then
                some (j12.1,j12.2.1,(j12.2.2.1++[(1,(((j12.1.getD j12.2.2.2.1.toNat (dflt xg)).2).1,()))]),j12.2.2.2.1,j12.2.2.2.2.1,())
               else
                none
              else
               none
             else
              some (j12.1,j12.2.1,j12.2.2.1,j12.2.2.2.1,j12.2.2.2.2.1,()):Option ((PV qc×PV qc×PV zi×PV (.int .i64)×PV (.int .i64)×Unit)))).bind λj13=>
             some (.inl (j13.1,j13.2.1,j13.2.2.1,(IntKind.wrap .i64 (j13.2.2.2.1+1)),(IntKind.wrap .i64 (j13.2.2.2.2.1+1)),()))
def zgk:PV qc×PV qc×PV zi×PV (.int .i64)×PV (.int .i64)×Unit->Option ((PV zi×Unit)):=fix λd=>zeb d.1 d.2.1 d.2.2.1 d.2.2.2.1 d.2.2.2.2.1
def z3r:Lp:=⟨⟨[],[0,1,13,14,15,51,52,53,54,79,80,81,82,83,84,103,104,105,106,107,108],[]⟩,qqh,qtj,λd=>zeb d.1 d.2.1 d.2.2.1 d.2.2.2.1 d.2.2.2.2.1⟩
def q0u:Plan:=⟨[(8,qwv),(9,qww),(16,qtb),(17,qtc),(24,qtd),(25,qte),(28,qtf),(22,qtg)],[(4,z5f),(12,z3q),(19,z3r)],0,0⟩
def zqu (t0:PV qc)(t1:PV qc)(t2:PV .bool)(t3:PV .bool):Option (PVs [zi]×PVs []):=
 ((
   bif t2 then
    (zu8 ([],t1,t3,t1,(t1.length:Int),0,())).bind λl3=>
      some (l3.1,l3.2.1,l3.2.2.1,())
   else
    some (t0,t1,t3,()):Option ((PV qc×PV qc×PV .bool×Unit)))).bind λj4=>
   ((
     bif j4.2.2.1 then
      (zuu (j4.1,[],j4.1,(j4.1.length:Int),0,())).bind λl7=>
        some (l7.1,l7.2.1,())
     else
      some (j4.1,j4.2.1,()):Option ((PV qc×PV qc×Unit)))).bind λj8=>
     (zgk (j8.1,j8.2.1,[],0,0,())).bind λl15=>
       some ((l15.1,()),())
def z8z:Ct:=⟨[(.bor,qc),(.bor,qc),(.bor,.bool),(.bor,.bool)],[(zi,(.row (.pr .b (.pr .b .b))))],λx=>zqu x.1 x.2.1 x.2.2.1 x.2.2.2.1⟩
def q0v:Cx:=⟨tab,arrs,[],[],gl,[]⟩
theorem q0w:FnOk gl Tryz.prog 177 z8z:=
 fo q0v q0u 0 (oz trivial trivial) Tryz.func177 (by kernel_rfl) (by kernel_rfl) (by kernel_rfl)
  (ll 3 (by kernel_rfl) (lc z5f (by kernel_rfl) (λd=>by kernel_rfl) (lc z3q (by kernel_rfl) (λd=>by kernel_rfl) (lc z3r (by kernel_rfl) (λd=>by kernel_rfl) trivial)))) (λx=>by kernel_rfl)
def q7x:Plan:=⟨[],[],0,0⟩
def zn0 (t0:PV (.int .i64))(t1:PV (.int .i64)):Option (PVs [(.int .i64)]×PVs []):=
 bif (decide (t1>0)) then
  some (((IntKind.wrap .i64 (t0 -1)),()),())
 else
  some ((t0,()),())
def qct:Ct:=⟨[(.bor,(.int .i64)),(.bor,(.int .i64))],[((.int .i64),.b)],λx=>zn0 x.1 x.2.1⟩
def q7y:Cx:=⟨tab,arrs,[],[],gl,[]⟩
theorem q7z:FnOk gl Tryz.prog 178 qct:=
 fo q7y q7x 0 (oz trivial trivial) Tryz.func178 (by kernel_rfl) (by kernel_rfl) (by kernel_rfl)
  (ll 0 (by kernel_rfl) trivial) (λx=>by kernel_rfl)
def q0x:List Out:=[⟨.normal,⟨[],[0,2,23,42,43,44,45,46],[]⟩,mkSh 95 [(0,.val zf .b),(2,.var zh (.pr .b (.pr .b (.pr (.row (.pr .b (.pr .b .b))) .b)))),(23,.val .bool .b)]⟩]
def q0y:List Out:=[⟨.normal,⟨[],[0,2,4,7,8,47],[]⟩,mkSh 95 [(0,.val zf .b),(2,.var zh (.pr .b (.pr .b (.pr (.row (.pr .b (.pr .b .b))) .b)))),(4,.val (.int .i64) .b),(7,.val qc (.row (.pr .b (.pr .b .b)))),(8,.val (.int .i64) .b),(47,.val .bool .b)]⟩]
def q4m:Plan:=⟨[(2,q0x),(6,q0y)],[],0,0⟩
def zcu (t0:PV zf):Option (PVs [zh,(.int .i64)]×PVs []):=
 ((
   bif (decide ((t0.length:Int)<3)) then
    some (t0,(0,(0,(([]:PV zi),()))),true,())
   else
    bif inB 0 t0.length then
     some (t0,(0,(0,(([]:PV zi),()))),(!((t0.getD ((0:Int).toNat) [])==[42,42,42,42,42,42,42,42,42,42,42,42,42,42,42,10])),())
    else
     none:Option ((PV zf×PV zh×PV .bool×Unit)))).bind λj2=>
   bif j2.2.2.1 then
    some (((0,(0,(([]:PV zi),()))),0,()),())
   else
    bif inB 1 j2.1.length then
     (zm0 (j2.1.getD ((1:Int).toNat) []) [42,42,42,32] [32,42,42,42,42,10]).bind λr4=>
       bif cutB 2 (j2.1.length:Int) j2.1.length then
        (zm8 (cutL 2 (j2.1.length:Int) j2.1) [32,45,33]).bind λr6=>
          ((
            bif (!r4.1.2.2.1) then
             some (j2.1,j2.2.1,r4.1.1,r6.1.1,r6.1.2.1,true,())
            else
             some (j2.1,j2.2.1,r4.1.1,r6.1.1,r6.1.2.1,(decide ((IntKind.wrap .i64 (2+r6.1.2.1))>=(j2.1.length:Int))),()):Option ((PV zf×PV zh×PV (.int .i64)×PV qc×PV (.int .i64)×PV .bool×Unit)))).bind λj8=>
            bif j8.2.2.2.2.2.1 then
             some (((0,(0,(([]:PV zi),()))),0,()),())
            else
             bif inB (IntKind.wrap .i64 (2+j8.2.2.2.2.1)) j8.1.length then
              (zm0 (j8.1.getD ((IntKind.wrap .i64 (2+j8.2.2.2.2.1)).toNat) []) [45,45,45,32] [32,45,45,45,45,10]).bind λr10=>
                bif cutB (IntKind.wrap .i64 (3+j8.2.2.2.2.1)) (j8.1.length:Int) j8.1.length then
                 (zm8 (cutL (IntKind.wrap .i64 (3+j8.2.2.2.2.1)) (j8.1.length:Int) j8.1) [32,43,33]).bind λr12=>
                   bif (!r10.1.2.2.1) then
                    some (((0,(0,(([]:PV zi),()))),0,()),())
                   else
                    (zqu j8.2.2.2.1 r12.1.1 (j8.2.2.2.2.1==0) (r12.1.2.1==0)).bind λr14=>
                      (zfz (0,(0,(r14.1.1,())))).bind λr17=>
                        (zn0 j8.2.2.1 (r17.1.1.length:Int)).bind λr18=>
                          (zej (r18.1.1,(0,(r14.1.1,())))).bind λr21=>
                            (zn0 r10.1.1 (r21.1.1.length:Int)).bind λr22=>
                              some (((r18.1.1,(r22.1.1,(r14.1.1,()))),(IntKind.wrap .i64 ((IntKind.wrap .i64 (3+j8.2.2.2.2.1))+r12.1.2.1)),()),())
                else
                 none
             else
              none
       else
        none
    else
     none
def qaz:Ct:=⟨[(.bor,zf)],[(zh,(.pr .b (.pr .b (.pr (.row (.pr .b (.pr .b .b))) .b)))),((.int .i64),.b)],λx=>zcu x.1⟩
def q4n:Cx:=⟨tab,arrs,[(163,zkn),(164,zko),(175,z7h),(176,z8y),(177,z8z),(178,qct)],[],gl,[]⟩
theorem q4o:FnOk gl Tryz.prog 103 qaz:=
 fo q4n q4m 0 (oz ⟨zng,znh,qws,q0t,q0w,q7z,trivial⟩ trivial) Tryz.func103 (by kernel_rfl) (by kernel_rfl) (by kernel_rfl)
  (ll 0 (by kernel_rfl) trivial) (λx=>by kernel_rfl)
def qwy:List Out:=[⟨.normal,⟨[],[5],[]⟩,mkSh 20 [(5,.val .str .b)]⟩]
def q1a:Plan:=⟨[(4,qwy)],[],0,0⟩
def zkg (t0:PV (.int .i64))(t1:PV (.int .i64)):Option (PVs [.str]×PVs []):=
 (zmn t0 t1).bind λr3=>
   (zek r3.1.1).bind λr4=>
     ((
       bif (decide (t1>1)) then
        (zek (IntKind.wrap .i64 (t0+t1))).bind λr6=>
          bif decide ([44].length+r6.1.1.length<=1099511627776) then
           bif decide (r4.1.1.length+([44]++r6.1.1).length<=1099511627776) then
            some ((r4.1.1++([44]++r6.1.1)),())
           else
            none
          else
           none
       else
        some (r4.1.1,()):Option ((PV .str×Unit)))).bind λj7=>
       some ((j7.1,()),())
def z9a:Ct:=⟨[(.bor,(.int .i64)),(.bor,(.int .i64))],[(.str,.b)],λx=>zkg x.1 x.2.1⟩
def q1b:Cx:=⟨tab,arrs,[(196,zrh),(197,zu1)],[],gl,[]⟩
theorem q1c:FnOk gl Tryz.prog 168 z9a:=
 fo q1b q1a 0 (oz ⟨zwb,z4y,trivial⟩ trivial) Tryz.func168 (by kernel_rfl) (by kernel_rfl) (by kernel_rfl)
  (ll 0 (by kernel_rfl) trivial) (λx=>by kernel_rfl)
def qtk:List Sh:=mkSh 19 [(1,.val (.int .i64) .b),(8,.val zi .b),(9,.val (.int .i64) .b),(10,.val (.int .i64) .b)]
def qwz:List Out:=[⟨.exit 0,⟨[],[],[]⟩,mkSh 19 []⟩,⟨.ret,⟨[],[4],[]⟩,mkSh 19 [(4,.val .bool .b)]⟩]
def zfp (t1:PV (.int .i64))(t8:PV zi)(t9:PV (.int .i64))(t10:PV (.int .i64)):Option ((PV (.int .i64)×PV zi×PV (.int .i64)×PV (.int .i64)×Unit)⊕((Unit)⊕(PV .bool×Unit))):=
 bif (decide (t10<t9)) then
  bif inB t10 t8.length then
   bif (((t8.getD t10.toNat (dflt zo)).1)==t1) then
    some (.inr (.inr (true,())))
   else
    some (.inl (t1,t8,t9,(IntKind.wrap .i64 (t10+1)),()))
  else
   none
 else
  some (.inr (.inl ()))
def z6o:PV (.int .i64)×PV zi×PV (.int .i64)×PV (.int .i64)×Unit->Option ((Unit)⊕(PV .bool×Unit)):=fix λd=>zfp d.1 d.2.1 d.2.2.1 d.2.2.2.1
def z5g:Lp:=⟨⟨[],[1,8,9,10],[]⟩,qtk,qwz,λd=>zfp d.1 d.2.1 d.2.2.1 d.2.2.2.1⟩
def q1d:Plan:=⟨[],[(2,z5g)],0,0⟩
def zkh (t0:PV zh)(t1:PV (.int .i64)):Option (PVs [.bool]×PVs []):=
 (z6o (t1,t0.2.2.1,(t0.2.2.1.length:Int),0,())).bind λx5=>
   match x5 with
   | .inl l3=>
     some ((false,()),())
   | .inr l4=>
     some ((l4.1,()),())
def z9b:Ct:=⟨[(.bor,zh),(.bor,(.int .i64))],[(.bool,.b)],λx=>zkh x.1 x.2.1⟩
def q1e:Cx:=⟨tab,arrs,[],[],gl,[]⟩
theorem q1f:FnOk gl Tryz.prog 169 z9b:=
 fo q1e q1d 0 (oz trivial trivial) Tryz.func169 (by kernel_rfl) (by kernel_rfl) (by kernel_rfl)
  (ll 1 (by kernel_rfl) (lc z5g (by kernel_rfl) (λd=>by kernel_rfl) trivial)) (λx=>by kernel_rfl)
def q1g:Plan:=⟨[],[],0,0⟩
def zqp (t0:PV (.int .i64))(t1:PV (.int .i64)):Option (PVs [(.int .i64)]×PVs []):=
 bif (decide (t0>t1)) then
  some ((t0,()),())
 else
  some ((t1,()),())
def z9c:Ct:=⟨[(.bor,(.int .i64)),(.bor,(.int .i64))],[((.int .i64),.b)],λx=>zqp x.1 x.2.1⟩
def q1h:Cx:=⟨tab,arrs,[],[],gl,[]⟩
theorem q1i:FnOk gl Tryz.prog 238 z9c:=
 fo q1h q1g 0 (oz trivial trivial) Tryz.func238 (by kernel_rfl) (by kernel_rfl) (by kernel_rfl)
  (ll 0 (by kernel_rfl) trivial) (λx=>by kernel_rfl)
def qw0:List Out:=[⟨.normal,⟨[],[1,4,5,6,7,8,9,10,27,28,29,30,31,32,33,47,48,49,50,51,52,53],[]⟩,mkSh 77 [(1,.var zh .b),(4,.val (.int .i64) .b),(5,.val ql (.row .b)),(6,.val ql (.row .b)),(7,.val (.int .i64) .b),(8,.val (.int .i64) .b),(9,.val .bool .b),(10,.val .bool .b),(27,.addr ⟨1,[.r,.r,.l],0,0⟩),(28,.val zi .b),(29,.val (.int .i64) .b),(30,.bad zo),(31,.bad (.int .i64)),(32,.val (.int .i64) .b),(33,.val .bool .b)]⟩]
def qtl:List Out:=[⟨.normal,⟨[],[1,4,5,6,7,8,9,10,27,28,29,30,31,32,33,37,38,39,40,41,42,43],[]⟩,mkSh 77 [(1,.var zh .b),(4,.val (.int .i64) .b),(5,.val ql (.row .b)),(6,.val ql (.row .b)),(7,.val (.int .i64) .b),(8,.val (.int .i64) .b),(9,.val .bool .b),(10,.val .bool .b),(27,.addr ⟨1,[.r,.r,.l],0,0⟩),(28,.val zi .b),(29,.val (.int .i64) .b),(30,.bad zo),(31,.bad (.int .i64)),(32,.val (.int .i64) .b),(33,.val .bool .b)]⟩]
def qtm:List Sh:=mkSh 77 [(1,.var zh .b),(4,.val (.int .i64) .b),(5,.val ql (.row .b)),(6,.val ql (.row .b)),(7,.val (.int .i64) .b),(8,.val (.int .i64) .b),(9,.val .bool .b),(10,.val .bool .b)]
def qw1:List Out:=[⟨.exit 2,⟨[],[1,4,5,6,7,8,9,10,37,38,39,40,41,42,43,47,48,49,50,51,52,53],[]⟩,mkSh 77 [(1,.var zh .b),(4,.val (.int .i64) .b),(5,.val ql (.row .b)),(6,.val ql (.row .b)),(7,.val (.int .i64) .b),(8,.val (.int .i64) .b),(9,.val .bool .b),(10,.val .bool .b)]⟩]
def zfo (t1:PV zh)(t4:PV (.int .i64))(t5:PV ql)(t6:PV ql)(t7:PV (.int .i64))(t8:PV (.int .i64))(t9:PV .bool)(t10:PV .bool):Option ((PV zh×PV (.int .i64)×PV ql×PV ql×PV (.int .i64)×PV (.int .i64)×PV .bool×PV .bool×Unit)⊕((PV zh×PV (.int .i64)×PV ql×PV ql×PV (.int .i64)×PV (.int .i64)×PV .bool×PV .bool×Unit))):=
 bif (decide (t8<t4)) then
  bif inB t8 t1.2.2.1.length then
   bif (!(((t1.2.2.1.getD t8.toNat (dflt zo)).1)==1)) then
    ((
      bif t9 then
       some (t1,t4,t5,t6,t7,t8,true,t10,t1.2.2.1,t8,(t1.2.2.1.getD t8.toNat (dflt zo)),(t1.2.2.1.getD t8.toNat (dflt zo)).1,(t1.2.2.1.getD t8.toNat (dflt zo)).1,(!(((t1.2.2.1.getD t8.toNat (dflt zo)).1)==1)),())
      else
       bif inB t8 t1.2.2.1.length then
        some (t1,t4,t5,t6,t7,t8,(((t1.2.2.1.getD t8.toNat (dflt zo)).1)==2),t10,t1.2.2.1,t8,(t1.2.2.1.getD t8.toNat (dflt zo)),(t1.2.2.1.getD t8.toNat (dflt zo)).1,(t1.2.2.1.getD t8.toNat (dflt zo)).1,(!(((t1.2.2.1.getD t8.toNat (dflt zo)).1)==1)),())
       else
        none:Option ((PV zh×PV (.int .i64)×PV ql×PV ql×PV (.int .i64)×PV (.int .i64)×PV .bool×PV .bool×PV zi×PV (.int .i64)×PV zo×PV (.int .i64)×PV (.int .i64)×PV .bool×Unit)))).bind λj3=>
      ((
        bif j3.2.2.2.2.2.2.2.1 then
         some (j3.1,j3.2.1,j3.2.2.1,j3.2.2.2.1,j3.2.2.2.2.1,j3.2.2.2.2.2.1,j3.2.2.2.2.2.2.1,true,j3.2.2.2.2.2.2.2.2.1,j3.2.2.2.2.2.2.2.2.2.1,j3.2.2.2.2.2.2.2.2.2.2.1,j3.2.2.2.2.2.2.2.2.2.2.2.1,j3.2.2.2.2.2.2.2.2.2.2.2.2.1,j3.2.2.2.2.2.2.2.2.2.2.2.2.2.1,())
        else
         bif inB j3.2.2.2.2.2.1 j3.1.2.2.1.length then
          some (j3.1,j3.2.1,j3.2.2.1,j3.2.2.2.1,j3.2.2.2.2.1,j3.2.2.2.2.2.1,j3.2.2.2.2.2.2.1,(((j3.1.2.2.1.getD j3.2.2.2.2.2.1.toNat (dflt zo)).1)==3),j3.2.2.2.2.2.2.2.2.1,j3.2.2.2.2.2.2.2.2.2.1,j3.2.2.2.2.2.2.2.2.2.2.1,j3.2.2.2.2.2.2.2.2.2.2.2.1,j3.2.2.2.2.2.2.2.2.2.2.2.2.1,j3.2.2.2.2.2.2.2.2.2.2.2.2.2.1,())
         else
          none:Option ((PV zh×PV (.int .i64)×PV ql×PV ql×PV (.int .i64)×PV (.int .i64)×PV .bool×PV .bool×PV zi×PV (.int .i64)×PV zo×PV (.int .i64)×PV (.int .i64)×PV .bool×Unit)))).bind λj4=>
        some (.inl (j4.1,j4.2.1,j4.2.2.1,j4.2.2.2.1,j4.2.2.2.2.1,(IntKind.wrap .i64 (j4.2.2.2.2.2.1+1)),j4.2.2.2.2.2.2.1,j4.2.2.2.2.2.2.2.1,()))
   else
    some (.inr (t1,t4,t5,t6,t7,t8,t9,t10,()))
  else
   none
 else
  some (.inr (t1,t4,t5,t6,t7,t8,t9,t10,()))
def z6m:PV zh×PV (.int .i64)×PV ql×PV ql×PV (.int .i64)×PV (.int .i64)×PV .bool×PV .bool×Unit->Option ((PV zh×PV (.int .i64)×PV ql×PV ql×PV (.int .i64)×PV (.int .i64)×PV .bool×PV .bool×Unit)):=fix λd=>zfo d.1 d.2.1 d.2.2.1 d.2.2.2.1 d.2.2.2.2.1 d.2.2.2.2.2.1 d.2.2.2.2.2.2.1 d.2.2.2.2.2.2.2.1
def z5h:Lp:=⟨⟨[],[1,4,5,6,7,8,9,10,37,38,39,40,41,42,43,47,48,49,50,51,52,53],[]⟩,qtm,qw1,λd=>zfo d.1 d.2.1 d.2.2.1 d.2.2.2.1 d.2.2.2.2.1 d.2.2.2.2.2.1 d.2.2.2.2.2.2.1 d.2.2.2.2.2.2.2.1⟩
def qqi:List Sh:=mkSh 77 [(1,.var zh .b),(4,.val (.int .i64) .b),(5,.val ql (.row .b)),(6,.val ql (.row .b)),(7,.val (.int .i64) .b),(8,.val (.int .i64) .b),(9,.val .bool .b),(10,.val .bool .b),(11,.val (.int .i64) .b)]
def qtn:List Out:=[⟨.exit 4,⟨[],[1,4,5,6,7,8,27,28,29,30,31,32,33,37,38,39,40,41,42,43,47,48,49,50,51,52,53],[]⟩,mkSh 77 [(1,.var zh .b),(4,.val (.int .i64) .b),(5,.val ql (.row .b)),(6,.val ql (.row .b)),(7,.val (.int .i64) .b),(8,.val (.int .i64) .b)]⟩]
def zh0 (t1:PV zh)(t4:PV (.int .i64))(t5:PV ql)(t6:PV ql)(t7:PV (.int .i64))(t8:PV (.int .i64))(t9:PV .bool)(t10:PV .bool)(t11:PV (.int .i64)):Option ((PV zh×PV (.int .i64)×PV ql×PV ql×PV (.int .i64)×PV (.int .i64)×PV .bool×PV .bool×PV (.int .i64)×Unit)⊕((PV zh×PV (.int .i64)×PV ql×PV ql×PV (.int .i64)×PV (.int .i64)×Unit))):=
 bif (decide (t11<t8)) then
  bif inB t11 t5.length then
   bif inB t11 t6.length then
    some (.inl (t1,t4,(t5.set t11.toNat t9),(t6.set t11.toNat t10),t7,t8,t9,t10,(IntKind.wrap .i64 (t11+1)),()))
   else
    none
  else
   none
 else
  some (.inr (t1,t4,t5,t6,t7,t8,()))
def z4j:PV zh×PV (.int .i64)×PV ql×PV ql×PV (.int .i64)×PV (.int .i64)×PV .bool×PV .bool×PV (.int .i64)×Unit->Option ((PV zh×PV (.int .i64)×PV ql×PV ql×PV (.int .i64)×PV (.int .i64)×Unit)):=fix λd=>zh0 d.1 d.2.1 d.2.2.1 d.2.2.2.1 d.2.2.2.2.1 d.2.2.2.2.2.1 d.2.2.2.2.2.2.1 d.2.2.2.2.2.2.2.1 d.2.2.2.2.2.2.2.2.1
def z3s:Lp:=⟨⟨[],[1,4,5,6,7,8,9,10,11,27,28,29,30,31,32,33,37,38,39,40,41,42,43,47,48,49,50,51,52,53],[]⟩,qqi,qtn,λd=>zh0 d.1 d.2.1 d.2.2.1 d.2.2.2.1 d.2.2.2.2.1 d.2.2.2.2.2.1 d.2.2.2.2.2.2.1 d.2.2.2.2.2.2.2.1 d.2.2.2.2.2.2.2.2.1⟩
def qto:List Sh:=mkSh 77 [(1,.var zh .b),(4,.val (.int .i64) .b),(5,.val ql (.row .b)),(6,.val ql (.row .b)),(7,.val (.int .i64) .b)]
def qw2:List Out:=[⟨.exit 0,⟨[],[5,6],[]⟩,mkSh 77 [(5,.val ql (.row .b)),(6,.val ql (.row .b))]⟩]
def zdv (t1:PV zh)(t4:PV (.int .i64))(t5:PV ql)(t6:PV ql)(t7:PV (.int .i64)):Option ((PV zh×PV (.int .i64)×PV ql×PV ql×PV (.int .i64)×Unit)⊕((PV ql×PV ql×Unit))):=
 bif (decide (t7<t4)) then
  (z6m (t1,t4,t5,t6,t7,t7,false,false,())).bind λl2=>
    (z4j (l2.1,l2.2.1,l2.2.2.1,l2.2.2.2.1,l2.2.2.2.2.1,l2.2.2.2.2.2.1,l2.2.2.2.2.2.2.1,l2.2.2.2.2.2.2.2.1,l2.2.2.2.2.1,())).bind λl4=>
      (zqp l4.2.2.2.2.2.1 (IntKind.wrap .i64 (l4.2.2.2.2.1+1))).bind λr5=>
        some (.inl (l4.1,l4.2.1,l4.2.2.1,l4.2.2.2.1,r5.1.1,()))
 else
  some (.inr (t5,t6,()))
def zu6:PV zh×PV (.int .i64)×PV ql×PV ql×PV (.int .i64)×Unit->Option ((PV ql×PV ql×Unit)):=fix λd=>zdv d.1 d.2.1 d.2.2.1 d.2.2.2.1 d.2.2.2.2.1
def z5i:Lp:=⟨⟨[],[1,4,5,6,7,27,28,29,30,31,32,33,37,38,39,40,41,42,43,47,48,49,50,51,52,53],[]⟩,qto,qw2,λd=>zdv d.1 d.2.1 d.2.2.1 d.2.2.2.1 d.2.2.2.2.1⟩
def q1j:Plan:=⟨[(9,qw0),(10,qtl)],[(7,z5h),(12,z3s),(4,z5i)],0,0⟩
def zqq (t0:PV zh):Option (PVs [ql,ql]×PVs []):=
 bif decide (0<=(t0.2.2.1.length:Int))&&(decide ((t0.2.2.1.length:Int)<=(t0.2.2.1.length:Int))&&qw (t0.2.2.1.length:Int).toNat) then
  bif decide (0<=(t0.2.2.1.length:Int))&&(decide ((t0.2.2.1.length:Int)<=(t0.2.2.1.length:Int))&&qw (t0.2.2.1.length:Int).toNat) then
   (zu6 (t0,(t0.2.2.1.length:Int),(List.replicate (t0.2.2.1.length:Int).toNat false),(List.replicate (t0.2.2.1.length:Int).toNat false),0,())).bind λl7=>
     some ((l7.1,l7.2.1,()),())
  else
   none
 else
  none
def z9d:Ct:=⟨[(.bor,zh)],[(ql,(.row .b)),(ql,(.row .b))],λx=>zqq x.1⟩
def q1k:Cx:=⟨tab,arrs,[(238,z9c)],[],gl,[]⟩
theorem q1l:FnOk gl Tryz.prog 185 z9d:=
 fo q1k q1j 0 (oz ⟨q1i,trivial⟩ trivial) Tryz.func185 (by kernel_rfl) (by kernel_rfl) (by kernel_rfl)
  (ll 3 (by kernel_rfl) (lc z5i (by kernel_rfl) (λd=>by kernel_rfl) (lc z5h (by kernel_rfl) (λd=>by kernel_rfl) (lc z3s (by kernel_rfl) (λd=>by kernel_rfl) trivial)))) (λx=>by kernel_rfl)
def qw3:List Out:=[⟨.normal,⟨[],[1,5,6,7,8,9,10,17,18,19,24,45,46,47,48,51,52,53,54],[]⟩,mkSh 72 [(1,.val .bool .b),(5,.val ql (.row .b)),(6,.val ql (.row .b)),(7,.val .str .b),(8,.val (.int .i64) .b),(9,.var zo .b),(10,.val .str .b),(17,.val zi .b),(18,.val (.int .i64) .b),(19,.val (.int .i64) .b),(24,.val .bool .b)]⟩]
def qw4:List Out:=[⟨.normal,⟨[],[1,5,6,7,9,10,17,18,19,29,30,33,34,35,36,37,38,40],[]⟩,mkSh 72 [(1,.val .bool .b),(5,.val ql (.row .b)),(6,.val ql (.row .b)),(7,.val .str .b),(9,.var zo .b),(10,.val .str .b),(17,.val zi .b),(18,.val (.int .i64) .b),(19,.val (.int .i64) .b),(40,.val .bool .b)]⟩]
def qtp:List Out:=[⟨.exit 1,⟨[],[1,5,6,7,17,18,19,29,30,33,34,35,36,37,38,45,46,47,48,51,52,53,54],[]⟩,mkSh 72 [(1,.val .bool .b),(5,.val ql (.row .b)),(6,.val ql (.row .b)),(7,.val .str .b),(17,.val zi .b),(18,.val (.int .i64) .b),(19,.val (.int .i64) .b)]⟩,⟨.normal,⟨[],[1,5,6,7,9,10,17,18,19,29,30,33,34,35,36,37,38,45,46,47,48,51,52,53,54],[]⟩,mkSh 72 [(1,.val .bool .b),(5,.val ql (.row .b)),(6,.val ql (.row .b)),(7,.val .str .b),(9,.var zo .b),(10,.val .str .b),(17,.val zi .b),(18,.val (.int .i64) .b),(19,.val (.int .i64) .b)]⟩]
def qtq:List Out:=[⟨.normal,⟨[],[1,5,6,7,17,18,19,29,30,33,34,35,36,37,38,45,46,47,48,51,52,53,54],[]⟩,mkSh 72 [(1,.val .bool .b),(5,.val ql (.row .b)),(6,.val ql (.row .b)),(7,.val .str .b),(17,.val zi .b),(18,.val (.int .i64) .b),(19,.val (.int .i64) .b)]⟩]
def qtr:List Sh:=mkSh 72 [(1,.val .bool .b),(5,.val ql (.row .b)),(6,.val ql (.row .b)),(7,.val .str .b),(17,.val zi .b),(18,.val (.int .i64) .b),(19,.val (.int .i64) .b)]
def qw5:List Out:=[⟨.exit 0,⟨[],[7],[]⟩,mkSh 72 [(7,.val .str .b)]⟩]
def zh9 (t1:PV .bool)(t5:PV ql)(t6:PV ql)(t7:PV .str)(t17:PV zi)(t18:PV (.int .i64))(t19:PV (.int .i64)):Option ((PV .bool×PV ql×PV ql×PV .str×PV zi×PV (.int .i64)×PV (.int .i64)×Unit)⊕((PV .str×Unit))):=
 bif (decide (t19<t18)) then
  ((
    bif inB t19 t17.length then
     ((
       ((
         bif (((t17.getD t19.toNat (dflt zo)).1)==2) then
          bif (!t1) then
           some (t1,t5,t6,t7,t19,(t17.getD t19.toNat (dflt zo)),[32,32],t17,t18,t19,true,())
          else
           bif (((t17.getD t19.toNat (dflt zo)).1)==3) then
            some (t1,t5,t6,t7,t19,(t17.getD t19.toNat (dflt zo)),[32,32],t17,t18,t19,t1,())
           else
            some (t1,t5,t6,t7,t19,(t17.getD t19.toNat (dflt zo)),[32,32],t17,t18,t19,false,())
         else
          bif (((t17.getD t19.toNat (dflt zo)).1)==3) then
           some (t1,t5,t6,t7,t19,(t17.getD t19.toNat (dflt zo)),[32,32],t17,t18,t19,t1,())
          else
           some (t1,t5,t6,t7,t19,(t17.getD t19.toNat (dflt zo)),[32,32],t17,t18,t19,false,()):Option ((PV .bool×PV ql×PV ql×PV .str×PV (.int .i64)×PV zo×PV .str×PV zi×PV (.int .i64)×PV (.int .i64)×PV .bool×Unit)))).bind λj3=>
         bif j3.2.2.2.2.2.2.2.2.2.2.1 then
          some (.inl (j3.1,j3.2.1,j3.2.2.1,j3.2.2.2.1,j3.2.2.2.2.2.2.2.1,j3.2.2.2.2.2.2.2.2.1,j3.2.2.2.2.2.2.2.2.2.1,()))
         else
          ((
            bif (!(j3.2.2.2.2.2.1.1==1)) then
             bif inB j3.2.2.2.2.1 j3.2.1.length then
              bif (j3.2.1.getD j3.2.2.2.2.1.toNat false) then
               bif inB j3.2.2.2.2.1 j3.2.2.1.length then
                some (j3.1,j3.2.1,j3.2.2.1,j3.2.2.2.1,j3.2.2.2.2.2.1,j3.2.2.2.2.2.2.1,j3.2.2.2.2.2.2.2.1,j3.2.2.2.2.2.2.2.2.1,j3.2.2.2.2.2.2.2.2.2.1,(j3.2.2.1.getD j3.2.2.2.2.1.toNat false),())
               else
                none
              else
               some (j3.1,j3.2.1,j3.2.2.1,j3.2.2.2.1,j3.2.2.2.2.2.1,j3.2.2.2.2.2.2.1,j3.2.2.2.2.2.2.2.1,j3.2.2.2.2.2.2.2.2.1,j3.2.2.2.2.2.2.2.2.2.1,false,())
             else
              none
            else
             some (j3.1,j3.2.1,j3.2.2.1,j3.2.2.2.1,j3.2.2.2.2.2.1,j3.2.2.2.2.2.2.1,j3.2.2.2.2.2.2.2.1,j3.2.2.2.2.2.2.2.2.1,j3.2.2.2.2.2.2.2.2.2.1,false,()):Option ((PV .bool×PV ql×PV ql×PV .str×PV zo×PV .str×PV zi×PV (.int .i64)×PV (.int .i64)×PV .bool×Unit)))).bind λj4=>
            bif j4.2.2.2.2.2.2.2.2.2.1 then
             some (.inr (j4.1,j4.2.1,j4.2.2.1,j4.2.2.2.1,j4.2.2.2.2.1,[33,32],j4.2.2.2.2.2.2.1,j4.2.2.2.2.2.2.2.1,j4.2.2.2.2.2.2.2.2.1,()))
            else
             bif (j4.2.2.2.2.1.1==2) then
              some (.inr (j4.1,j4.2.1,j4.2.2.1,j4.2.2.2.1,j4.2.2.2.2.1,[45,32],j4.2.2.2.2.2.2.1,j4.2.2.2.2.2.2.2.1,j4.2.2.2.2.2.2.2.2.1,()))
             else
              bif (j4.2.2.2.2.1.1==3) then
               some (.inr (j4.1,j4.2.1,j4.2.2.1,j4.2.2.2.1,j4.2.2.2.2.1,[43,32],j4.2.2.2.2.2.2.1,j4.2.2.2.2.2.2.2.1,j4.2.2.2.2.2.2.2.2.1,()))
              else
               some (.inr (j4.1,j4.2.1,j4.2.2.1,j4.2.2.2.1,j4.2.2.2.2.1,j4.2.2.2.2.2.1,j4.2.2.2.2.2.2.1,j4.2.2.2.2.2.2.2.1,j4.2.2.2.2.2.2.2.2.1,())):Option ((PV .bool×PV ql×PV ql×PV .str×PV zi×PV (.int .i64)×PV (.int .i64)×Unit)⊕(PV .bool×PV ql×PV ql×PV .str×PV zo×PV .str×PV zi×PV (.int .i64)×PV (.int .i64)×Unit)))).bind λx11=>
       match x11 with
       | .inl j5=>
         some (j5.1,j5.2.1,j5.2.2.1,j5.2.2.2.1,j5.2.2.2.2.1,j5.2.2.2.2.2.1,j5.2.2.2.2.2.2.1,())
       | .inr j6=>
         (zdw j6.2.2.2.2.2.1 j6.2.2.2.2.1.2.1).bind λr7=>
           bif decide (j6.2.2.2.1.length+r7.1.1.length<=1099511627776) then
            some (j6.1,j6.2.1,j6.2.2.1,(j6.2.2.2.1++r7.1.1),j6.2.2.2.2.2.2.1,j6.2.2.2.2.2.2.2.1,j6.2.2.2.2.2.2.2.2.1,())
           else
            none
    else
     none:Option ((PV .bool×PV ql×PV ql×PV .str×PV zi×PV (.int .i64)×PV (.int .i64)×Unit)))).bind λj8=>
    some (.inl (j8.1,j8.2.1,j8.2.2.1,j8.2.2.2.1,j8.2.2.2.2.1,j8.2.2.2.2.2.1,(IntKind.wrap .i64 (j8.2.2.2.2.2.2.1+1)),()))
 else
  some (.inr (t7,()))
def z6n:PV .bool×PV ql×PV ql×PV .str×PV zi×PV (.int .i64)×PV (.int .i64)×Unit->Option ((PV .str×Unit)):=fix λd=>zh9 d.1 d.2.1 d.2.2.1 d.2.2.2.1 d.2.2.2.2.1 d.2.2.2.2.2.1 d.2.2.2.2.2.2.1
def z5j:Lp:=⟨⟨[],[1,5,6,7,17,18,19,29,30,33,34,35,36,37,38,45,46,47,48,51,52,53,54],[]⟩,qtr,qw5,λd=>zh9 d.1 d.2.1 d.2.2.1 d.2.2.2.1 d.2.2.2.2.1 d.2.2.2.2.2.1 d.2.2.2.2.2.2.1⟩
def q1m:Plan:=⟨[(8,qw3),(9,qw4),(14,qtp),(15,qtq)],[(4,z5j)],0,0⟩
def zgs (t0:PV zh)(t1:PV .bool):Option (PVs [.str]×PVs []):=
 (zqq t0).bind λr2=>
   (z6n (t1,r2.1.1,r2.1.2.1,[],t0.2.2.1,(t0.2.2.1.length:Int),0,())).bind λl10=>
     some ((l10.1,()),())
def z9e:Ct:=⟨[(.bor,zh),(.bor,.bool)],[(.str,.b)],λx=>zgs x.1 x.2.1⟩
def q1o:Cx:=⟨tab,arrs,[(139,zp3),(185,z9d)],[],gl,[]⟩
theorem q1p:FnOk gl Tryz.prog 109 z9e:=
 fo q1o q1m 0 (oz ⟨zvj,q1l,trivial⟩ trivial) Tryz.func109 (by kernel_rfl) (by kernel_rfl) (by kernel_rfl)
  (ll 1 (by kernel_rfl) (lc z5j (by kernel_rfl) (λd=>by kernel_rfl) trivial)) (λx=>by kernel_rfl)
def qw6:List Out:=[⟨.normal,⟨[],[3,5,6,7,8],[]⟩,mkSh 46 [(3,.val .str .b),(5,.var zh .b),(6,.val zl .b),(7,.val (.int .i64) .b),(8,.val (.int .i64) .b)]⟩]
def qts:List Out:=[⟨.normal,⟨[],[3,6,7,8],[]⟩,mkSh 46 [(3,.val .str .b),(6,.val zl .b),(7,.val (.int .i64) .b),(8,.val (.int .i64) .b)]⟩]
def qtt:List Sh:=mkSh 46 [(3,.val .str .b),(6,.val zl .b),(7,.val (.int .i64) .b),(8,.val (.int .i64) .b)]
def qw7:List Out:=[⟨.exit 0,⟨[],[3],[]⟩,mkSh 46 [(3,.val .str .b)]⟩]
def zia (t3:PV .str)(t6:PV zl)(t7:PV (.int .i64))(t8:PV (.int .i64)):Option ((PV .str×PV zl×PV (.int .i64)×PV (.int .i64)×Unit)⊕((PV .str×Unit))):=
 bif (decide (t8<t7)) then
  ((
    bif inB t8 t6.length then
     (zfz (t6.getD t8.toNat (dflt zh))).bind λr3=>
       (zkg ((t6.getD t8.toNat (dflt zh)).1) (r3.1.1.length:Int)).bind λr4=>
         bif decide ([42,42,42,42,42,42,42,42,42,42,42,42,42,42,42,10,42,42,42,32].length+r4.1.1.length<=1099511627776) then
          bif decide (([42,42,42,42,42,42,42,42,42,42,42,42,42,42,42,10,42,42,42,32]++r4.1.1).length+[32,42,42,42,42,10].length<=1099511627776) then
           bif decide (t3.length+(([42,42,42,42,42,42,42,42,42,42,42,42,42,42,42,10,42,42,42,32]++r4.1.1)++[32,42,42,42,42,10]).length<=1099511627776) then
            ((
              (zkh (t6.getD t8.toNat (dflt zh)) 2).bind λr6=>
                bif r6.1.1 then
                 (zgs (t6.getD t8.toNat (dflt zh)) true).bind λr7=>
                   bif decide ((t3++(([42,42,42,42,42,42,42,42,42,42,42,42,42,42,42,10,42,42,42,32]++r4.1.1)++[32,42,42,42,42,10])).length+r7.1.1.length<=1099511627776) then
                    some (((t3++(([42,42,42,42,42,42,42,42,42,42,42,42,42,42,42,10,42,42,42,32]++r4.1.1)++[32,42,42,42,42,10]))++r7.1.1),(t6.getD t8.toNat (dflt zh)),t6,t7,t8,())
                   else
                    none
                else
                 some ((t3++(([42,42,42,42,42,42,42,42,42,42,42,42,42,42,42,10,42,42,42,32]++r4.1.1)++[32,42,42,42,42,10])),(t6.getD t8.toNat (dflt zh)),t6,t7,t8,()):Option ((PV .str×PV zh×PV zl×PV (.int .i64)×PV (.int .i64)×Unit)))).bind λj8=>
              (zej j8.2.1).bind λr11=>
                (zkg j8.2.1.2.1 (r11.1.1.length:Int)).bind λr12=>
                  bif decide ([45,45,45,32].length+r12.1.1.length<=1099511627776) then
                   bif decide (([45,45,45,32]++r12.1.1).length+[32,45,45,45,45,10].length<=1099511627776) then
                    bif decide (j8.1.length+(([45,45,45,32]++r12.1.1)++[32,45,45,45,45,10]).length<=1099511627776) then
                     (zkh j8.2.1 3).bind λr14=>
                       bif r14.1.1 then
                        (zgs j8.2.1 false).bind λr15=>
                          bif decide ((j8.1++(([45,45,45,32]++r12.1.1)++[32,45,45,45,45,10])).length+r15.1.1.length<=1099511627776) then
                           some (((j8.1++(([45,45,45,32]++r12.1.1)++[32,45,45,45,45,10]))++r15.1.1),j8.2.2.1,j8.2.2.2.1,j8.2.2.2.2.1,())
                          else
                           none
                       else
                        some ((j8.1++(([45,45,45,32]++r12.1.1)++[32,45,45,45,45,10])),j8.2.2.1,j8.2.2.2.1,j8.2.2.2.2.1,())
                    else
                     none
                   else
                    none
                  else
                   none
           else
            none
          else
           none
         else
          none
    else
     none:Option ((PV .str×PV zl×PV (.int .i64)×PV (.int .i64)×Unit)))).bind λj16=>
    some (.inl (j16.1,j16.2.1,j16.2.2.1,(IntKind.wrap .i64 (j16.2.2.2.1+1)),()))
 else
  some (.inr (t3,()))
def z6p:PV .str×PV zl×PV (.int .i64)×PV (.int .i64)×Unit->Option ((PV .str×Unit)):=fix λd=>zia d.1 d.2.1 d.2.2.1 d.2.2.2.1
def z5k:Lp:=⟨⟨[],[3,6,7,8],[]⟩,qtt,qw7,λd=>zia d.1 d.2.1 d.2.2.1 d.2.2.2.1⟩
def q1q:Plan:=⟨[(8,qw6),(11,qts)],[(3,z5k)],0,0⟩
def zqr (t0:PV zl):Option (PVs [.str]×PVs []):=
 (z6p ([],t0,(t0.length:Int),0,())).bind λl18=>
   some ((l18.1,()),())
def z9f:Ct:=⟨[(.bor,zl)],[(.str,.b)],λx=>zqr x.1⟩
def q1r:Cx:=⟨tab,arrs,[(109,z9e),(163,zkn),(164,zko),(168,z9a),(169,z9b)],[],gl,[]⟩
theorem q1s:FnOk gl Tryz.prog 100 z9f:=
 fo q1r q1q 0 (oz ⟨q1p,zng,znh,q1c,q1f,trivial⟩ trivial) Tryz.func100 (by kernel_rfl) (by kernel_rfl) (by kernel_rfl)
  (ll 1 (by kernel_rfl) (lc z5k (by kernel_rfl) (λd=>by kernel_rfl) trivial)) (λx=>by kernel_rfl)
def qke:List Out:=[⟨.normal,⟨[],[6,39],[]⟩,mkSh 41 [(6,.val zl (.row (.pr .b (.pr .b (.pr (.row (.pr .b (.pr .b .b))) .b))))),(39,.val .bool .b)]⟩]
def qkf:List Sh:=mkSh 41 [(0,.val .str .b),(5,.val zf .b),(6,.val zl (.row (.pr .b (.pr .b (.pr (.row (.pr .b (.pr .b .b))) .b)))))]
def qle:List Out:=[⟨.exit 0,⟨[],[0,6,35,36,37,38],[]⟩,mkSh 41 [(0,.val .str .b),(6,.val zl (.row (.pr .b (.pr .b (.pr (.row (.pr .b (.pr .b .b))) .b)))))]⟩,⟨.ret,⟨[],[2,3,4],[]⟩,mkSh 41 [(2,.val zl (.row (.pr .b (.pr .b (.pr (.row (.pr .b (.pr .b .b))) .b))))),(3,.val (.int .i64) .b),(4,.val .bool .b)]⟩]
def zgd (t0:PV .str)(t5:PV zf)(t6:PV zl):Option ((PV .str×PV zf×PV zl×Unit)⊕((PV .str×PV zl×Unit)⊕(PV zl×PV (.int .i64)×PV .bool×Unit))):=
 bif (decide ((t5.length:Int)>0)) then
  (zcu t5).bind λr4=>
    bif (r4.1.2.1==0) then
     some (.inr (.inr ([],1,false,())))
    else
     bif qw (t6.length+[r4.1.1].length) then
      bif cutB r4.1.2.1 (t5.length:Int) t5.length then
       some (.inl (t0,(cutL r4.1.2.1 (t5.length:Int) t5),(t6++[r4.1.1]),()))
      else
       none
     else
      none
 else
  some (.inr (.inl (t0,t6,())))
def zge:PV .str×PV zf×PV zl×Unit->Option ((PV .str×PV zl×Unit)⊕(PV zl×PV (.int .i64)×PV .bool×Unit)):=fix λd=>zgd d.1 d.2.1 d.2.2.1
def z0l:Lp:=⟨⟨[],[0,5,6,35,36,37,38],[]⟩,qkf,qle,λd=>zgd d.1 d.2.1 d.2.2.1⟩
def qmh:Plan:=⟨[(12,qke)],[(5,z0l)],0,0⟩
def zma (t0:PV .str):Option (PVs [zl,(.int .i64),.bool]×PVs []):=
 bif (decide ((t0.length:Int)>3000)) then
  some (([],1,false,()),())
 else
  (ziy t0).bind λr2=>
    (zge (t0,r2.1.1,[],())).bind λx17=>
      match x17 with
      | .inl l7=>
        ((
          (zm6 l7.2.1).bind λr13=>
            bif (!r13.1.1) then
             some (l7.2.1,true,())
            else
             (zqr l7.2.1).bind λr14=>
               some (l7.2.1,(!(r14.1.1==l7.1)),()):Option ((PV zl×PV .bool×Unit)))).bind λj15=>
          bif j15.2.1 then
           some (([],1,false,()),())
          else
           some ((j15.1,0,true,()),())
      | .inr l16=>
        some ((l16.1,l16.2.1,l16.2.2.1,()),())
def z1k:Ct:=⟨[(.bor,.str)],[(zl,(.row (.pr .b (.pr .b (.pr (.row (.pr .b (.pr .b .b))) .b))))),((.int .i64),.b),(.bool,.b)],λx=>zma x.1⟩
def qmi:Cx:=⟨tab,arrs,[(79,znf),(95,zvv),(100,z9f),(103,qaz)],[],gl,[]⟩
theorem qmj:FnOk gl Tryz.prog 50 z1k:=
 fo qmi qmh 0 (oz ⟨zrg,z8v,q1s,q4o,trivial⟩ trivial) Tryz.func50 (by kernel_rfl) (by kernel_rfl) (by kernel_rfl)
  (ll 1 (by kernel_rfl) (lc z0l (by kernel_rfl) (λd=>by kernel_rfl) trivial)) (λx=>by kernel_rfl)
def qtu:List Out:=[⟨.normal,⟨[],[0,5,6,7,22],[]⟩,mkSh 27 [(0,.val zf .b),(5,.val zf .b),(6,.val (.int .i64) .b),(7,.val (.int .i64) .b),(22,.val .bool .b)]⟩]
def qqj:List Sh:=mkSh 27 [(0,.val zf .b),(5,.val zf .b),(6,.val (.int .i64) .b),(7,.val (.int .i64) .b)]
def qtv:List Out:=[⟨.exit 0,⟨[],[0],[]⟩,mkSh 27 [(0,.val zf .b)]⟩,⟨.ret,⟨[],[2],[]⟩,mkSh 27 [(2,.val .bool .b)]⟩]
def zfl (t0:PV zf)(t5:PV zf)(t6:PV (.int .i64))(t7:PV (.int .i64)):Option ((PV zf×PV zf×PV (.int .i64)×PV (.int .i64)×Unit)⊕((PV zf×Unit)⊕(PV .bool×Unit))):=
 bif (decide (t7<t6)) then
  bif inB t7 t5.length then
   ((
     (zgq (t5.getD t7.toNat [])).bind λr4=>
       bif (!r4.1.1) then
        some (t0,t5,t6,t7,true,())
       else
        (zei (t5.getD t7.toNat [])).bind λr5=>
          bif (!r5.1.1) then
           some (t0,t5,t6,t7,true,())
          else
           some (t0,t5,t6,t7,((t5.getD t7.toNat [])==[46,10]),()):Option ((PV zf×PV zf×PV (.int .i64)×PV (.int .i64)×PV .bool×Unit)))).bind λj6=>
     bif j6.2.2.2.2.1 then
      some (.inr (.inr (false,())))
     else
      some (.inl (j6.1,j6.2.1,j6.2.2.1,(IntKind.wrap .i64 (j6.2.2.2.1+1)),()))
  else
   none
 else
  some (.inr (.inl (t0,())))
def z4k:PV zf×PV zf×PV (.int .i64)×PV (.int .i64)×Unit->Option ((PV zf×Unit)⊕(PV .bool×Unit)):=fix λd=>zfl d.1 d.2.1 d.2.2.1 d.2.2.2.1
def z3t:Lp:=⟨⟨[],[0,5,6,7,15,16,17,20,21],[]⟩,qqj,qtv,λd=>zfl d.1 d.2.1 d.2.2.1 d.2.2.2.1⟩
def qw8:Plan:=⟨[(5,qtu)],[(2,z3t)],0,0⟩
def zka (t0:PV zf):Option (PVs [.bool]×PVs []):=
 (z4k (t0,t0,(t0.length:Int),0,())).bind λx12=>
   match x12 with
   | .inl l9=>
     (zb3 (l9.1.length:Int) 1 40).bind λr10=>
       some ((r10.1.1,()),())
   | .inr l11=>
     some ((l11.1,()),())
def z7i:Ct:=⟨[(.bor,zf)],[(.bool,.b)],λx=>zka x.1⟩
def qw9:Cx:=⟨tab,arrs,[(114,zgx),(128,zkb),(183,zqj)],[],gl,[]⟩
theorem qxa:FnOk gl Tryz.prog 269 z7i:=
 fo qw9 qw8 0 (oz ⟨zi1,zm1,zvs,trivial⟩ trivial) Tryz.func269 (by kernel_rfl) (by kernel_rfl) (by kernel_rfl)
  (ll 1 (by kernel_rfl) (lc z3t (by kernel_rfl) (λd=>by kernel_rfl) trivial)) (λx=>by kernel_rfl)
def qtw:List Out:=[⟨.normal,⟨[],[1,14,25,26,27,37,38,39,42,43,44,52,53,54,62,63,64,65,71,72,73,76,77,78,79,80,83,84,85,86],[]⟩,mkSh 88 [(1,.var qh .b),(14,.val .bool .b)]⟩]
def qxb:Plan:=⟨[(2,qtw)],[],0,0⟩
def zqe (t0:PV qh):Option (PVs [.bool]×PVs []):=
 ((
   (zb3 t0.2.1 0 1000).bind λr6=>
     bif (!r6.1.1) then
      some (t0,true,())
     else
      (zb3 t0.2.2.1 t0.2.1 1000).bind λr7=>
        some (t0,(!r7.1.1),()):Option ((PV qh×PV .bool×Unit)))).bind λj8=>
   bif j8.2.1 then
    some ((false,()),())
   else
    bif (j8.1.1==1) then
     bif (j8.1.2.2.1==j8.1.2.1) then
      (zka j8.1.2.2.2.1).bind λr12=>
        some ((r12.1.1,()),())
     else
      some ((false,()),())
    else
     bif (j8.1.1==2) then
      bif (j8.1.2.2.1==j8.1.2.1) then
       bif (decide (j8.1.2.1>=1)) then
        (zka j8.1.2.2.2.1).bind λr13=>
          some ((r13.1.1,()),())
       else
        some ((false,()),())
      else
       some ((false,()),())
     else
      bif (j8.1.1==3) then
       bif (decide (j8.1.2.1>=1)) then
        (zka j8.1.2.2.2.1).bind λr14=>
          some ((r14.1.1,()),())
       else
        some ((false,()),())
      else
       bif (j8.1.1==4) then
        bif (decide (j8.1.2.1>=1)) then
         some ((((j8.1.2.2.2.1.length:Int)==0),()),())
        else
         some ((false,()),())
       else
        bif (j8.1.1==5) then
         bif (decide (j8.1.2.1>=1)) then
          bif (j8.1.2.2.1==j8.1.2.1) then
           some ((((j8.1.2.2.2.1.length:Int)==0),()),())
          else
           some ((false,()),())
         else
          some ((false,()),())
        else
         some ((false,()),())
def z7j:Ct:=⟨[(.bor,qh)],[(.bool,.b)],λx=>zqe x.1⟩
def qxc:Cx:=⟨tab,arrs,[(114,zgx),(269,z7i)],[],gl,[]⟩
theorem qxd:FnOk gl Tryz.prog 243 z7j:=
 fo qxc qxb 0 (oz ⟨zi1,qxa,trivial⟩ trivial) Tryz.func243 (by kernel_rfl) (by kernel_rfl) (by kernel_rfl)
  (ll 0 (by kernel_rfl) trivial) (λx=>by kernel_rfl)
def qtx:List Sh:=mkSh 18 [(0,.val zn .b),(5,.val zn .b),(6,.val (.int .i64) .b),(7,.val (.int .i64) .b)]
def qxe:List Out:=[⟨.exit 0,⟨[],[0],[]⟩,mkSh 18 [(0,.val zn .b)]⟩,⟨.ret,⟨[],[2],[]⟩,mkSh 18 [(2,.val .bool .b)]⟩]
def zfs (t0:PV zn)(t5:PV zn)(t6:PV (.int .i64))(t7:PV (.int .i64)):Option ((PV zn×PV zn×PV (.int .i64)×PV (.int .i64)×Unit)⊕((PV zn×Unit)⊕(PV .bool×Unit))):=
 bif (decide (t7<t6)) then
  bif inB t7 t5.length then
   (zqe (t5.getD t7.toNat (dflt qh))).bind λr4=>
     bif (!r4.1.1) then
      some (.inr (.inr (false,())))
     else
      some (.inl (t0,t5,t6,(IntKind.wrap .i64 (t7+1)),()))
  else
   none
 else
  some (.inr (.inl (t0,())))
def z6t:PV zn×PV zn×PV (.int .i64)×PV (.int .i64)×Unit->Option ((PV zn×Unit)⊕(PV .bool×Unit)):=fix λd=>zfs d.1 d.2.1 d.2.2.1 d.2.2.2.1
def z5l:Lp:=⟨⟨[],[0,5,6,7],[]⟩,qtx,qxe,λd=>zfs d.1 d.2.1 d.2.2.1 d.2.2.2.1⟩
def q1t:Plan:=⟨[],[(2,z5l)],0,0⟩
def zq4 (t0:PV zn):Option (PVs [.bool]×PVs []):=
 (z6t (t0,t0,(t0.length:Int),0,())).bind λx9=>
   match x9 with
   | .inl l7=>
     some (((decide ((l7.1.length:Int)<=60)),()),())
   | .inr l8=>
     some ((l8.1,()),())
def z9g:Ct:=⟨[(.bor,zn)],[(.bool,.b)],λx=>zq4 x.1⟩
def q1u:Cx:=⟨tab,arrs,[(243,z7j)],[],gl,[]⟩
theorem q1v:FnOk gl Tryz.prog 200 z9g:=
 fo q1u q1t 0 (oz ⟨qxd,trivial⟩ trivial) Tryz.func200 (by kernel_rfl) (by kernel_rfl) (by kernel_rfl)
  (ll 1 (by kernel_rfl) (lc z5l (by kernel_rfl) (λd=>by kernel_rfl) trivial)) (λx=>by kernel_rfl)
def qxf:List Out:=[⟨.normal,⟨[],[3,6,7,8],[]⟩,mkSh 38 [(3,.val .str .b),(6,.val zn .b),(7,.val (.int .i64) .b),(8,.val (.int .i64) .b)]⟩]
def qtz:List Sh:=mkSh 38 [(3,.val .str .b),(6,.val zn .b),(7,.val (.int .i64) .b),(8,.val (.int .i64) .b)]
def qxg:List Out:=[⟨.exit 0,⟨[],[3],[]⟩,mkSh 38 [(3,.val .str .b)]⟩]
def zie (t3:PV .str)(t6:PV zn)(t7:PV (.int .i64))(t8:PV (.int .i64)):Option ((PV .str×PV zn×PV (.int .i64)×PV (.int .i64)×Unit)⊕((PV .str×Unit))):=
 bif (decide (t8<t7)) then
  ((
    bif inB t8 t6.length then
     (zjz (((t6.getD t8.toNat (dflt qh)).2).1) ((((t6.getD t8.toNat (dflt qh)).2).2).1)).bind λr3=>
       (zqf).bind λr4=>
         bif inB ((t6.getD t8.toNat (dflt qh)).1) r4.1.1.length then
          bif decide (r3.1.1.length+(r4.1.1.getD (((t6.getD t8.toNat (dflt qh)).1).toNat) []).length<=1099511627776) then
           bif decide ((r3.1.1++(r4.1.1.getD (((t6.getD t8.toNat (dflt qh)).1).toNat) [])).length+[10].length<=1099511627776) then
            bif decide (t3.length+((r3.1.1++(r4.1.1.getD (((t6.getD t8.toNat (dflt qh)).1).toNat) []))++[10]).length<=1099511627776) then
             bif (decide (((((((t6.getD t8.toNat (dflt qh)).2).2).2).1).length:Int)>0)) then
              (ziv (((((t6.getD t8.toNat (dflt qh)).2).2).2).1)).bind λr5=>
                bif decide (r5.1.1.length+[46,10].length<=1099511627776) then
                 bif decide ((t3++((r3.1.1++(r4.1.1.getD (((t6.getD t8.toNat (dflt qh)).1).toNat) []))++[10])).length+(r5.1.1++[46,10]).length<=1099511627776) then
                  some (((t3++((r3.1.1++(r4.1.1.getD (((t6.getD t8.toNat (dflt qh)).1).toNat) []))++[10]))++(r5.1.1++[46,10])),t6,t7,t8,())
                 else
                  none
                else
                 none
             else
              some ((t3++((r3.1.1++(r4.1.1.getD (((t6.getD t8.toNat (dflt qh)).1).toNat) []))++[10])),t6,t7,t8,())
            else
             none
           else
            none
          else
           none
         else
          none
    else
     none:Option ((PV .str×PV zn×PV (.int .i64)×PV (.int .i64)×Unit)))).bind λj6=>
    some (.inl (j6.1,j6.2.1,j6.2.2.1,(IntKind.wrap .i64 (j6.2.2.2.1+1)),()))
 else
  some (.inr (t3,()))
def zva:PV .str×PV zn×PV (.int .i64)×PV (.int .i64)×Unit->Option ((PV .str×Unit)):=fix λd=>zie d.1 d.2.1 d.2.2.1 d.2.2.2.1
def z5m:Lp:=⟨⟨[],[3,6,7,8],[]⟩,qtz,qxg,λd=>zie d.1 d.2.1 d.2.2.1 d.2.2.2.1⟩
def q1w:Plan:=⟨[(8,qxf)],[(3,z5m)],0,0⟩
def zq7 (t0:PV zn):Option (PVs [.str]×PVs []):=
 (zva ([],t0,(t0.length:Int),0,())).bind λl8=>
   some ((l8.1,()),())
def z9h:Ct:=⟨[(.bor,zn)],[(.str,.b)],λx=>zq7 x.1⟩
def q1x:Cx:=⟨tab,arrs,[(127,zvu),(138,zup),(242,z6x)],[],gl,[]⟩
theorem q1y:FnOk gl Tryz.prog 201 z9h:=
 fo q1x q1w 0 (oz ⟨z8u,z3l,z6z,trivial⟩ trivial) Tryz.func201 (by kernel_rfl) (by kernel_rfl) (by kernel_rfl)
  (ll 1 (by kernel_rfl) (lc z5m (by kernel_rfl) (λd=>by kernel_rfl) trivial)) (λx=>by kernel_rfl)
def qlf:List Out:=[⟨.normal,⟨[],[0,5,6,7,36,37,38,39,64,65,66,67],[]⟩,mkSh 70 [(0,.val .str .b),(5,.val zf .b),(6,.val zn (.row (.pr .b (.pr .b (.pr .b (.pr (.row .b) .b)))))),(7,.var qh (.pr .b (.pr .b (.pr .b (.pr (.row .b) .b)))))]⟩,⟨.ret,⟨[],[2,3,4],[]⟩,mkSh 70 [(2,.val zn (.row (.pr .b (.pr .b (.pr .b (.pr (.row .b) .b)))))),(3,.val (.int .i64) .b),(4,.val .bool .b)]⟩]
def qlg:List Out:=[⟨.normal,⟨[],[6,68],[]⟩,mkSh 70 [(6,.val zn (.row (.pr .b (.pr .b (.pr .b (.pr (.row .b) .b)))))),(68,.val .bool .b)]⟩]
def qkg:List Sh:=mkSh 70 [(0,.val .str .b),(5,.val zf .b),(6,.val zn (.row (.pr .b (.pr .b (.pr .b (.pr (.row .b) .b)))))),(7,.var qh (.pr .b (.pr .b (.pr .b (.pr (.row .b) .b)))))]
def qlh:List Out:=[⟨.exit 2,⟨[],[0,5,6,7,64,65,66,67],[]⟩,mkSh 70 [(0,.val .str .b),(5,.val zf .b),(6,.val zn (.row (.pr .b (.pr .b (.pr .b (.pr (.row .b) .b)))))),(7,.var qh (.pr .b (.pr .b (.pr .b (.pr (.row .b) .b)))))]⟩]
def zdq (t0:PV .str)(t5:PV zf)(t6:PV zn)(t7:PV qh):Option ((PV .str×PV zf×PV zn×PV qh×Unit)⊕((PV .str×PV zf×PV zn×PV qh×Unit))):=
 bif (decide ((t5.length:Int)>0)) then
  bif inB 0 t5.length then
   bif (!((t5.getD ((0:Int).toNat) [])==[46,10])) then
    bif inB 0 t5.length then
     bif qw (t7.2.2.2.1.length+[(t5.getD ((0:Int).toNat) [])].length) then
      bif cutB 1 (t5.length:Int) t5.length then
       some (.inl (t0,(cutL 1 (t5.length:Int) t5),t6,(t7.1,(t7.2.1,(t7.2.2.1,((t7.2.2.2.1++[(t5.getD ((0:Int).toNat) [])]),t7.2.2.2.2)))),()))
      else
       none
     else
      none
    else
     none
   else
    some (.inr (t0,t5,t6,t7,()))
  else
   none
 else
  some (.inr (t0,t5,t6,t7,()))
def z0q:PV .str×PV zf×PV zn×PV qh×Unit->Option ((PV .str×PV zf×PV zn×PV qh×Unit)):=fix λd=>zdq d.1 d.2.1 d.2.2.1 d.2.2.2.1
def z0m:Lp:=⟨⟨[],[0,5,6,7,64,65,66,67],[]⟩,qkg,qlh,λd=>zdq d.1 d.2.1 d.2.2.1 d.2.2.2.1⟩
def qli:List Sh:=mkSh 70 [(0,.val .str .b),(5,.val zf .b),(6,.val zn (.row (.pr .b (.pr .b (.pr .b (.pr (.row .b) .b))))))]
def qmk:List Out:=[⟨.exit 0,⟨[],[0,6,64,65,66,67],[]⟩,mkSh 70 [(0,.val .str .b),(6,.val zn (.row (.pr .b (.pr .b (.pr .b (.pr (.row .b) .b))))))]⟩,⟨.ret,⟨[],[2,3,4],[]⟩,mkSh 70 [(2,.val zn (.row (.pr .b (.pr .b (.pr .b (.pr (.row .b) .b)))))),(3,.val (.int .i64) .b),(4,.val .bool .b)]⟩]
def zfb (t0:PV .str)(t5:PV zf)(t6:PV zn):Option ((PV .str×PV zf×PV zn×Unit)⊕((PV .str×PV zn×Unit)⊕(PV zn×PV (.int .i64)×PV .bool×Unit))):=
 bif (decide ((t5.length:Int)>0)) then
  bif inB 0 t5.length then
   (zgo (t5.getD ((0:Int).toNat) [])).bind λr5=>
     (zq5 r5.1.1).bind λr6=>
       bif (!r6.1.2.1) then
        some (.inr (.inr ([],1,false,())))
       else
        bif cutB 1 (t5.length:Int) t5.length then
         ((
           bif (decide (r6.1.1.1<=3)) then
            (z0q (t0,(cutL 1 (t5.length:Int) t5),t6,r6.1.1,())).bind λl8=>
              bif ((l8.2.1.length:Int)==0) then
               some (.inr ([],1,false,()))
              else
               bif cutB 1 (l8.2.1.length:Int) l8.2.1.length then
                some (.inl (l8.1,(cutL 1 (l8.2.1.length:Int) l8.2.1),l8.2.2.1,l8.2.2.2.1,()))
               else
                none
           else
            some (.inl (t0,(cutL 1 (t5.length:Int) t5),t6,r6.1.1,())):Option ((PV .str×PV zf×PV zn×PV qh×Unit)⊕(PV zn×PV (.int .i64)×PV .bool×Unit)))).bind λx23=>
           match x23 with
           | .inl j9=>
             bif qw (j9.2.2.1.length+[j9.2.2.2.1].length) then
              some (.inl (j9.1,j9.2.1,(j9.2.2.1++[j9.2.2.2.1]),()))
             else
              none
           | .inr j10=>
             some (.inr (.inr (j10.1,j10.2.1,j10.2.2.1,())))
        else
         none
  else
   none
 else
  some (.inr (.inl (t0,t6,())))
def zds:PV .str×PV zf×PV zn×Unit->Option ((PV .str×PV zn×Unit)⊕(PV zn×PV (.int .i64)×PV .bool×Unit)):=fix λd=>zfb d.1 d.2.1 d.2.2.1
def z0z:Lp:=⟨⟨[],[0,5,6,36,37,38,39,64,65,66,67],[]⟩,qli,qmk,λd=>zfb d.1 d.2.1 d.2.2.1⟩
def qol:Plan:=⟨[(17,qlf),(19,qlg)],[(11,z0m),(5,z0z)],0,0⟩
def zmg (t0:PV .str):Option (PVs [zn,(.int .i64),.bool]×PVs []):=
 bif (decide ((t0.length:Int)>3000)) then
  some (([],1,false,()),())
 else
  (ziy t0).bind λr2=>
    (zds (t0,r2.1.1,[],())).bind λx24=>
      match x24 with
      | .inl l13=>
        ((
          (zq4 l13.2.1).bind λr19=>
            bif (!r19.1.1) then
             some (l13.2.1,true,())
            else
             (zq7 l13.2.1).bind λr20=>
               some (l13.2.1,(!(r20.1.1==l13.1)),()):Option ((PV zn×PV .bool×Unit)))).bind λj21=>
          bif j21.2.1 then
           some (([],1,false,()),())
          else
           some ((j21.1,0,true,()),())
      | .inr l22=>
        some ((l22.1,l22.2.1,l22.2.2.1,()),())
def z2s:Ct:=⟨[(.bor,.str)],[(zn,(.row (.pr .b (.pr .b (.pr .b (.pr (.row .b) .b)))))),((.int .i64),.b),(.bool,.b)],λx=>zmg x.1⟩
def qom:Cx:=⟨tab,arrs,[(79,znf),(81,zp2),(199,z8i),(200,z9g),(201,z9h)],[],gl,[]⟩
theorem qon:FnOk gl Tryz.prog 130 z2s:=
 fo qom qol 0 (oz ⟨zrg,zvh,qzd,q1v,q1y,trivial⟩ trivial) Tryz.func130 (by kernel_rfl) (by kernel_rfl) (by kernel_rfl)
  (ll 2 (by kernel_rfl) (lc z0z (by kernel_rfl) (λd=>by kernel_rfl) (lc z0m (by kernel_rfl) (λd=>by kernel_rfl) trivial))) (λx=>by kernel_rfl)
def qxh:List Out:=[⟨.normal,⟨[],[5],[]⟩,mkSh 54 [(5,.val .bool .b)]⟩]
def q4p:Plan:=⟨[(14,qxh)],[],0,0⟩
def zr4 (t0:PV (.int .i64))(t1:PV .str):Option (PVs [.bool]×PVs []):=
 ((
   bif (t0==1) then
    (zmi t1).bind λr10=>
      some (r10.1.2.2.1,())
   else
    bif (t0==2) then
     (zmc t1).bind λr12=>
       some (r12.1.2.2.1,())
    else
     bif (t0==3) then
      (zma t1).bind λr14=>
        some (r14.1.2.2.1,())
     else
      (zmg t1).bind λr16=>
        some (r16.1.2.2.1,()):Option ((PV .bool×Unit)))).bind λj17=>
   some ((j17.1,()),())
def qa1:Ct:=⟨[(.bor,(.int .i64)),(.bor,.str)],[(.bool,.b)],λx=>zr4 x.1 x.2.1⟩
def q4q:Cx:=⟨tab,arrs,[(33,z2r),(50,z1k),(62,z1j),(130,z2s)],[],gl,[]⟩
theorem q4r:FnOk gl Tryz.prog 65 qa1:=
 fo q4q q4p 0 (oz ⟨qoj,qmj,qmg,qon,trivial⟩ trivial) Tryz.func65 (by kernel_rfl) (by kernel_rfl) (by kernel_rfl)
  (ll 0 (by kernel_rfl) trivial) (λx=>by kernel_rfl)
def qxi:List Out:=[⟨.normal,⟨[],[0,4,5],[]⟩,mkSh 21 [(0,.val .str .b),(4,.val qm (.row .b)),(5,.val (.int .i64) .b)]⟩]
def qt0:List Sh:=mkSh 21 [(0,.val .str .b),(4,.val qm (.row .b)),(5,.val (.int .i64) .b)]
def qxj:List Out:=[⟨.exit 0,⟨[],[4],[]⟩,mkSh 21 [(4,.val qm (.row .b))]⟩]
def zii (t0:PV .str)(t4:PV qm)(t5:PV (.int .i64)):Option ((PV .str×PV qm×PV (.int .i64)×Unit)⊕((PV qm×Unit))):=
 bif (decide (t5<=4)) then
  ((
    (zr4 t5 t0).bind λr2=>
      bif r2.1.1 then
       bif qw (t4.length+[t5].length) then
        some (t0,(t4++[t5]),t5,())
       else
        none
      else
       some (t0,t4,t5,()):Option ((PV .str×PV qm×PV (.int .i64)×Unit)))).bind λj3=>
    some (.inl (j3.1,j3.2.1,(IntKind.wrap .i64 (j3.2.2.1+1)),()))
 else
  some (.inr (t4,()))
def zve:PV .str×PV qm×PV (.int .i64)×Unit->Option ((PV qm×Unit)):=fix λd=>zii d.1 d.2.1 d.2.2.1
def z5n:Lp:=⟨⟨[],[0,4,5],[]⟩,qt0,qxj,λd=>zii d.1 d.2.1 d.2.2.1⟩
def q2a:Plan:=⟨[(6,qxi)],[(5,z5n)],0,0⟩
def zrd (t0:PV .str):Option (PVs [qm,.bool]×PVs []):=
 bif (decide ((t0.length:Int)>3000)) then
  some (([],false,()),())
 else
  (zve (t0,[],1,())).bind λl5=>
    some ((l5.1,true,()),())
def z8g:Ct:=⟨[(.bor,.str)],[(qm,(.row .b)),(.bool,.b)],λx=>zrd x.1⟩
def q2b:Cx:=⟨tab,arrs,[(65,qa1)],[],gl,[]⟩
theorem qy6:FnOk gl Tryz.prog 20 z8g:=
 fo q2b q2a 0 (oz ⟨q4r,trivial⟩ trivial) Tryz.func20 (by kernel_rfl) (by kernel_rfl) (by kernel_rfl)
  (ll 1 (by kernel_rfl) (lc z5n (by kernel_rfl) (λd=>by kernel_rfl) trivial)) (λx=>by kernel_rfl)
def qit:Plan:=⟨[],[],0,0⟩
def zo8 (t0:PV .str)(t1:PV .str):Option (PVs [zf]×PVs []):=
 (zue t0 t1 (t1.length:Int) (-1)).bind λr1=>
   some ((r1.1.1,()),())
def zzs:Ct:=⟨[(.bor,.str),(.bor,.str)],[(zf,.b)],λx=>zo8 x.1 x.2.1⟩
def qiu:Cx:=⟨tab,arrs,[(215,z0c)],[],gl,[]⟩
theorem qiv:FnOk gl Tryz.prog 145 zzs:=
 fo qiu qit 0 (oz ⟨qjr,trivial⟩ trivial) Tryz.func145 (by kernel_rfl) (by kernel_rfl) (by kernel_rfl)
  (ll 0 (by kernel_rfl) trivial) (λx=>by kernel_rfl)
def qt1:List Out:=[⟨.normal,⟨[],[3],[]⟩,mkSh 21 [(3,.val zf .b)]⟩]
def qxk:Plan:=⟨[(7,qt1)],[],0,0⟩
def zin (t0:PV .str):Option (PVs [zf]×PVs []):=
 bif (t0==[]) then
  some (([],()),())
 else
  (zo8 t0 [10]).bind λr2=>
    ((
      bif inB (IntKind.wrap .i64 ((r2.1.1.length:Int) -1)) r2.1.1.length then
       bif ((r2.1.1.getD ((IntKind.wrap .i64 ((r2.1.1.length:Int) -1)).toNat) [])==[]) then
        bif cutB 0 (IntKind.wrap .i64 ((r2.1.1.length:Int) -1)) r2.1.1.length then
         some ((cutL 0 (IntKind.wrap .i64 ((r2.1.1.length:Int) -1)) r2.1.1),())
        else
         none
       else
        some (r2.1.1,())
      else
       none:Option ((PV zf×Unit)))).bind λj3=>
      some ((j3.1,()),())
def zmu:Ct:=⟨[(.bor,.str)],[(zf,.b)],λx=>zin x.1⟩
def qxl:Cx:=⟨tab,arrs,[(145,zzs)],[],gl,[]⟩
theorem zpx:FnOk gl Tryz.prog 75 zmu:=
 fo qxl qxk 0 (oz ⟨qiv,trivial⟩ trivial) Tryz.func75 (by kernel_rfl) (by kernel_rfl) (by kernel_rfl)
  (ll 0 (by kernel_rfl) trivial) (λx=>by kernel_rfl)
def qhm:Plan:=⟨[],[],0,0⟩
def zhk (t0:PV .str)(t1:PV .str):Option (PVs [.bool]×PVs []):=
 bif (decide ((t0.length:Int)>=(t1.length:Int))) then
  bif cutB (IntKind.wrap .i64 ((t0.length:Int) -(t1.length:Int))) (t0.length:Int) t0.length then
   some ((((cutL (IntKind.wrap .i64 ((t0.length:Int) -(t1.length:Int))) (t0.length:Int) t0)==t1),()),())
  else
   none
 else
  some ((false,()),())
def zo5:Ct:=⟨[(.bor,.str),(.bor,.str)],[(.bool,.b)],λx=>zhk x.1 x.2.1⟩
def qhn:Cx:=⟨tab,arrs,[],[],gl,[]⟩
theorem ztz:FnOk gl Tryz.prog 265 zo5:=
 fo qhn qhm 0 (oz trivial trivial) Tryz.func265 (by kernel_rfl) (by kernel_rfl) (by kernel_rfl)
  (ll 0 (by kernel_rfl) trivial) (λx=>by kernel_rfl)
def qhf:Plan:=⟨[],[],0,0⟩
def ztx (t0:PV .str)(t1:PV .str):Option (PVs [.str]×PVs []):=
 (zhk t0 t1).bind λr4=>
   bif r4.1.1 then
    bif cutB 0 (IntKind.wrap .i64 ((t0.length:Int) -(t1.length:Int))) t0.length then
     some (((cutL 0 (IntKind.wrap .i64 ((t0.length:Int) -(t1.length:Int))) t0),()),())
    else
     none
   else
    some ((t0,()),())
def zze:Ct:=⟨[(.bor,.str),(.bor,.str)],[(.str,.b)],λx=>ztx x.1 x.2.1⟩
def qhg:Cx:=⟨tab,arrs,[(265,zo5)],[],gl,[]⟩
theorem qhh:FnOk gl Tryz.prog 249 zze:=
 fo qhg qhf 0 (oz ⟨ztz,trivial⟩ trivial) Tryz.func249 (by kernel_rfl) (by kernel_rfl) (by kernel_rfl)
  (ll 0 (by kernel_rfl) trivial) (λx=>by kernel_rfl)
def qiw:Plan:=⟨[],[],0,0⟩
def zt5 (t0:PV .str)(t1:PV .str):Option (PVs [.str]×PVs []):=
 (ztx t0 t1).bind λr1=>
   some ((r1.1.1,()),())
def zzt:Ct:=⟨[(.bor,.str),(.bor,.str)],[(.str,.b)],λx=>zt5 x.1 x.2.1⟩
def qix:Cx:=⟨tab,arrs,[(249,zze)],[],gl,[]⟩
theorem qiy:FnOk gl Tryz.prog 206 zzt:=
 fo qix qiw 0 (oz ⟨qhh,trivial⟩ trivial) Tryz.func206 (by kernel_rfl) (by kernel_rfl) (by kernel_rfl)
  (ll 0 (by kernel_rfl) trivial) (λx=>by kernel_rfl)
def q4s:Plan:=⟨[],[],0,0⟩
def zf0 (t0:PV .str):Option (PVs [.str]×PVs []):=
 (zt5 t0 [10]).bind λr1=>
   some ((r1.1.1,()),())
def zkm:Ct:=⟨[(.bor,.str)],[(.str,.b)],λx=>zf0 x.1⟩
def q4t:Cx:=⟨tab,arrs,[(206,zzt)],[],gl,[]⟩
theorem znd:FnOk gl Tryz.prog 141 zkm:=
 fo q4t q4s 0 (oz ⟨qiy,trivial⟩ trivial) Tryz.func141 (by kernel_rfl) (by kernel_rfl) (by kernel_rfl)
  (ll 0 (by kernel_rfl) trivial) (λx=>by kernel_rfl)
def qhy:Plan:=⟨[],[],0,0⟩
def zo7 (t0:PV .str)(t1:PV .str):Option (PVs [.str,.str,.bool]×PVs []):=
 (zgc t0 t1).bind λr4=>
   bif (decide (r4.1.1>=0)) then
    bif cutB 0 r4.1.1 t0.length then
     bif cutB (IntKind.wrap .i64 (r4.1.1+(t1.length:Int))) (t0.length:Int) t0.length then
      some (((cutL 0 r4.1.1 t0),(cutL (IntKind.wrap .i64 (r4.1.1+(t1.length:Int))) (t0.length:Int) t0),true,()),())
     else
      none
    else
     none
   else
    some ((t0,[],false,()),())
def zzk:Ct:=⟨[(.bor,.str),(.bor,.str)],[(.str,.b),(.str,.b),(.bool,.b)],λx=>zo7 x.1 x.2.1⟩
def qhz:Cx:=⟨tab,arrs,[(277,zzj)],[],gl,[]⟩
theorem qh0:FnOk gl Tryz.prog 253 zzk:=
 fo qhz qhy 0 (oz ⟨qhx,trivial⟩ trivial) Tryz.func253 (by kernel_rfl) (by kernel_rfl) (by kernel_rfl)
  (ll 0 (by kernel_rfl) trivial) (λx=>by kernel_rfl)
def qqk:Plan:=⟨[],[],0,0⟩
def zdu (t0:PV .str)(t1:PV .str):Option (PVs [.str,.str,.bool]×PVs []):=
 (zo7 t0 t1).bind λr1=>
   some ((r1.1.1,r1.1.2.1,r1.1.2.2.1,()),())
def zuq:Ct:=⟨[(.bor,.str),(.bor,.str)],[(.str,.b),(.str,.b),(.bool,.b)],λx=>zdu x.1 x.2.1⟩
def qql:Cx:=⟨tab,arrs,[(253,zzk)],[],gl,[]⟩
theorem z3u:FnOk gl Tryz.prog 211 zuq:=
 fo qql qqk 0 (oz ⟨qh0,trivial⟩ trivial) Tryz.func211 (by kernel_rfl) (by kernel_rfl) (by kernel_rfl)
  (ll 0 (by kernel_rfl) trivial) (λx=>by kernel_rfl)
def qxm:Plan:=⟨[],[],0,0⟩
def zef (t0:PV .str):Option (PVs [(.int .i64),(.int .i64),.bool,.bool]×PVs []):=
 (zdu t0 [44]).bind λr2=>
   (zme r2.1.1).bind λr4=>
     bif (!r2.1.2.2.1) then
      some ((r4.1.1,r4.1.1,false,r4.1.2.1,()),())
     else
      (zme r2.1.2.1).bind λr6=>
        bif r4.1.2.1 then
         some ((r4.1.1,r6.1.1,true,r6.1.2.1,()),())
        else
         some ((r4.1.1,r6.1.1,true,false,()),())
def zmv:Ct:=⟨[(.bor,.str)],[((.int .i64),.b),((.int .i64),.b),(.bool,.b),(.bool,.b)],λx=>zef x.1⟩
def qxn:Cx:=⟨tab,arrs,[(211,zuq),(212,z2p)],[],gl,[]⟩
theorem zpy:FnOk gl Tryz.prog 143 zmv:=
 fo qxn qxm 0 (oz ⟨z3u,qod,trivial⟩ trivial) Tryz.func143 (by kernel_rfl) (by kernel_rfl) (by kernel_rfl)
  (ll 0 (by kernel_rfl) trivial) (λx=>by kernel_rfl)
def qho:Plan:=⟨[],[],0,0⟩
def zgb (t0:PV .str)(t1:PV .str):Option (PVs [.bool]×PVs []):=
 bif (decide ((t0.length:Int)>=(t1.length:Int))) then
  bif cutB 0 (t1.length:Int) t0.length then
   some ((((cutL 0 (t1.length:Int) t0)==t1),()),())
  else
   none
 else
  some ((false,()),())
def zo6:Ct:=⟨[(.bor,.str),(.bor,.str)],[(.bool,.b)],λx=>zgb x.1 x.2.1⟩
def qhp:Cx:=⟨tab,arrs,[],[],gl,[]⟩
theorem zt0:FnOk gl Tryz.prog 255 zo6:=
 fo qhp qho 0 (oz trivial trivial) Tryz.func255 (by kernel_rfl) (by kernel_rfl) (by kernel_rfl)
  (ll 0 (by kernel_rfl) trivial) (λx=>by kernel_rfl)
def qi6:Plan:=⟨[],[],0,0⟩
def zpb (t0:PV .str)(t1:PV .str):Option (PVs [.bool]×PVs []):=
 (zgb t0 t1).bind λr1=>
   some ((r1.1.1,()),())
def zzy:Ct:=⟨[(.bor,.str),(.bor,.str)],[(.bool,.b)],λx=>zpb x.1 x.2.1⟩
def qi7:Cx:=⟨tab,arrs,[(255,zo6)],[],gl,[]⟩
theorem qi8:FnOk gl Tryz.prog 213 zzy:=
 fo qi7 qi6 0 (oz ⟨zt0,trivial⟩ trivial) Tryz.func213 (by kernel_rfl) (by kernel_rfl) (by kernel_rfl)
  (ll 0 (by kernel_rfl) trivial) (λx=>by kernel_rfl)
def qhi:Plan:=⟨[],[],0,0⟩
def zty (t0:PV .str)(t1:PV .str):Option (PVs [.str]×PVs []):=
 (zgb t0 t1).bind λr4=>
   bif r4.1.1 then
    bif cutB (t1.length:Int) (t0.length:Int) t0.length then
     some (((cutL (t1.length:Int) (t0.length:Int) t0),()),())
    else
     none
   else
    some ((t0,()),())
def zzf:Ct:=⟨[(.bor,.str),(.bor,.str)],[(.str,.b)],λx=>zty x.1 x.2.1⟩
def qhj:Cx:=⟨tab,arrs,[(255,zo6)],[],gl,[]⟩
theorem qhk:FnOk gl Tryz.prog 256 zzf:=
 fo qhj qhi 0 (oz ⟨zt0,trivial⟩ trivial) Tryz.func256 (by kernel_rfl) (by kernel_rfl) (by kernel_rfl)
  (ll 0 (by kernel_rfl) trivial) (λx=>by kernel_rfl)
def qiz:Plan:=⟨[],[],0,0⟩
def zo9 (t0:PV .str)(t1:PV .str):Option (PVs [.str]×PVs []):=
 (zty t0 t1).bind λr1=>
   some ((r1.1.1,()),())
def zzu:Ct:=⟨[(.bor,.str),(.bor,.str)],[(.str,.b)],λx=>zo9 x.1 x.2.1⟩
def qi0:Cx:=⟨tab,arrs,[(256,zzf)],[],gl,[]⟩
theorem qi1:FnOk gl Tryz.prog 214 zzu:=
 fo qi0 qiz 0 (oz ⟨qhk,trivial⟩ trivial) Tryz.func214 (by kernel_rfl) (by kernel_rfl) (by kernel_rfl)
  (ll 0 (by kernel_rfl) trivial) (λx=>by kernel_rfl)
end
end R
