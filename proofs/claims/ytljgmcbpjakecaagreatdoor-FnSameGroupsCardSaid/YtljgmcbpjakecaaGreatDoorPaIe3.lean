/- The functions, part 3. -/
import Derived.Test.YtljgmcbpjakecaaGreatDoorPaIe2
set_option linter.unusedVariables false
open Go Go.Dn Go.Proofs
namespace R
set_option maxRecDepth 20000
open Go.Shelf
noncomputable section
def qy0:List Out:=[⟨.normal,⟨[],[3,7,8,9],[]⟩,mkSh 23 [(3,.val zf (.row .b)),(7,.val zi .b),(8,.val (.int .i64) .b),(9,.val (.int .i64) .b)]⟩]
def qvk:List Sh:=mkSh 23 [(3,.val zf (.row .b)),(7,.val zi .b),(8,.val (.int .i64) .b),(9,.val (.int .i64) .b)]
def qy1:List Out:=[⟨.exit 0,⟨[],[3],[]⟩,mkSh 23 [(3,.val zf (.row .b))]⟩]
def zh5 (t3:PV zf)(t7:PV zi)(t8:PV (.int .i64))(t9:PV (.int .i64)):Option ((PV zf×PV zi×PV (.int .i64)×PV (.int .i64)×Unit)⊕((PV zf×Unit))):=
 bif (decide (t9<t8)) then
  ((
    bif inB t9 t7.length then
     bif (!(((t7.getD t9.toNat (dflt zo)).1)==2)) then
      bif qm (t3.length+[((t7.getD t9.toNat (dflt zo)).2).1].length) then
       some ((t3++[((t7.getD t9.toNat (dflt zo)).2).1]),t7,t8,t9,())
      else
       none
     else
      some (t3,t7,t8,t9,())
    else
     none:Option ((PV zf×PV zi×PV (.int .i64)×PV (.int .i64)×Unit)))).bind λj1=>
    some (.inl (j1.1,j1.2.1,j1.2.2.1,(IntKind.wrap .i64 (j1.2.2.2.1+1)),()))
 else
  some (.inr (t3,()))
def z6w:PV zf×PV zi×PV (.int .i64)×PV (.int .i64)×Unit->Option ((PV zf×Unit)):=fix λd=>zh5 d.1 d.2.1 d.2.2.1 d.2.2.2.1
def z5e:Lp:=⟨⟨[],[3,7,8,9],[]⟩,qvk,qy1,λd=>zh5 d.1 d.2.1 d.2.2.1 d.2.2.2.1⟩
def q1e:Plan:=⟨[(7,qy0)],[(3,z5e)],0,0⟩
def zdy (t0:PV zh):Option (PVs [zf]×PVs []):=
 (z6w ([],t0.2.2.1,(t0.2.2.1.length:Int),0,())).bind λl3=>
   some ((l3.1,()),())
def zjv:Ct:=⟨[(.bor,zh)],[(zf,(.row .b))],λx=>zdy x.1⟩
def q1f:Cx:=⟨tab,arrs,[],[],gl,[]⟩
theorem zme:FnOk gl Tryz.prog 164 zjv:=
 fo q1f q1e 0 (oz trivial trivial) Tryz.func164 (by kernel_rfl) (by kernel_rfl) (by kernel_rfl)
  (ll 1 (by kernel_rfl) (lc z5e (by kernel_rfl) (λd=>by kernel_rfl) trivial)) (λx=>by kernel_rfl)
def qsd:List Out:=[⟨.normal,⟨[],[0,5,6,7,26],[]⟩,mkSh 31 [(0,.val zf .b),(5,.val zf .b),(6,.val (.int .i64) .b),(7,.val (.int .i64) .b),(26,.val .bool .b)]⟩]
def qps:List Sh:=mkSh 31 [(0,.val zf .b),(5,.val zf .b),(6,.val (.int .i64) .b),(7,.val (.int .i64) .b)]
def qse:List Out:=[⟨.exit 0,⟨[],[0],[]⟩,mkSh 31 [(0,.val zf .b)]⟩,⟨.ret,⟨[],[2],[]⟩,mkSh 31 [(2,.val .bool .b)]⟩]
def zeu (t0:PV zf)(t5:PV zf)(t6:PV (.int .i64))(t7:PV (.int .i64)):Option ((PV zf×PV zf×PV (.int .i64)×PV (.int .i64)×Unit)⊕((PV zf×Unit)⊕(PV .bool×Unit))):=
 bif (decide (t7<t6)) then
  bif inB t7 t5.length then
   ((
     (ze6 (t5.getD t7.toNat [])).bind λr4=>
       bif (!r4.1.1) then
        some (t0,t5,t6,t7,true,())
       else
        bif (decide (t7<(IntKind.wrap .i64 ((t0.length:Int) -1)))) then
         (zda (t5.getD t7.toNat [])).bind λr5=>
           some (t0,t5,t6,t7,(!r5.1.1),())
        else
         some (t0,t5,t6,t7,false,()):Option ((PV zf×PV zf×PV (.int .i64)×PV (.int .i64)×PV .bool×Unit)))).bind λj6=>
     bif j6.2.2.2.2.1 then
      some (.inr (.inr (false,())))
     else
      some (.inl (j6.1,j6.2.1,j6.2.2.1,(IntKind.wrap .i64 (j6.2.2.2.1+1)),()))
  else
   none
 else
  some (.inr (.inl (t0,())))
def z3h:PV zf×PV zf×PV (.int .i64)×PV (.int .i64)×Unit->Option ((PV zf×Unit)⊕(PV .bool×Unit)):=fix λd=>zeu d.1 d.2.1 d.2.2.1 d.2.2.2.1
def z1u:Lp:=⟨⟨[],[0,5,6,7,16,17,18,19,20,21,22,23,24,25],[]⟩,qps,qse,λd=>zeu d.1 d.2.1 d.2.2.1 d.2.2.2.1⟩
def qvl:Plan:=⟨[(5,qsd)],[(2,z1u)],0,0⟩
def zl4 (t0:PV zf):Option (PVs [.bool]×PVs []):=
 (z3h (t0,t0,(t0.length:Int),0,())).bind λx11=>
   match x11 with
   | .inl l9=>
     some (((decide ((l9.1.length:Int)<=40)),()),())
   | .inr l10=>
     some ((l10.1,()),())
def z5f:Ct:=⟨[(.bor,zf)],[(.bool,.b)],λx=>zl4 x.1⟩
def qvm:Cx:=⟨tab,arrs,[(128,zhz),(183,zl3)],[],gl,[]⟩
theorem qvn:FnOk gl Tryz.prog 184 z5f:=
 fo qvm qvl 0 (oz ⟨zjo,zo8,trivial⟩ trivial) Tryz.func184 (by kernel_rfl) (by kernel_rfl) (by kernel_rfl)
  (ll 1 (by kernel_rfl) (lc z1u (by kernel_rfl) (λd=>by kernel_rfl) trivial)) (λx=>by kernel_rfl)
def qsf:List Out:=[⟨.normal,⟨[],[1,3,5,7,8,9,42,45,46,47,52,53,54,57,58,59,62,63,64,65,66,67,68,71,72,73,74,75,76,77,80,81,82,83,86,87,88,91,92,93],[]⟩,mkSh 95 [(1,.var zh .b),(3,.val .bool .b),(5,.var zo .b),(7,.val zi .b),(8,.val (.int .i64) .b),(9,.val (.int .i64) .b),(42,.val .bool .b)]⟩]
def qsg:List Out:=[⟨.normal,⟨[],[1,3,5,7,8,9,19,20,21,22,25,26,27,28,29,30,31,32,33,34,35,36,37,38,39,40,41,52,53,54,57,58,59,62,63,64,65,66,67,68,71,72,73,74,75,76,77,80,81,82,83,86,87,88,91,92,93],[]⟩,mkSh 95 [(1,.var zh .b),(3,.val .bool .b),(5,.var zo .b),(7,.val zi .b),(8,.val (.int .i64) .b),(9,.val (.int .i64) .b)]⟩,⟨.ret,⟨[],[2],[]⟩,mkSh 95 [(2,.val .bool .b)]⟩]
def qpt:List Sh:=mkSh 95 [(1,.var zh .b),(3,.val .bool .b),(7,.val zi .b),(8,.val (.int .i64) .b),(9,.val (.int .i64) .b)]
def qsh:List Out:=[⟨.exit 0,⟨[],[1,3,52,53,54,57,58,59,62,63,64,65,66,67,68,71,72,73,74,75,76,77,80,81,82,83,86,87,88,91,92,93],[]⟩,mkSh 95 [(1,.var zh .b),(3,.val .bool .b)]⟩,⟨.ret,⟨[],[2],[]⟩,mkSh 95 [(2,.val .bool .b)]⟩]
def zev (t1:PV zh)(t3:PV .bool)(t7:PV zi)(t8:PV (.int .i64))(t9:PV (.int .i64)):Option ((PV zh×PV .bool×PV zi×PV (.int .i64)×PV (.int .i64)×Unit)⊕((PV zh×PV .bool×Unit)⊕(PV .bool×Unit))):=
 bif (decide (t9<t8)) then
  ((
    bif inB t9 t7.length then
     ((
       (zck ((t7.getD t9.toNat (dflt zo)).1) 1 3).bind λr4=>
         bif (!r4.1.1) then
          some (t1,t3,(t7.getD t9.toNat (dflt zo)),t7,t8,t9,true,())
         else
          (ze6 (((t7.getD t9.toNat (dflt zo)).2).1)).bind λr5=>
            bif (!r5.1.1) then
             some (t1,t3,(t7.getD t9.toNat (dflt zo)),t7,t8,t9,true,())
            else
             bif (decide (t9>0)) then
              bif (((t7.getD t9.toNat (dflt zo)).1)==2) then
               bif inB (IntKind.wrap .i64 (t9 -1)) t1.2.2.1.length then
                some (t1,t3,(t7.getD t9.toNat (dflt zo)),t7,t8,t9,(((t1.2.2.1.getD ((IntKind.wrap .i64 (t9 -1)).toNat) (dflt zo)).1)==3),())
               else
                none
              else
               some (t1,t3,(t7.getD t9.toNat (dflt zo)),t7,t8,t9,false,())
             else
              some (t1,t3,(t7.getD t9.toNat (dflt zo)),t7,t8,t9,false,()):Option ((PV zh×PV .bool×PV zo×PV zi×PV (.int .i64)×PV (.int .i64)×PV .bool×Unit)))).bind λj6=>
       bif j6.2.2.2.2.2.2.1 then
        some (.inr (false,()))
       else
        bif j6.2.1 then
         some (.inl (j6.1,true,j6.2.2.1,j6.2.2.2.1,j6.2.2.2.2.1,j6.2.2.2.2.2.1,()))
        else
         some (.inl (j6.1,(!(j6.2.2.1.1==1)),j6.2.2.1,j6.2.2.2.1,j6.2.2.2.2.1,j6.2.2.2.2.2.1,()))
    else
     none:Option ((PV zh×PV .bool×PV zo×PV zi×PV (.int .i64)×PV (.int .i64)×Unit)⊕(PV .bool×Unit)))).bind λx21=>
    match x21 with
    | .inl j7=>
      some (.inl (j7.1,j7.2.1,j7.2.2.2.1,j7.2.2.2.2.1,(IntKind.wrap .i64 (j7.2.2.2.2.2.1+1)),()))
    | .inr j8=>
      some (.inr (.inr (j8.1,())))
 else
  some (.inr (.inl (t1,t3,())))
def z3i:PV zh×PV .bool×PV zi×PV (.int .i64)×PV (.int .i64)×Unit->Option ((PV zh×PV .bool×Unit)⊕(PV .bool×Unit)):=fix λd=>zev d.1 d.2.1 d.2.2.1 d.2.2.2.1 d.2.2.2.2.1
def z1v:Lp:=⟨⟨[],[1,3,7,8,9,19,20,21,22,25,26,27,28,29,30,31,32,33,34,35,36,37,38,39,40,41,45,46,47,52,53,54,57,58,59,62,63,64,65,66,67,68,71,72,73,74,75,76,77,80,81,82,83,86,87,88,91,92,93],[]⟩,qpt,qsh,λd=>zev d.1 d.2.1 d.2.2.1 d.2.2.2.1 d.2.2.2.2.1⟩
def qvo:Plan:=⟨[(6,qsf),(8,qsg)],[(3,z1v)],0,0⟩
def zpb (t0:PV zh):Option (PVs [.bool]×PVs []):=
 (z3i (t0,false,t0.2.2.1,(t0.2.2.1.length:Int),0,())).bind λx22=>
   match x22 with
   | .inl l11=>
     bif l11.2.1 then
      (zck l11.1.1 0 999).bind λr12=>
        bif r12.1.1 then
         (zck l11.1.2.1 0 999).bind λr13=>
           bif r13.1.1 then
            (ze9 l11.1).bind λr14=>
              bif (decide ((IntKind.wrap .i64 (l11.1.1+(r14.1.1.length:Int)))<=1000)) then
               (zdy l11.1).bind λr15=>
                 bif (decide ((IntKind.wrap .i64 (l11.1.2.1+(r15.1.1.length:Int)))<=1000)) then
                  bif (decide ((l11.1.2.2.1.length:Int)<=80)) then
                   (ze9 l11.1).bind λr16=>
                     (zl4 r16.1.1).bind λr17=>
                       bif r17.1.1 then
                        (zdy l11.1).bind λr18=>
                          (zl4 r18.1.1).bind λr19=>
                            some ((r19.1.1,()),())
                       else
                        some ((false,()),())
                  else
                   some ((false,()),())
                 else
                  some ((false,()),())
              else
               some ((false,()),())
           else
            some ((false,()),())
        else
         some ((false,()),())
     else
      some ((false,()),())
   | .inr l20=>
     some ((l20.1,()),())
def z5g:Ct:=⟨[(.bor,zh)],[(.bool,.b)],λx=>zpb x.1⟩
def qvp:Cx:=⟨tab,arrs,[(114,zif),(163,zju),(164,zjv),(183,zl3),(184,z5f)],[],gl,[]⟩
theorem qvq:FnOk gl Tryz.prog 108 z5g:=
 fo qvp qvo 0 (oz ⟨zj5,zmd,zme,zo8,qvn,trivial⟩ trivial) Tryz.func108 (by kernel_rfl) (by kernel_rfl) (by kernel_rfl)
  (ll 1 (by kernel_rfl) (lc z1v (by kernel_rfl) (λd=>by kernel_rfl) trivial)) (λx=>by kernel_rfl)
def qvr:List Out:=[⟨.normal,⟨[],[0,4,5,6,7,54],[]⟩,mkSh 59 [(0,.val zk .b),(4,.var zh .b),(5,.val zk .b),(6,.val (.int .i64) .b),(7,.val (.int .i64) .b),(54,.val .bool .b)]⟩]
def qsi:List Sh:=mkSh 59 [(0,.val zk .b),(5,.val zk .b),(6,.val (.int .i64) .b),(7,.val (.int .i64) .b)]
def qvs:List Out:=[⟨.exit 0,⟨[],[0],[]⟩,mkSh 59 [(0,.val zk .b)]⟩,⟨.ret,⟨[],[2],[]⟩,mkSh 59 [(2,.val .bool .b)]⟩]
def ze0 (t0:PV zk)(t5:PV zk)(t6:PV (.int .i64))(t7:PV (.int .i64)):Option ((PV zk×PV zk×PV (.int .i64)×PV (.int .i64)×Unit)⊕((PV zk×Unit)⊕(PV .bool×Unit))):=
 bif (decide (t7<t6)) then
  bif inB t7 t5.length then
   (zpb (t5.getD t7.toNat (dflt zh))).bind λr11=>
     bif (!r11.1.1) then
      some (.inr (.inr (false,())))
     else
      ((
        bif (decide (t7>0)) then
         bif inB (IntKind.wrap .i64 (t7 -1)) t0.length then
          bif inB (IntKind.wrap .i64 (t7 -1)) t0.length then
           (ze9 (t0.getD ((IntKind.wrap .i64 (t7 -1)).toNat) (dflt zh))).bind λr12=>
             bif (decide (((t5.getD t7.toNat (dflt zh)).1)<(IntKind.wrap .i64 (((t0.getD ((IntKind.wrap .i64 (t7 -1)).toNat) (dflt zh)).1)+(r12.1.1.length:Int))))) then
              some (t0,(t5.getD t7.toNat (dflt zh)),t5,t6,t7,true,())
             else
              bif inB (IntKind.wrap .i64 (t7 -1)) t0.length then
               bif inB (IntKind.wrap .i64 (t7 -1)) t0.length then
                (zdy (t0.getD ((IntKind.wrap .i64 (t7 -1)).toNat) (dflt zh))).bind λr13=>
                  some (t0,(t5.getD t7.toNat (dflt zh)),t5,t6,t7,(decide ((((t5.getD t7.toNat (dflt zh)).2).1)<(IntKind.wrap .i64 ((((t0.getD ((IntKind.wrap .i64 (t7 -1)).toNat) (dflt zh)).2).1)+(r13.1.1.length:Int))))),())
               else
                none
              else
               none
          else
           none
         else
          none
        else
         some (t0,(t5.getD t7.toNat (dflt zh)),t5,t6,t7,false,()):Option ((PV zk×PV zh×PV zk×PV (.int .i64)×PV (.int .i64)×PV .bool×Unit)))).bind λj14=>
        bif j14.2.2.2.2.2.1 then
         some (.inr (.inr (false,())))
        else
         some (.inl (j14.1,j14.2.2.1,j14.2.2.2.1,(IntKind.wrap .i64 (j14.2.2.2.2.1+1)),()))
  else
   none
 else
  some (.inr (.inl (t0,())))
def z5h:PV zk×PV zk×PV (.int .i64)×PV (.int .i64)×Unit->Option ((PV zk×Unit)⊕(PV .bool×Unit)):=fix λd=>ze0 d.1 d.2.1 d.2.2.1 d.2.2.2.1
def z3j:Lp:=⟨⟨[],[0,5,6,7,18,19,20,21,22,23,24,25,26,27,28,29,30,31,32,33,34,35,36,37,38,39,40,41,42,43,44,45,46,47,48,49,50,51,52,53],[]⟩,qsi,qvs,λd=>ze0 d.1 d.2.1 d.2.2.1 d.2.2.2.1⟩
def qy2:Plan:=⟨[(7,qvr)],[(2,z3j)],0,0⟩
def zh9 (t0:PV zk):Option (PVs [.bool]×PVs []):=
 (z5h (t0,t0,(t0.length:Int),0,())).bind λx19=>
   match x19 with
   | .inl l17=>
     some (((decide ((l17.1.length:Int)<=20)),()),())
   | .inr l18=>
     some ((l18.1,()),())
def zl1:Ct:=⟨[(.bor,zk)],[(.bool,.b)],λx=>zh9 x.1⟩
def qy3:Cx:=⟨tab,arrs,[(108,z5g),(163,zju),(164,zjv)],[],gl,[]⟩
theorem zo4:FnOk gl Tryz.prog 95 zl1:=
 fo qy3 qy2 0 (oz ⟨qvq,zmd,zme,trivial⟩ trivial) Tryz.func95 (by kernel_rfl) (by kernel_rfl) (by kernel_rfl)
  (ll 1 (by kernel_rfl) (lc z3j (by kernel_rfl) (λd=>by kernel_rfl) trivial)) (λx=>by kernel_rfl)
def qsj:Plan:=⟨[],[],0,0⟩
def zlu (t0:PV (.int .i64))(t1:PV (.int .i64)):Option (PVs [(.int .i64)]×PVs []):=
 bif (decide (t1>0)) then
  some (((IntKind.wrap .i64 (t0+1)),()),())
 else
  some ((t0,()),())
def zsv:Ct:=⟨[(.bor,(.int .i64)),(.bor,(.int .i64))],[((.int .i64),.b)],λx=>zlu x.1 x.2.1⟩
def qsk:Cx:=⟨tab,arrs,[],[],gl,[]⟩
theorem z2j:FnOk gl Tryz.prog 197 zsv:=
 fo qsk qsj 0 (oz trivial trivial) Tryz.func197 (by kernel_rfl) (by kernel_rfl) (by kernel_rfl)
  (ll 0 (by kernel_rfl) trivial) (λx=>by kernel_rfl)
def zpn (ih:PV (.int .i64)->Option (PVs [.str]×PVs []))(t0:PV (.int .i64)):Option (PVs [.str]×PVs []):=
 bif (decide (t0<10)) then
  some (((zdu [(IntKind.wrap .u8 (IntKind.wrap .i64 (48+t0)))]),()),())
 else
  bif 10==0 then
   none
  else
   (ih (IntKind.wrap .i64 (t0.tdiv 10))).bind λr1=>
     bif 10==0 then
      none
     else
      bif decide (r1.1.1.length+(zdu [(IntKind.wrap .u8 (IntKind.wrap .i64 (48+(t0.tmod 10))))]).length<=1099511627776) then
       some (((r1.1.1++(zdu [(IntKind.wrap .u8 (IntKind.wrap .i64 (48+(t0.tmod 10))))])),()),())
      else
       none
def zjy:Nat->PV (.int .i64)->Option (PVs [.str]×PVs []):=λn=>Nat.rec (motive:=λ_=>PV (.int .i64)->Option (PVs [.str]×PVs [])) (λ_=>none) (λ_ ih=>zpn ih) n
def zie (t0:PV (.int .i64)):Option (PVs [.str]×PVs []):=zjy (t0.toNat+1) t0
def zuf:Ct:=⟨[(.bor,(.int .i64))],[(.str,.b)],λx=>zie x.1⟩
def zt4 (n:Nat):Ct:=⟨[(.bor,(.int .i64))],[(.str,.b)],λx=>zjy n x.1⟩
def z6x (n:Nat):Cx:=⟨tab,arrs,[(196,zt4 n)],[],gl,[]⟩
def z8l:Plan:=⟨[],[],0,0⟩
theorem qy4 (n:Nat)(t0:PV (.int .i64)):denF (z6x n) 0 z8l Tryz.f196.ntmps (zcq Tryz.f196) Tryz.f196.results.toList [(.bor,(.int .i64))] [(.str,.b)] (t0,())=zpn (zjy n) t0:=by kernel_rfl
theorem z6y:∀n,FnOk gl Tryz.prog 196 (zt4 n)
 |0=>q3j (by kernel_rfl)
 |n+1=>fnOk (cx:=z6x n) (pl:=z8l) (dp:=0) (ct:=zt4 (n+1)) (zw4 zrr (by unfold zbi;kernel_rfl) mix ⟨z6y n,trivial⟩ trivial) Tryz.func196 (by kernel_rfl) (by kernel_rfl) (by kernel_rfl)
  (ll 0 (by kernel_rfl) trivial) (λx=>qy4 n x.1)
theorem z8a:FnOk gl Tryz.prog 196 zuf:=q3i (pars:=[(.bor,(.int .i64))]) (rets:=[(.str,.b)]) (Fs:=λn x=>zjy n x.1) (N:=λx=>x.1.toNat+1) z6y
def qvt:List Out:=[⟨.normal,⟨[],[5],[]⟩,mkSh 20 [(5,.val .str .b)]⟩]
def qy5:Plan:=⟨[(4,qvt)],[],0,0⟩
def zjz (t0:PV (.int .i64))(t1:PV (.int .i64)):Option (PVs [.str]×PVs []):=
 (zlu t0 t1).bind λr3=>
   (zie r3.1.1).bind λr4=>
     ((
       bif (decide (t1>1)) then
        (zie (IntKind.wrap .i64 (t0+t1))).bind λr6=>
          bif decide ([44].length+r6.1.1.length<=1099511627776) then
           bif decide (r4.1.1.length+([44]++r6.1.1).length<=1099511627776) then
            some ((r4.1.1++([44]++r6.1.1)),())
           else
            none
          else
           none
       else
        some (r4.1.1,()):Option ((PV .str×Unit)))).bind λj7=>
       some ((j7.1,()),())
def z6z:Ct:=⟨[(.bor,(.int .i64)),(.bor,(.int .i64))],[(.str,.b)],λx=>zjz x.1 x.2.1⟩
def qy6:Cx:=⟨tab,arrs,[(196,zuf),(197,zsv)],[],gl,[]⟩
theorem qy7:FnOk gl Tryz.prog 168 z6z:=
 fo qy6 qy5 0 (oz ⟨z8a,z2j,trivial⟩ trivial) Tryz.func168 (by kernel_rfl) (by kernel_rfl) (by kernel_rfl)
  (ll 0 (by kernel_rfl) trivial) (λx=>by kernel_rfl)
def qsl:List Sh:=mkSh 19 [(1,.val (.int .i64) .b),(8,.val zi .b),(9,.val (.int .i64) .b),(10,.val (.int .i64) .b)]
def qvu:List Out:=[⟨.exit 0,⟨[],[],[]⟩,mkSh 19 []⟩,⟨.ret,⟨[],[4],[]⟩,mkSh 19 [(4,.val .bool .b)]⟩]
def ze1 (t1:PV (.int .i64))(t8:PV zi)(t9:PV (.int .i64))(t10:PV (.int .i64)):Option ((PV (.int .i64)×PV zi×PV (.int .i64)×PV (.int .i64)×Unit)⊕((Unit)⊕(PV .bool×Unit))):=
 bif (decide (t10<t9)) then
  bif inB t10 t8.length then
   bif (((t8.getD t10.toNat (dflt zo)).1)==t1) then
    some (.inr (.inr (true,())))
   else
    some (.inl (t1,t8,t9,(IntKind.wrap .i64 (t10+1)),()))
  else
   none
 else
  some (.inr (.inl ()))
def z5i:PV (.int .i64)×PV zi×PV (.int .i64)×PV (.int .i64)×Unit->Option ((Unit)⊕(PV .bool×Unit)):=fix λd=>ze1 d.1 d.2.1 d.2.2.1 d.2.2.2.1
def z3k:Lp:=⟨⟨[],[1,8,9,10],[]⟩,qsl,qvu,λd=>ze1 d.1 d.2.1 d.2.2.1 d.2.2.2.1⟩
def qy8:Plan:=⟨[],[(2,z3k)],0,0⟩
def zj0 (t0:PV zh)(t1:PV (.int .i64)):Option (PVs [.bool]×PVs []):=
 (z5i (t1,t0.2.2.1,(t0.2.2.1.length:Int),0,())).bind λx5=>
   match x5 with
   | .inl l3=>
     some ((false,()),())
   | .inr l4=>
     some ((l4.1,()),())
def z7a:Ct:=⟨[(.bor,zh),(.bor,(.int .i64))],[(.bool,.b)],λx=>zj0 x.1 x.2.1⟩
def qy9:Cx:=⟨tab,arrs,[],[],gl,[]⟩
theorem qza:FnOk gl Tryz.prog 169 z7a:=
 fo qy9 qy8 0 (oz trivial trivial) Tryz.func169 (by kernel_rfl) (by kernel_rfl) (by kernel_rfl)
  (ll 1 (by kernel_rfl) (lc z3k (by kernel_rfl) (λd=>by kernel_rfl) trivial)) (λx=>by kernel_rfl)
def qvv:List Out:=[⟨.normal,⟨[],[1,4,5,6,7,8,9,10,27,28,29,30,31,32,33,47,48,49,50,51,52,53],[]⟩,mkSh 77 [(1,.var zh .b),(4,.val (.int .i64) .b),(5,.val qj (.row .b)),(6,.val qj (.row .b)),(7,.val (.int .i64) .b),(8,.val (.int .i64) .b),(9,.val .bool .b),(10,.val .bool .b),(27,.addr ⟨1,[.r,.r,.l],0,0⟩),(28,.val zi .b),(29,.val (.int .i64) .b),(30,.bad zo),(31,.bad (.int .i64)),(32,.val (.int .i64) .b),(33,.val .bool .b)]⟩]
def qsm:List Out:=[⟨.normal,⟨[],[1,4,5,6,7,8,9,10,27,28,29,30,31,32,33,37,38,39,40,41,42,43],[]⟩,mkSh 77 [(1,.var zh .b),(4,.val (.int .i64) .b),(5,.val qj (.row .b)),(6,.val qj (.row .b)),(7,.val (.int .i64) .b),(8,.val (.int .i64) .b),(9,.val .bool .b),(10,.val .bool .b),(27,.addr ⟨1,[.r,.r,.l],0,0⟩),(28,.val zi .b),(29,.val (.int .i64) .b),(30,.bad zo),(31,.bad (.int .i64)),(32,.val (.int .i64) .b),(33,.val .bool .b)]⟩]
def qsn:List Sh:=mkSh 77 [(1,.var zh .b),(4,.val (.int .i64) .b),(5,.val qj (.row .b)),(6,.val qj (.row .b)),(7,.val (.int .i64) .b),(8,.val (.int .i64) .b),(9,.val .bool .b),(10,.val .bool .b)]
def qvw:List Out:=[⟨.exit 2,⟨[],[1,4,5,6,7,8,9,10,37,38,39,40,41,42,43,47,48,49,50,51,52,53],[]⟩,mkSh 77 [(1,.var zh .b),(4,.val (.int .i64) .b),(5,.val qj (.row .b)),(6,.val qj (.row .b)),(7,.val (.int .i64) .b),(8,.val (.int .i64) .b),(9,.val .bool .b),(10,.val .bool .b)]⟩]
def ze2 (t1:PV zh)(t4:PV (.int .i64))(t5:PV qj)(t6:PV qj)(t7:PV (.int .i64))(t8:PV (.int .i64))(t9:PV .bool)(t10:PV .bool):Option ((PV zh×PV (.int .i64)×PV qj×PV qj×PV (.int .i64)×PV (.int .i64)×PV .bool×PV .bool×Unit)⊕((PV zh×PV (.int .i64)×PV qj×PV qj×PV (.int .i64)×PV (.int .i64)×PV .bool×PV .bool×Unit))):=
 bif (decide (t8<t4)) then
  bif inB t8 t1.2.2.1.length then
   bif (!(((t1.2.2.1.getD t8.toNat (dflt zo)).1)==1)) then
    ((
      bif t9 then
       some (t1,t4,t5,t6,t7,t8,true,t10,t1.2.2.1,t8,(t1.2.2.1.getD t8.toNat (dflt zo)),(t1.2.2.1.getD t8.toNat (dflt zo)).1,(t1.2.2.1.getD t8.toNat (dflt zo)).1,(!(((t1.2.2.1.getD t8.toNat (dflt zo)).1)==1)),())
      else
       bif inB t8 t1.2.2.1.length then
        some (t1,t4,t5,t6,t7,t8,(((t1.2.2.1.getD t8.toNat (dflt zo)).1)==2),t10,t1.2.2.1,t8,(t1.2.2.1.getD t8.toNat (dflt zo)),(t1.2.2.1.getD t8.toNat (dflt zo)).1,(t1.2.2.1.getD t8.toNat (dflt zo)).1,(!(((t1.2.2.1.getD t8.toNat (dflt zo)).1)==1)),())
       else
        none:Option ((PV zh×PV (.int .i64)×PV qj×PV qj×PV (.int .i64)×PV (.int .i64)×PV .bool×PV .bool×PV zi×PV (.int .i64)×PV zo×PV (.int .i64)×PV (.int .i64)×PV .bool×Unit)))).bind λj3=>
      ((
        bif j3.2.2.2.2.2.2.2.1 then
         some (j3.1,j3.2.1,j3.2.2.1,j3.2.2.2.1,j3.2.2.2.2.1,j3.2.2.2.2.2.1,j3.2.2.2.2.2.2.1,true,j3.2.2.2.2.2.2.2.2.1,j3.2.2.2.2.2.2.2.2.2.1,j3.2.2.2.2.2.2.2.2.2.2.1,j3.2.2.2.2.2.2.2.2.2.2.2.1,j3.2.2.2.2.2.2.2.2.2.2.2.2.1,j3.2.2.2.2.2.2.2.2.2.2.2.2.2.1,())
        else
         bif inB j3.2.2.2.2.2.1 j3.1.2.2.1.length then
          some (j3.1,j3.2.1,j3.2.2.1,j3.2.2.2.1,j3.2.2.2.2.1,j3.2.2.2.2.2.1,j3.2.2.2.2.2.2.1,(((j3.1.2.2.1.getD j3.2.2.2.2.2.1.toNat (dflt zo)).1)==3),j3.2.2.2.2.2.2.2.2.1,j3.2.2.2.2.2.2.2.2.2.1,j3.2.2.2.2.2.2.2.2.2.2.1,j3.2.2.2.2.2.2.2.2.2.2.2.1,j3.2.2.2.2.2.2.2.2.2.2.2.2.1,j3.2.2.2.2.2.2.2.2.2.2.2.2.2.1,())
         else
          none:Option ((PV zh×PV (.int .i64)×PV qj×PV qj×PV (.int .i64)×PV (.int .i64)×PV .bool×PV .bool×PV zi×PV (.int .i64)×PV zo×PV (.int .i64)×PV (.int .i64)×PV .bool×Unit)))).bind λj4=>
        some (.inl (j4.1,j4.2.1,j4.2.2.1,j4.2.2.2.1,j4.2.2.2.2.1,(IntKind.wrap .i64 (j4.2.2.2.2.2.1+1)),j4.2.2.2.2.2.2.1,j4.2.2.2.2.2.2.2.1,()))
   else
    some (.inr (t1,t4,t5,t6,t7,t8,t9,t10,()))
  else
   none
 else
  some (.inr (t1,t4,t5,t6,t7,t8,t9,t10,()))
def z5j:PV zh×PV (.int .i64)×PV qj×PV qj×PV (.int .i64)×PV (.int .i64)×PV .bool×PV .bool×Unit->Option ((PV zh×PV (.int .i64)×PV qj×PV qj×PV (.int .i64)×PV (.int .i64)×PV .bool×PV .bool×Unit)):=fix λd=>ze2 d.1 d.2.1 d.2.2.1 d.2.2.2.1 d.2.2.2.2.1 d.2.2.2.2.2.1 d.2.2.2.2.2.2.1 d.2.2.2.2.2.2.2.1
def z3l:Lp:=⟨⟨[],[1,4,5,6,7,8,9,10,37,38,39,40,41,42,43,47,48,49,50,51,52,53],[]⟩,qsn,qvw,λd=>ze2 d.1 d.2.1 d.2.2.1 d.2.2.2.1 d.2.2.2.2.1 d.2.2.2.2.2.1 d.2.2.2.2.2.2.1 d.2.2.2.2.2.2.2.1⟩
def qpu:List Sh:=mkSh 77 [(1,.var zh .b),(4,.val (.int .i64) .b),(5,.val qj (.row .b)),(6,.val qj (.row .b)),(7,.val (.int .i64) .b),(8,.val (.int .i64) .b),(9,.val .bool .b),(10,.val .bool .b),(11,.val (.int .i64) .b)]
def qso:List Out:=[⟨.exit 4,⟨[],[1,4,5,6,7,8,27,28,29,30,31,32,33,37,38,39,40,41,42,43,47,48,49,50,51,52,53],[]⟩,mkSh 77 [(1,.var zh .b),(4,.val (.int .i64) .b),(5,.val qj (.row .b)),(6,.val qj (.row .b)),(7,.val (.int .i64) .b),(8,.val (.int .i64) .b)]⟩]
def zhj (t1:PV zh)(t4:PV (.int .i64))(t5:PV qj)(t6:PV qj)(t7:PV (.int .i64))(t8:PV (.int .i64))(t9:PV .bool)(t10:PV .bool)(t11:PV (.int .i64)):Option ((PV zh×PV (.int .i64)×PV qj×PV qj×PV (.int .i64)×PV (.int .i64)×PV .bool×PV .bool×PV (.int .i64)×Unit)⊕((PV zh×PV (.int .i64)×PV qj×PV qj×PV (.int .i64)×PV (.int .i64)×Unit))):=
 bif (decide (t11<t8)) then
  bif inB t11 t5.length then
   bif inB t11 t6.length then
    some (.inl (t1,t4,(t5.set t11.toNat t9),(t6.set t11.toNat t10),t7,t8,t9,t10,(IntKind.wrap .i64 (t11+1)),()))
   else
    none
  else
   none
 else
  some (.inr (t1,t4,t5,t6,t7,t8,()))
def z3m:PV zh×PV (.int .i64)×PV qj×PV qj×PV (.int .i64)×PV (.int .i64)×PV .bool×PV .bool×PV (.int .i64)×Unit->Option ((PV zh×PV (.int .i64)×PV qj×PV qj×PV (.int .i64)×PV (.int .i64)×Unit)):=fix λd=>zhj d.1 d.2.1 d.2.2.1 d.2.2.2.1 d.2.2.2.2.1 d.2.2.2.2.2.1 d.2.2.2.2.2.2.1 d.2.2.2.2.2.2.2.1 d.2.2.2.2.2.2.2.2.1
def z1w:Lp:=⟨⟨[],[1,4,5,6,7,8,9,10,11,27,28,29,30,31,32,33,37,38,39,40,41,42,43,47,48,49,50,51,52,53],[]⟩,qpu,qso,λd=>zhj d.1 d.2.1 d.2.2.1 d.2.2.2.1 d.2.2.2.2.1 d.2.2.2.2.2.1 d.2.2.2.2.2.2.1 d.2.2.2.2.2.2.2.1 d.2.2.2.2.2.2.2.2.1⟩
def qsp:List Sh:=mkSh 77 [(1,.var zh .b),(4,.val (.int .i64) .b),(5,.val qj (.row .b)),(6,.val qj (.row .b)),(7,.val (.int .i64) .b)]
def qvx:List Out:=[⟨.exit 0,⟨[],[5,6],[]⟩,mkSh 77 [(5,.val qj (.row .b)),(6,.val qj (.row .b))]⟩]
def zc9 (t1:PV zh)(t4:PV (.int .i64))(t5:PV qj)(t6:PV qj)(t7:PV (.int .i64)):Option ((PV zh×PV (.int .i64)×PV qj×PV qj×PV (.int .i64)×Unit)⊕((PV qj×PV qj×Unit))):=
 bif (decide (t7<t4)) then
  (z5j (t1,t4,t5,t6,t7,t7,false,false,())).bind λl2=>
    (z3m (l2.1,l2.2.1,l2.2.2.1,l2.2.2.2.1,l2.2.2.2.2.1,l2.2.2.2.2.2.1,l2.2.2.2.2.2.2.1,l2.2.2.2.2.2.2.2.1,l2.2.2.2.2.1,())).bind λl4=>
      (zib l4.2.2.2.2.2.1 (IntKind.wrap .i64 (l4.2.2.2.2.1+1))).bind λr5=>
        some (.inl (l4.1,l4.2.1,l4.2.2.1,l4.2.2.2.1,r5.1.1,()))
 else
  some (.inr (t5,t6,()))
def ztm:PV zh×PV (.int .i64)×PV qj×PV qj×PV (.int .i64)×Unit->Option ((PV qj×PV qj×Unit)):=fix λd=>zc9 d.1 d.2.1 d.2.2.1 d.2.2.2.1 d.2.2.2.2.1
def z3n:Lp:=⟨⟨[],[1,4,5,6,7,27,28,29,30,31,32,33,37,38,39,40,41,42,43,47,48,49,50,51,52,53],[]⟩,qsp,qvx,λd=>zc9 d.1 d.2.1 d.2.2.1 d.2.2.2.1 d.2.2.2.2.1⟩
def qzb:Plan:=⟨[(9,qvv),(10,qsm)],[(7,z3l),(12,z1w),(4,z3n)],0,0⟩
def zpo (t0:PV zh):Option (PVs [qj,qj]×PVs []):=
 bif decide (0<=(t0.2.2.1.length:Int))&&(decide ((t0.2.2.1.length:Int)<=(t0.2.2.1.length:Int))&&qm (t0.2.2.1.length:Int).toNat) then
  bif decide (0<=(t0.2.2.1.length:Int))&&(decide ((t0.2.2.1.length:Int)<=(t0.2.2.1.length:Int))&&qm (t0.2.2.1.length:Int).toNat) then
   (ztm (t0,(t0.2.2.1.length:Int),(List.replicate (t0.2.2.1.length:Int).toNat false),(List.replicate (t0.2.2.1.length:Int).toNat false),0,())).bind λl7=>
     some ((l7.1,l7.2.1,()),())
  else
   none
 else
  none
def z7b:Ct:=⟨[(.bor,zh)],[(qj,(.row .b)),(qj,(.row .b))],λx=>zpo x.1⟩
def qzc:Cx:=⟨tab,arrs,[(238,zt3)],[],gl,[]⟩
theorem qzd:FnOk gl Tryz.prog 185 z7b:=
 fo qzc qzb 0 (oz ⟨z6s,trivial⟩ trivial) Tryz.func185 (by kernel_rfl) (by kernel_rfl) (by kernel_rfl)
  (ll 3 (by kernel_rfl) (lc z3n (by kernel_rfl) (λd=>by kernel_rfl) (lc z3l (by kernel_rfl) (λd=>by kernel_rfl) (lc z1w (by kernel_rfl) (λd=>by kernel_rfl) trivial)))) (λx=>by kernel_rfl)
def qvy:Plan:=⟨[],[],0,0⟩
def zhx (t0:PV .str)(t1:PV .str):Option (PVs [.str]×PVs []):=
 (zda t1).bind λr4=>
   bif r4.1.1 then
    bif decide (t0.length+t1.length<=1099511627776) then
     some (((t0++t1),()),())
    else
     none
   else
    bif decide (t0.length+t1.length<=1099511627776) then
     bif decide ((t0++t1).length+[10,92,32,110,111,110,101,10].length<=1099511627776) then
      some ((((t0++t1)++[10,92,32,110,111,110,101,10]),()),())
     else
      none
    else
     none
def ztf:Ct:=⟨[(.bor,.str),(.bor,.str)],[(.str,.b)],λx=>zhx x.1 x.2.1⟩
def qvz:Cx:=⟨tab,arrs,[(128,zhz)],[],gl,[]⟩
theorem z4k:FnOk gl Tryz.prog 139 ztf:=
 fo qvz qvy 0 (oz ⟨zjo,trivial⟩ trivial) Tryz.func139 (by kernel_rfl) (by kernel_rfl) (by kernel_rfl)
  (ll 0 (by kernel_rfl) trivial) (λx=>by kernel_rfl)
def qv0:List Out:=[⟨.normal,⟨[],[1,5,6,7,8,9,10,17,18,19,24,45,46,47,48,51,52,53,54],[]⟩,mkSh 72 [(1,.val .bool .b),(5,.val qj (.row .b)),(6,.val qj (.row .b)),(7,.val .str .b),(8,.val (.int .i64) .b),(9,.var zo .b),(10,.val .str .b),(17,.val zi .b),(18,.val (.int .i64) .b),(19,.val (.int .i64) .b),(24,.val .bool .b)]⟩]
def qv1:List Out:=[⟨.normal,⟨[],[1,5,6,7,9,10,17,18,19,29,30,33,34,35,36,37,38,40],[]⟩,mkSh 72 [(1,.val .bool .b),(5,.val qj (.row .b)),(6,.val qj (.row .b)),(7,.val .str .b),(9,.var zo .b),(10,.val .str .b),(17,.val zi .b),(18,.val (.int .i64) .b),(19,.val (.int .i64) .b),(40,.val .bool .b)]⟩]
def qsq:List Out:=[⟨.exit 1,⟨[],[1,5,6,7,17,18,19,29,30,33,34,35,36,37,38,45,46,47,48,51,52,53,54],[]⟩,mkSh 72 [(1,.val .bool .b),(5,.val qj (.row .b)),(6,.val qj (.row .b)),(7,.val .str .b),(17,.val zi .b),(18,.val (.int .i64) .b),(19,.val (.int .i64) .b)]⟩,⟨.normal,⟨[],[1,5,6,7,9,10,17,18,19,29,30,33,34,35,36,37,38,45,46,47,48,51,52,53,54],[]⟩,mkSh 72 [(1,.val .bool .b),(5,.val qj (.row .b)),(6,.val qj (.row .b)),(7,.val .str .b),(9,.var zo .b),(10,.val .str .b),(17,.val zi .b),(18,.val (.int .i64) .b),(19,.val (.int .i64) .b)]⟩]
def qsr:List Out:=[⟨.normal,⟨[],[1,5,6,7,17,18,19,29,30,33,34,35,36,37,38,45,46,47,48,51,52,53,54],[]⟩,mkSh 72 [(1,.val .bool .b),(5,.val qj (.row .b)),(6,.val qj (.row .b)),(7,.val .str .b),(17,.val zi .b),(18,.val (.int .i64) .b),(19,.val (.int .i64) .b)]⟩]
def qss:List Sh:=mkSh 72 [(1,.val .bool .b),(5,.val qj (.row .b)),(6,.val qj (.row .b)),(7,.val .str .b),(17,.val zi .b),(18,.val (.int .i64) .b),(19,.val (.int .i64) .b)]
def qv2:List Out:=[⟨.exit 0,⟨[],[7],[]⟩,mkSh 72 [(7,.val .str .b)]⟩]
def zhu (t1:PV .bool)(t5:PV qj)(t6:PV qj)(t7:PV .str)(t17:PV zi)(t18:PV (.int .i64))(t19:PV (.int .i64)):Option ((PV .bool×PV qj×PV qj×PV .str×PV zi×PV (.int .i64)×PV (.int .i64)×Unit)⊕((PV .str×Unit))):=
 bif (decide (t19<t18)) then
  ((
    bif inB t19 t17.length then
     ((
       ((
         bif (((t17.getD t19.toNat (dflt zo)).1)==2) then
          bif (!t1) then
           some (t1,t5,t6,t7,t19,(t17.getD t19.toNat (dflt zo)),[32,32],t17,t18,t19,true,())
          else
           bif (((t17.getD t19.toNat (dflt zo)).1)==3) then
            some (t1,t5,t6,t7,t19,(t17.getD t19.toNat (dflt zo)),[32,32],t17,t18,t19,t1,())
           else
            some (t1,t5,t6,t7,t19,(t17.getD t19.toNat (dflt zo)),[32,32],t17,t18,t19,false,())
         else
          bif (((t17.getD t19.toNat (dflt zo)).1)==3) then
           some (t1,t5,t6,t7,t19,(t17.getD t19.toNat (dflt zo)),[32,32],t17,t18,t19,t1,())
          else
           some (t1,t5,t6,t7,t19,(t17.getD t19.toNat (dflt zo)),[32,32],t17,t18,t19,false,()):Option ((PV .bool×PV qj×PV qj×PV .str×PV (.int .i64)×PV zo×PV .str×PV zi×PV (.int .i64)×PV (.int .i64)×PV .bool×Unit)))).bind λj3=>
         bif j3.2.2.2.2.2.2.2.2.2.2.1 then
          some (.inl (j3.1,j3.2.1,j3.2.2.1,j3.2.2.2.1,j3.2.2.2.2.2.2.2.1,j3.2.2.2.2.2.2.2.2.1,j3.2.2.2.2.2.2.2.2.2.1,()))
         else
          ((
            bif (!(j3.2.2.2.2.2.1.1==1)) then
             bif inB j3.2.2.2.2.1 j3.2.1.length then
              bif (j3.2.1.getD j3.2.2.2.2.1.toNat false) then
               bif inB j3.2.2.2.2.1 j3.2.2.1.length then
                some (j3.1,j3.2.1,j3.2.2.1,j3.2.2.2.1,j3.2.2.2.2.2.1,j3.2.2.2.2.2.2.1,j3.2.2.2.2.2.2.2.1,j3.2.2.2.2.2.2.2.2.1,j3.2.2.2.2.2.2.2.2.2.1,(j3.2.2.1.getD j3.2.2.2.2.1.toNat false),())
               else
                none
              else
               some (j3.1,j3.2.1,j3.2.2.1,j3.2.2.2.1,j3.2.2.2.2.2.1,j3.2.2.2.2.2.2.1,j3.2.2.2.2.2.2.2.1,j3.2.2.2.2.2.2.2.2.1,j3.2.2.2.2.2.2.2.2.2.1,false,())
             else
              none
            else
             some (j3.1,j3.2.1,j3.2.2.1,j3.2.2.2.1,j3.2.2.2.2.2.1,j3.2.2.2.2.2.2.1,j3.2.2.2.2.2.2.2.1,j3.2.2.2.2.2.2.2.2.1,j3.2.2.2.2.2.2.2.2.2.1,false,()):Option ((PV .bool×PV qj×PV qj×PV .str×PV zo×PV .str×PV zi×PV (.int .i64)×PV (.int .i64)×PV .bool×Unit)))).bind λj4=>
            bif j4.2.2.2.2.2.2.2.2.2.1 then
             some (.inr (j4.1,j4.2.1,j4.2.2.1,j4.2.2.2.1,j4.2.2.2.2.1,[33,32],j4.2.2.2.2.2.2.1,j4.2.2.2.2.2.2.2.1,j4.2.2.2.2.2.2.2.2.1,()))
            else
             bif (j4.2.2.2.2.1.1==2) then
              some (.inr (j4.1,j4.2.1,j4.2.2.1,j4.2.2.2.1,j4.2.2.2.2.1,[45,32],j4.2.2.2.2.2.2.1,j4.2.2.2.2.2.2.2.1,j4.2.2.2.2.2.2.2.2.1,()))
             else
              bif (j4.2.2.2.2.1.1==3) then
               some (.inr (j4.1,j4.2.1,j4.2.2.1,j4.2.2.2.1,j4.2.2.2.2.1,[43,32],j4.2.2.2.2.2.2.1,j4.2.2.2.2.2.2.2.1,j4.2.2.2.2.2.2.2.2.1,()))
              else
               some (.inr (j4.1,j4.2.1,j4.2.2.1,j4.2.2.2.1,j4.2.2.2.2.1,j4.2.2.2.2.2.1,j4.2.2.2.2.2.2.1,j4.2.2.2.2.2.2.2.1,j4.2.2.2.2.2.2.2.2.1,())):Option ((PV .bool×PV qj×PV qj×PV .str×PV zi×PV (.int .i64)×PV (.int .i64)×Unit)⊕(PV .bool×PV qj×PV qj×PV .str×PV zo×PV .str×PV zi×PV (.int .i64)×PV (.int .i64)×Unit)))).bind λx11=>
       match x11 with
       | .inl j5=>
         some (j5.1,j5.2.1,j5.2.2.1,j5.2.2.2.1,j5.2.2.2.2.1,j5.2.2.2.2.2.1,j5.2.2.2.2.2.2.1,())
       | .inr j6=>
         (zhx j6.2.2.2.2.2.1 j6.2.2.2.2.1.2.1).bind λr7=>
           bif decide (j6.2.2.2.1.length+r7.1.1.length<=1099511627776) then
            some (j6.1,j6.2.1,j6.2.2.1,(j6.2.2.2.1++r7.1.1),j6.2.2.2.2.2.2.1,j6.2.2.2.2.2.2.2.1,j6.2.2.2.2.2.2.2.2.1,())
           else
            none
    else
     none:Option ((PV .bool×PV qj×PV qj×PV .str×PV zi×PV (.int .i64)×PV (.int .i64)×Unit)))).bind λj8=>
    some (.inl (j8.1,j8.2.1,j8.2.2.1,j8.2.2.2.1,j8.2.2.2.2.1,j8.2.2.2.2.2.1,(IntKind.wrap .i64 (j8.2.2.2.2.2.2.1+1)),()))
 else
  some (.inr (t7,()))
def z5k:PV .bool×PV qj×PV qj×PV .str×PV zi×PV (.int .i64)×PV (.int .i64)×Unit->Option ((PV .str×Unit)):=fix λd=>zhu d.1 d.2.1 d.2.2.1 d.2.2.2.1 d.2.2.2.2.1 d.2.2.2.2.2.1 d.2.2.2.2.2.2.1
def z3o:Lp:=⟨⟨[],[1,5,6,7,17,18,19,29,30,33,34,35,36,37,38,45,46,47,48,51,52,53,54],[]⟩,qss,qv2,λd=>zhu d.1 d.2.1 d.2.2.1 d.2.2.2.1 d.2.2.2.2.1 d.2.2.2.2.2.1 d.2.2.2.2.2.2.1⟩
def qze:Plan:=⟨[(8,qv0),(9,qv1),(14,qsq),(15,qsr)],[(4,z3o)],0,0⟩
def zf6 (t0:PV zh)(t1:PV .bool):Option (PVs [.str]×PVs []):=
 (zpo t0).bind λr2=>
   (z5k (t1,r2.1.1,r2.1.2.1,[],t0.2.2.1,(t0.2.2.1.length:Int),0,())).bind λl10=>
     some ((l10.1,()),())
def z7c:Ct:=⟨[(.bor,zh),(.bor,.bool)],[(.str,.b)],λx=>zf6 x.1 x.2.1⟩
def qzf:Cx:=⟨tab,arrs,[(139,ztf),(185,z7b)],[],gl,[]⟩
theorem qzg:FnOk gl Tryz.prog 109 z7c:=
 fo qzf qze 0 (oz ⟨z4k,qzd,trivial⟩ trivial) Tryz.func109 (by kernel_rfl) (by kernel_rfl) (by kernel_rfl)
  (ll 1 (by kernel_rfl) (lc z3o (by kernel_rfl) (λd=>by kernel_rfl) trivial)) (λx=>by kernel_rfl)
def qv3:List Out:=[⟨.normal,⟨[],[3,5,6,7,8],[]⟩,mkSh 46 [(3,.val .str .b),(5,.var zh .b),(6,.val zk .b),(7,.val (.int .i64) .b),(8,.val (.int .i64) .b)]⟩]
def qst:List Out:=[⟨.normal,⟨[],[3,6,7,8],[]⟩,mkSh 46 [(3,.val .str .b),(6,.val zk .b),(7,.val (.int .i64) .b),(8,.val (.int .i64) .b)]⟩]
def qsu:List Sh:=mkSh 46 [(3,.val .str .b),(6,.val zk .b),(7,.val (.int .i64) .b),(8,.val (.int .i64) .b)]
def qv4:List Out:=[⟨.exit 0,⟨[],[3],[]⟩,mkSh 46 [(3,.val .str .b)]⟩]
def zhv (t3:PV .str)(t6:PV zk)(t7:PV (.int .i64))(t8:PV (.int .i64)):Option ((PV .str×PV zk×PV (.int .i64)×PV (.int .i64)×Unit)⊕((PV .str×Unit))):=
 bif (decide (t8<t7)) then
  ((
    bif inB t8 t6.length then
     (ze9 (t6.getD t8.toNat (dflt zh))).bind λr3=>
       (zjz ((t6.getD t8.toNat (dflt zh)).1) (r3.1.1.length:Int)).bind λr4=>
         bif decide ([42,42,42,42,42,42,42,42,42,42,42,42,42,42,42,10,42,42,42,32].length+r4.1.1.length<=1099511627776) then
          bif decide (([42,42,42,42,42,42,42,42,42,42,42,42,42,42,42,10,42,42,42,32]++r4.1.1).length+[32,42,42,42,42,10].length<=1099511627776) then
           bif decide (t3.length+(([42,42,42,42,42,42,42,42,42,42,42,42,42,42,42,10,42,42,42,32]++r4.1.1)++[32,42,42,42,42,10]).length<=1099511627776) then
            ((
              (zj0 (t6.getD t8.toNat (dflt zh)) 2).bind λr6=>
                bif r6.1.1 then
                 (zf6 (t6.getD t8.toNat (dflt zh)) true).bind λr7=>
                   bif decide ((t3++(([42,42,42,42,42,42,42,42,42,42,42,42,42,42,42,10,42,42,42,32]++r4.1.1)++[32,42,42,42,42,10])).length+r7.1.1.length<=1099511627776) then
                    some (((t3++(([42,42,42,42,42,42,42,42,42,42,42,42,42,42,42,10,42,42,42,32]++r4.1.1)++[32,42,42,42,42,10]))++r7.1.1),(t6.getD t8.toNat (dflt zh)),t6,t7,t8,())
                   else
                    none
                else
                 some ((t3++(([42,42,42,42,42,42,42,42,42,42,42,42,42,42,42,10,42,42,42,32]++r4.1.1)++[32,42,42,42,42,10])),(t6.getD t8.toNat (dflt zh)),t6,t7,t8,()):Option ((PV .str×PV zh×PV zk×PV (.int .i64)×PV (.int .i64)×Unit)))).bind λj8=>
              (zdy j8.2.1).bind λr11=>
                (zjz j8.2.1.2.1 (r11.1.1.length:Int)).bind λr12=>
                  bif decide ([45,45,45,32].length+r12.1.1.length<=1099511627776) then
                   bif decide (([45,45,45,32]++r12.1.1).length+[32,45,45,45,45,10].length<=1099511627776) then
                    bif decide (j8.1.length+(([45,45,45,32]++r12.1.1)++[32,45,45,45,45,10]).length<=1099511627776) then
                     (zj0 j8.2.1 3).bind λr14=>
                       bif r14.1.1 then
                        (zf6 j8.2.1 false).bind λr15=>
                          bif decide ((j8.1++(([45,45,45,32]++r12.1.1)++[32,45,45,45,45,10])).length+r15.1.1.length<=1099511627776) then
                           some (((j8.1++(([45,45,45,32]++r12.1.1)++[32,45,45,45,45,10]))++r15.1.1),j8.2.2.1,j8.2.2.2.1,j8.2.2.2.2.1,())
                          else
                           none
                       else
                        some ((j8.1++(([45,45,45,32]++r12.1.1)++[32,45,45,45,45,10])),j8.2.2.1,j8.2.2.2.1,j8.2.2.2.2.1,())
                    else
                     none
                   else
                    none
                  else
                   none
           else
            none
          else
           none
         else
          none
    else
     none:Option ((PV .str×PV zk×PV (.int .i64)×PV (.int .i64)×Unit)))).bind λj16=>
    some (.inl (j16.1,j16.2.1,j16.2.2.1,(IntKind.wrap .i64 (j16.2.2.2.1+1)),()))
 else
  some (.inr (t3,()))
def z5l:PV .str×PV zk×PV (.int .i64)×PV (.int .i64)×Unit->Option ((PV .str×Unit)):=fix λd=>zhv d.1 d.2.1 d.2.2.1 d.2.2.2.1
def z3p:Lp:=⟨⟨[],[3,6,7,8],[]⟩,qsu,qv4,λd=>zhv d.1 d.2.1 d.2.2.1 d.2.2.2.1⟩
def qzh:Plan:=⟨[(8,qv3),(11,qst)],[(3,z3p)],0,0⟩
def zjw (t0:PV zk):Option (PVs [.str]×PVs []):=
 (z5l ([],t0,(t0.length:Int),0,())).bind λl18=>
   some ((l18.1,()),())
def ztx:Ct:=⟨[(.bor,zk)],[(.str,.b)],λx=>zjw x.1⟩
def qzi:Cx:=⟨tab,arrs,[(109,z7c),(163,zju),(164,zjv),(168,z6z),(169,z7a)],[],gl,[]⟩
theorem z6i:FnOk gl Tryz.prog 100 ztx:=
 fo qzi qzh 0 (oz ⟨qzg,zmd,zme,qy7,qza,trivial⟩ trivial) Tryz.func100 (by kernel_rfl) (by kernel_rfl) (by kernel_rfl)
  (ll 1 (by kernel_rfl) (lc z3p (by kernel_rfl) (λd=>by kernel_rfl) trivial)) (λx=>by kernel_rfl)
def qnv:List Out:=[⟨.normal,⟨[],[0,12],[]⟩,mkSh 15 [(0,.val zk .b),(12,.val .bool .b)]⟩]
def qpv:Plan:=⟨[(2,qnv)],[],0,0⟩
def zou (t0:PV zk):Option (PVs [.str,.bool]×PVs []):=
 ((
   (zh9 t0).bind λr6=>
     bif (!r6.1.1) then
      some (t0,true,())
     else
      (zjw t0).bind λr7=>
        some (t0,(decide ((r7.1.1.length:Int)>3000)),()):Option ((PV zk×PV .bool×Unit)))).bind λj8=>
   bif j8.2.1 then
    some (([],false,()),())
   else
    (zjw j8.1).bind λr9=>
      some ((r9.1.1,true,()),())
def z1x:Ct:=⟨[(.bor,zk)],[(.str,.b),(.bool,.b)],λx=>zou x.1⟩
def qpw:Cx:=⟨tab,arrs,[(95,zl1),(100,ztx)],[],gl,[]⟩
theorem qpx:FnOk gl Tryz.prog 47 z1x:=
 fo qpw qpv 0 (oz ⟨zo4,z6i,trivial⟩ trivial) Tryz.func47 (by kernel_rfl) (by kernel_rfl) (by kernel_rfl)
  (ll 0 (by kernel_rfl) trivial) (λx=>by kernel_rfl)
def qlv:Plan:=⟨[],[],0,0⟩
def zlh (t0:PV zf)(t1:PV zn)(t2:PV (.int .i64)):Option (PVs [.str,.bool]×PVs []):=
 (zlv t0 t1 t2).bind λr2=>
   bif (!r2.1.2.1) then
    some (([],false,()),())
   else
    (zou r2.1.1).bind λr3=>
      some ((r3.1.1,r3.1.2.1,()),())
def zsd:Ct:=⟨[(.bor,zf),(.bor,zn),(.bor,(.int .i64))],[(.str,.b),(.bool,.b)],λx=>zlh x.1 x.2.1 x.2.2.1⟩
def qlw:Cx:=⟨tab,arrs,[(47,z1x),(56,zsw)],[],gl,[]⟩
theorem zzm:FnOk gl Tryz.prog 13 zsd:=
 fo qlw qlv 0 (oz ⟨qpx,z2m,trivial⟩ trivial) Tryz.func13 (by kernel_rfl) (by kernel_rfl) (by kernel_rfl)
  (ll 0 (by kernel_rfl) trivial) (λx=>by kernel_rfl)
def qsv:List Out:=[⟨.normal,⟨[],[5],[]⟩,mkSh 18 [(5,.val .str .b)]⟩]
def qv5:Plan:=⟨[(4,qsv)],[],0,0⟩
def zl5 (t0:PV (.int .i64))(t1:PV (.int .i64)):Option (PVs [.str]×PVs []):=
 (zhr t0 t1).bind λr3=>
   (zfw r3.1.1).bind λr4=>
     ((
       bif (!(t1==1)) then
        (zfw t1).bind λr6=>
          bif decide ([44].length+r6.1.1.length<=1099511627776) then
           bif decide (r4.1.1.length+([44]++r6.1.1).length<=1099511627776) then
            some ((r4.1.1++([44]++r6.1.1)),())
           else
            none
          else
           none
       else
        some (r4.1.1,()):Option ((PV .str×Unit)))).bind λj7=>
       some ((j7.1,()),())
def z5m:Ct:=⟨[(.bor,(.int .i64)),(.bor,(.int .i64))],[(.str,.b)],λx=>zl5 x.1 x.2.1⟩
def qv6:Cx:=⟨tab,arrs,[(165,zs3),(205,zsl)],[],gl,[]⟩
theorem qv7:FnOk gl Tryz.prog 191 z5m:=
 fo qv6 qv5 0 (oz ⟨z3a,z0f,trivial⟩ trivial) Tryz.func191 (by kernel_rfl) (by kernel_rfl) (by kernel_rfl)
  (ll 0 (by kernel_rfl) trivial) (λx=>by kernel_rfl)
def qsw:Plan:=⟨[],[],0,0⟩
def zhw (t0:PV .str)(t1:PV .str):Option (PVs [.str]×PVs []):=
 bif decide ([64,64,32,45].length+t0.length<=1099511627776) then
  bif decide (([64,64,32,45]++t0).length+[32,43].length<=1099511627776) then
   bif decide ((([64,64,32,45]++t0)++[32,43]).length+t1.length<=1099511627776) then
    bif decide (((([64,64,32,45]++t0)++[32,43])++t1).length+[32,64,64,10].length<=1099511627776) then
     some (((((([64,64,32,45]++t0)++[32,43])++t1)++[32,64,64,10]),()),())
    else
     none
   else
    none
  else
   none
 else
  none
def zs7:Ct:=⟨[(.bor,.str),(.bor,.str)],[(.str,.b)],λx=>zhw x.1 x.2.1⟩
def qsx:Cx:=⟨tab,arrs,[],[],gl,[]⟩
theorem z3q:FnOk gl Tryz.prog 190 zs7:=
 fo qsx qsw 0 (oz trivial trivial) Tryz.func190 (by kernel_rfl) (by kernel_rfl) (by kernel_rfl)
  (ll 0 (by kernel_rfl) trivial) (λx=>by kernel_rfl)
def qnw:List Sh:=mkSh 21 [(3,.val .str .b),(6,.val zi .b),(7,.val (.int .i64) .b),(8,.val (.int .i64) .b)]
def qpy:List Out:=[⟨.exit 0,⟨[],[3],[]⟩,mkSh 21 [(3,.val .str .b)]⟩]
def zcv (t3:PV .str)(t6:PV zi)(t7:PV (.int .i64))(t8:PV (.int .i64)):Option ((PV .str×PV zi×PV (.int .i64)×PV (.int .i64)×Unit)⊕((PV .str×Unit))):=
 bif (decide (t8<t7)) then
  bif inB t8 t6.length then
   (zhs (t6.getD t8.toNat (dflt zo))).bind λr3=>
     (zdz r3.1.1 (((t6.getD t8.toNat (dflt zo)).2).1)).bind λr4=>
       bif decide (t3.length+r4.1.1.length<=1099511627776) then
        some (.inl ((t3++r4.1.1),t6,t7,(IntKind.wrap .i64 (t8+1)),()))
       else
        none
  else
   none
 else
  some (.inr (t3,()))
def zss:PV .str×PV zi×PV (.int .i64)×PV (.int .i64)×Unit->Option ((PV .str×Unit)):=fix λd=>zcv d.1 d.2.1 d.2.2.1 d.2.2.2.1
def z0u:Lp:=⟨⟨[],[3,6,7,8],[]⟩,qnw,qpy,λd=>zcv d.1 d.2.1 d.2.2.1 d.2.2.2.1⟩
def qsy:Plan:=⟨[],[(3,z0u)],0,0⟩
def zf2 (t0:PV zi):Option (PVs [.str]×PVs []):=
 (zss ([],t0,(t0.length:Int),0,())).bind λl6=>
   some ((l6.1,()),())
def zs8:Ct:=⟨[(.bor,zi)],[(.str,.b)],λx=>zf2 x.1⟩
def qsz:Cx:=⟨tab,arrs,[(181,zuh),(182,zs4)],[],gl,[]⟩
theorem z3r:FnOk gl Tryz.prog 192 zs8:=
 fo qsz qsy 0 (oz ⟨z8h,z3b,trivial⟩ trivial) Tryz.func192 (by kernel_rfl) (by kernel_rfl) (by kernel_rfl)
  (ll 1 (by kernel_rfl) (lc z0u (by kernel_rfl) (λd=>by kernel_rfl) trivial)) (λx=>by kernel_rfl)
def qkb:List Sh:=mkSh 33 [(3,.val .str .b),(6,.val zk .b),(7,.val (.int .i64) .b),(8,.val (.int .i64) .b)]
def qlx:List Out:=[⟨.exit 0,⟨[],[3],[]⟩,mkSh 33 [(3,.val .str .b)]⟩]
def zg8 (t3:PV .str)(t6:PV zk)(t7:PV (.int .i64))(t8:PV (.int .i64)):Option ((PV .str×PV zk×PV (.int .i64)×PV (.int .i64)×Unit)⊕((PV .str×Unit))):=
 bif (decide (t8<t7)) then
  bif inB t8 t6.length then
   (zer (t6.getD t8.toNat (dflt zh))).bind λr7=>
     (zl5 ((t6.getD t8.toNat (dflt zh)).1) (r7.1.1.length:Int)).bind λr8=>
       (zeo (t6.getD t8.toNat (dflt zh))).bind λr9=>
         (zl5 (((t6.getD t8.toNat (dflt zh)).2).1) (r9.1.1.length:Int)).bind λr10=>
           (zhw r8.1.1 r10.1.1).bind λr11=>
             (zf2 ((((t6.getD t8.toNat (dflt zh)).2).2).1)).bind λr12=>
               bif decide (r11.1.1.length+r12.1.1.length<=1099511627776) then
                bif decide (t3.length+(r11.1.1++r12.1.1).length<=1099511627776) then
                 some (.inl ((t3++(r11.1.1++r12.1.1)),t6,t7,(IntKind.wrap .i64 (t8+1)),()))
                else
                 none
               else
                none
  else
   none
 else
  some (.inr (t3,()))
def zz3:PV .str×PV zk×PV (.int .i64)×PV (.int .i64)×Unit->Option ((PV .str×Unit)):=fix λd=>zg8 d.1 d.2.1 d.2.2.1 d.2.2.2.1
def zzh:Lp:=⟨⟨[],[3,6,7,8],[]⟩,qkb,qlx,λd=>zg8 d.1 d.2.1 d.2.2.1 d.2.2.2.1⟩
def qnx:Plan:=⟨[],[(3,zzh)],0,0⟩
def zoo (t0:PV zk):Option (PVs [.str]×PVs []):=
 (zz3 ([],t0,(t0.length:Int),0,())).bind λl14=>
   some ((l14.1,()),())
def z0v:Ct:=⟨[(.bor,zk)],[(.str,.b)],λx=>zoo x.1⟩
def qny:Cx:=⟨tab,arrs,[(150,zln),(151,zlf),(190,zs7),(191,z5m),(192,zs8)],[],gl,[]⟩
theorem qnz:FnOk gl Tryz.prog 116 z0v:=
 fo qny qnx 0 (oz ⟨zom,zn9,z3q,qv7,z3r,trivial⟩ trivial) Tryz.func116 (by kernel_rfl) (by kernel_rfl) (by kernel_rfl)
  (ll 1 (by kernel_rfl) (lc zzh (by kernel_rfl) (λd=>by kernel_rfl) trivial)) (λx=>by kernel_rfl)
def qn0:Plan:=⟨[],[],0,0⟩
def zop (t0:PV zk):Option (PVs [.str,.bool]×PVs []):=
 (zjc t0).bind λr4=>
   bif (!r4.1.1) then
    some (([],false,()),())
   else
    (zoo t0).bind λr5=>
      (zmq r5.1.1).bind λr6=>
        some ((r6.1.1,r6.1.2.1,()),())
def z0w:Ct:=⟨[(.bor,zk)],[(.str,.b),(.bool,.b)],λx=>zop x.1⟩
def qn1:Cx:=⟨tab,arrs,[(71,zui),(86,zoh),(116,z0v)],[],gl,[]⟩
theorem qn2:FnOk gl Tryz.prog 57 z0w:=
 fo qn1 qn0 0 (oz ⟨z8i,zsm,qnz,trivial⟩ trivial) Tryz.func57 (by kernel_rfl) (by kernel_rfl) (by kernel_rfl)
  (ll 0 (by kernel_rfl) trivial) (λx=>by kernel_rfl)
def qly:Plan:=⟨[],[],0,0⟩
def zof (t0:PV zf)(t1:PV zn)(t2:PV (.int .i64)):Option (PVs [.str,.bool]×PVs []):=
 (zly t0 t1 t2).bind λr2=>
   bif (!r2.1.2.1) then
    some (([],false,()),())
   else
    (zop r2.1.1).bind λr3=>
      some ((r3.1.1,r3.1.2.1,()),())
def zzr:Ct:=⟨[(.bor,zf),(.bor,zn),(.bor,(.int .i64))],[(.str,.b),(.bool,.b)],λx=>zof x.1 x.2.1 x.2.2.1⟩
def qlz:Cx:=⟨tab,arrs,[(55,zsz),(57,z0w)],[],gl,[]⟩
theorem qk3:FnOk gl Tryz.prog 14 zzr:=
 fo qlz qly 0 (oz ⟨z2y,qn2,trivial⟩ trivial) Tryz.func14 (by kernel_rfl) (by kernel_rfl) (by kernel_rfl)
  (ll 0 (by kernel_rfl) trivial) (λx=>by kernel_rfl)
def qhg:Plan:=⟨[],[],0,0⟩
def zn3 (t0:PV .str)(t1:PV .str):Option (PVs [zf]×PVs []):=
 (zsa t0 t1 (t1.length:Int) (-1)).bind λr1=>
   some ((r1.1.1,()),())
def zx9:Ct:=⟨[(.bor,.str),(.bor,.str)],[(zf,.b)],λx=>zn3 x.1 x.2.1⟩
def qhh:Cx:=⟨tab,arrs,[(215,zyo)],[],gl,[]⟩
theorem qhi:FnOk gl Tryz.prog 145 zx9:=
 fo qhh qhg 0 (oz ⟨qid,trivial⟩ trivial) Tryz.func145 (by kernel_rfl) (by kernel_rfl) (by kernel_rfl)
  (ll 0 (by kernel_rfl) trivial) (λx=>by kernel_rfl)
def qs0:List Out:=[⟨.normal,⟨[],[3],[]⟩,mkSh 21 [(3,.val zf .b)]⟩]
def qv8:Plan:=⟨[(7,qs0)],[],0,0⟩
def zl6 (t0:PV .str):Option (PVs [zf]×PVs []):=
 bif (t0==[]) then
  some (([],()),())
 else
  (zn3 t0 [10]).bind λr2=>
    ((
      bif inB (IntKind.wrap .i64 ((r2.1.1.length:Int) -1)) r2.1.1.length then
       bif ((r2.1.1.getD ((IntKind.wrap .i64 ((r2.1.1.length:Int) -1)).toNat) [])==[]) then
        bif cutB 0 (IntKind.wrap .i64 ((r2.1.1.length:Int) -1)) r2.1.1.length then
         some ((cutL 0 (IntKind.wrap .i64 ((r2.1.1.length:Int) -1)) r2.1.1),())
        else
         none
       else
        some (r2.1.1,())
      else
       none:Option ((PV zf×Unit)))).bind λj3=>
      some ((j3.1,()),())
def ztn:Ct:=⟨[(.bor,.str)],[(zf,.b)],λx=>zl6 x.1⟩
def qv9:Cx:=⟨tab,arrs,[(145,zx9)],[],gl,[]⟩
theorem z5n:FnOk gl Tryz.prog 75 ztn:=
 fo qv9 qv8 0 (oz ⟨qhi,trivial⟩ trivial) Tryz.func75 (by kernel_rfl) (by kernel_rfl) (by kernel_rfl)
  (ll 0 (by kernel_rfl) trivial) (λx=>by kernel_rfl)
def qf6:Plan:=⟨[],[],0,0⟩
def zn1 (t0:PV .str)(t1:PV .str):Option (PVs [.bool]×PVs []):=
 bif (decide ((t0.length:Int)>=(t1.length:Int))) then
  bif cutB 0 (t1.length:Int) t0.length then
   some ((((cutL 0 (t1.length:Int) t0)==t1),()),())
  else
   none
 else
  some ((false,()),())
def zxs:Ct:=⟨[(.bor,.str),(.bor,.str)],[(.bool,.b)],λx=>zn1 x.1 x.2.1⟩
def qf7:Cx:=⟨tab,arrs,[],[],gl,[]⟩
theorem qf8:FnOk gl Tryz.prog 255 zxs:=
 fo qf7 qf6 0 (oz trivial trivial) Tryz.func255 (by kernel_rfl) (by kernel_rfl) (by kernel_rfl)
  (ll 0 (by kernel_rfl) trivial) (λx=>by kernel_rfl)
def qf9:Plan:=⟨[],[],0,0⟩
def zr3 (t0:PV .str)(t1:PV .str):Option (PVs [.str,.bool]×PVs []):=
 (zn1 t0 t1).bind λr4=>
   bif (!r4.1.1) then
    some ((t0,false,()),())
   else
    bif cutB (t1.length:Int) (t0.length:Int) t0.length then
     some (((cutL (t1.length:Int) (t0.length:Int) t0),true,()),())
    else
     none
def zxt:Ct:=⟨[(.bor,.str),(.bor,.str)],[(.str,.b),(.bool,.b)],λx=>zr3 x.1 x.2.1⟩
def qga:Cx:=⟨tab,arrs,[(255,zxs)],[],gl,[]⟩
theorem qgb:FnOk gl Tryz.prog 260 zxt:=
 fo qga qf9 0 (oz ⟨qf8,trivial⟩ trivial) Tryz.func260 (by kernel_rfl) (by kernel_rfl) (by kernel_rfl)
  (ll 0 (by kernel_rfl) trivial) (λx=>by kernel_rfl)
def qhz:Plan:=⟨[],[],0,0⟩
def zla (t0:PV .str)(t1:PV .str):Option (PVs [.str,.bool]×PVs []):=
 (zr3 t0 t1).bind λr1=>
   some ((r1.1.1,r1.1.2.1,()),())
def zr5:Ct:=⟨[(.bor,.str),(.bor,.str)],[(.str,.b),(.bool,.b)],λx=>zla x.1 x.2.1⟩
def qh0:Cx:=⟨tab,arrs,[(260,zxt)],[],gl,[]⟩
theorem zyh:FnOk gl Tryz.prog 218 zr5:=
 fo qh0 qhz 0 (oz ⟨qgb,trivial⟩ trivial) Tryz.func218 (by kernel_rfl) (by kernel_rfl) (by kernel_rfl)
  (ll 0 (by kernel_rfl) trivial) (λx=>by kernel_rfl)
def qgc:Plan:=⟨[],[],0,0⟩
def zr4 (t0:PV .str)(t1:PV .str):Option (PVs [.str,.bool]×PVs []):=
 (zg0 t0 t1).bind λr4=>
   bif (!r4.1.1) then
    some ((t0,false,()),())
   else
    bif cutB 0 (IntKind.wrap .i64 ((t0.length:Int) -(t1.length:Int))) t0.length then
     some (((cutL 0 (IntKind.wrap .i64 ((t0.length:Int) -(t1.length:Int))) t0),true,()),())
    else
     none
def zxu:Ct:=⟨[(.bor,.str),(.bor,.str)],[(.str,.b),(.bool,.b)],λx=>zr4 x.1 x.2.1⟩
def qgd:Cx:=⟨tab,arrs,[(265,zn0)],[],gl,[]⟩
theorem qge:FnOk gl Tryz.prog 261 zxu:=
 fo qgd qgc 0 (oz ⟨zr0,trivial⟩ trivial) Tryz.func261 (by kernel_rfl) (by kernel_rfl) (by kernel_rfl)
  (ll 0 (by kernel_rfl) trivial) (λx=>by kernel_rfl)
def qh1:Plan:=⟨[],[],0,0⟩
def zlb (t0:PV .str)(t1:PV .str):Option (PVs [.str,.bool]×PVs []):=
 (zr4 t0 t1).bind λr1=>
   some ((r1.1.1,r1.1.2.1,()),())
def zr6:Ct:=⟨[(.bor,.str),(.bor,.str)],[(.str,.b),(.bool,.b)],λx=>zlb x.1 x.2.1⟩
def qh2:Cx:=⟨tab,arrs,[(261,zxu)],[],gl,[]⟩
theorem zyi:FnOk gl Tryz.prog 219 zr6:=
 fo qh2 qh1 0 (oz ⟨qge,trivial⟩ trivial) Tryz.func219 (by kernel_rfl) (by kernel_rfl) (by kernel_rfl)
  (ll 0 (by kernel_rfl) trivial) (λx=>by kernel_rfl)
def qgh:Plan:=⟨[],[],0,0⟩
def zn2 (t0:PV .str)(t1:PV .str):Option (PVs [.str,.str,.bool]×PVs []):=
 (zfn t0 t1).bind λr4=>
   bif (decide (r4.1.1>=0)) then
    bif cutB 0 r4.1.1 t0.length then
     bif cutB (IntKind.wrap .i64 (r4.1.1+(t1.length:Int))) (t0.length:Int) t0.length then
      some (((cutL 0 r4.1.1 t0),(cutL (IntKind.wrap .i64 (r4.1.1+(t1.length:Int))) (t0.length:Int) t0),true,()),())
     else
      none
    else
     none
   else
    some ((t0,[],false,()),())
def zxw:Ct:=⟨[(.bor,.str),(.bor,.str)],[(.str,.b),(.str,.b),(.bool,.b)],λx=>zn2 x.1 x.2.1⟩
def qgi:Cx:=⟨tab,arrs,[(277,zxv)],[],gl,[]⟩
theorem qgj:FnOk gl Tryz.prog 253 zxw:=
 fo qgi qgh 0 (oz ⟨qgg,trivial⟩ trivial) Tryz.func253 (by kernel_rfl) (by kernel_rfl) (by kernel_rfl)
  (ll 0 (by kernel_rfl) trivial) (λx=>by kernel_rfl)
def qpz:Plan:=⟨[],[],0,0⟩
def zc8 (t0:PV .str)(t1:PV .str):Option (PVs [.str,.str,.bool]×PVs []):=
 (zn2 t0 t1).bind λr1=>
   some ((r1.1.1,r1.1.2.1,r1.1.2.2.1,()),())
def zst:Ct:=⟨[(.bor,.str),(.bor,.str)],[(.str,.b),(.str,.b),(.bool,.b)],λx=>zc8 x.1 x.2.1⟩
def qp0:Cx:=⟨tab,arrs,[(253,zxw)],[],gl,[]⟩
theorem z1y:FnOk gl Tryz.prog 211 zst:=
 fo qp0 qpz 0 (oz ⟨qgj,trivial⟩ trivial) Tryz.func211 (by kernel_rfl) (by kernel_rfl) (by kernel_rfl)
  (ll 0 (by kernel_rfl) trivial) (λx=>by kernel_rfl)
def qwa:Plan:=⟨[],[],0,0⟩
def zh6 (t0:PV .str):Option (PVs [(.int .i64),(.int .i64),.bool,.bool]×PVs []):=
 (zc8 t0 [44]).bind λr2=>
   (zll r2.1.1).bind λr4=>
     bif (!r2.1.2.2.1) then
      some ((r4.1.1,r4.1.1,false,r4.1.2.1,()),())
     else
      (zll r2.1.2.1).bind λr6=>
        bif r4.1.2.1 then
         some ((r4.1.1,r6.1.1,true,r6.1.2.1,()),())
        else
         some ((r4.1.1,r6.1.1,true,false,()),())
def zto:Ct:=⟨[(.bor,.str)],[((.int .i64),.b),((.int .i64),.b),(.bool,.b),(.bool,.b)],λx=>zh6 x.1⟩
def qwb:Cx:=⟨tab,arrs,[(211,zst),(212,z0g)],[],gl,[]⟩
theorem z5o:FnOk gl Tryz.prog 143 zto:=
 fo qwb qwa 0 (oz ⟨z1y,qmv,trivial⟩ trivial) Tryz.func143 (by kernel_rfl) (by kernel_rfl) (by kernel_rfl)
  (ll 0 (by kernel_rfl) trivial) (λx=>by kernel_rfl)
def qp1:List Out:=[⟨.normal,⟨[],[7,8,35],[]⟩,mkSh 38 [(7,.val (.int .i64) .b),(8,.val (.int .i64) .b),(35,.val .bool .b)]⟩]
def qs1:Plan:=⟨[(3,qp1)],[],0,0⟩
def ztp (t0:PV .str)(t1:PV (.int .i64)):Option (PVs [(.int .i64),(.int .i64),.bool]×PVs []):=
 (zh6 t0).bind λr2=>
   ((
     bif (!r2.1.2.2.2.1) then
      some (r2.1.1,r2.1.2.1,true,())
     else
      bif (decide ((bif decide (r2.1.2.1>r2.1.1) then r2.1.2.1 else r2.1.1)>1000)) then
       some (r2.1.1,r2.1.2.1,true,())
      else
       bif r2.1.2.2.1 then
        some (r2.1.1,r2.1.2.1,(decide (r2.1.1>(IntKind.wrap .i64 (r2.1.2.1+t1)))),())
       else
        some (r2.1.1,r2.1.2.1,false,()):Option ((PV (.int .i64)×PV (.int .i64)×PV .bool×Unit)))).bind λj4=>
     bif j4.2.2.1 then
      some ((0,0,false,()),())
     else
      some ((j4.1,j4.2.1,true,()),())
def z3s:Ct:=⟨[(.bor,.str),(.bor,(.int .i64))],[((.int .i64),.b),((.int .i64),.b),(.bool,.b)],λx=>ztp x.1 x.2.1⟩
def qs2:Cx:=⟨tab,arrs,[(143,zto)],[],gl,[]⟩
theorem qs3:FnOk gl Tryz.prog 267 z3s:=
 fo qs2 qs1 0 (oz ⟨z5o,trivial⟩ trivial) Tryz.func267 (by kernel_rfl) (by kernel_rfl) (by kernel_rfl)
  (ll 0 (by kernel_rfl) trivial) (λx=>by kernel_rfl)
def qwc:Plan:=⟨[],[],0,0⟩
def zpc (t0:PV .str):Option (PVs [(.int .i64),(.int .i64),.bool]×PVs []):=
 (ztp t0 1).bind λr1=>
   some ((r1.1.1,r1.1.2.1,r1.1.2.2.1,()),())
def z5p:Ct:=⟨[(.bor,.str)],[((.int .i64),.b),((.int .i64),.b),(.bool,.b)],λx=>zpc x.1⟩
def qwd:Cx:=⟨tab,arrs,[(267,z3s)],[],gl,[]⟩
theorem qwe:FnOk gl Tryz.prog 232 z5p:=
 fo qwd qwc 0 (oz ⟨qs3,trivial⟩ trivial) Tryz.func232 (by kernel_rfl) (by kernel_rfl) (by kernel_rfl)
  (ll 0 (by kernel_rfl) trivial) (λx=>by kernel_rfl)
def qs4:Plan:=⟨[],[],0,0⟩
def zjl (t0:PV zf)(t1:PV .str)(t2:PV .str):Option (PVs [(.int .i64),zf,.bool]×PVs []):=
 bif ((t0.length:Int)==0) then
  some ((0,[],false,()),())
 else
  bif inB 0 t0.length then
   (zla (t0.getD ((0:Int).toNat) []) t1).bind λr2=>
     (zlb r2.1.1 t2).bind λr4=>
       (zpc r4.1.1).bind λr6=>
         bif cutB 1 (t0.length:Int) t0.length then
          bif r2.1.2.1 then
           bif r4.1.2.1 then
            some ((r6.1.1,(cutL 1 (t0.length:Int) t0),r6.1.2.2.1,()),())
           else
            some ((r6.1.1,(cutL 1 (t0.length:Int) t0),false,()),())
          else
           some ((r6.1.1,(cutL 1 (t0.length:Int) t0),false,()),())
         else
          none
  else
   none
def z3t:Ct:=⟨[(.bor,zf),(.bor,.str),(.bor,.str)],[((.int .i64),.b),(zf,.b),(.bool,.b)],λx=>zjl x.1 x.2.1 x.2.2.1⟩
def qs5:Cx:=⟨tab,arrs,[(218,zr5),(219,zr6),(232,z5p)],[],gl,[]⟩
theorem qs6:FnOk gl Tryz.prog 170 z3t:=
 fo qs5 qs4 0 (oz ⟨zyh,zyi,qwe,trivial⟩ trivial) Tryz.func170 (by kernel_rfl) (by kernel_rfl) (by kernel_rfl)
  (ll 0 (by kernel_rfl) trivial) (λx=>by kernel_rfl)
def qf0:Plan:=⟨[],[],0,0⟩
def zr1 (t0:PV .str)(t1:PV .str):Option (PVs [.str]×PVs []):=
 (zg0 t0 t1).bind λr4=>
   bif r4.1.1 then
    bif cutB 0 (IntKind.wrap .i64 ((t0.length:Int) -(t1.length:Int))) t0.length then
     some (((cutL 0 (IntKind.wrap .i64 ((t0.length:Int) -(t1.length:Int))) t0),()),())
    else
     none
   else
    some ((t0,()),())
def zxq:Ct:=⟨[(.bor,.str),(.bor,.str)],[(.str,.b)],λx=>zr1 x.1 x.2.1⟩
def qf1:Cx:=⟨tab,arrs,[(265,zn0)],[],gl,[]⟩
theorem qf2:FnOk gl Tryz.prog 249 zxq:=
 fo qf1 qf0 0 (oz ⟨zr0,trivial⟩ trivial) Tryz.func249 (by kernel_rfl) (by kernel_rfl) (by kernel_rfl)
  (ll 0 (by kernel_rfl) trivial) (λx=>by kernel_rfl)
def qhj:Plan:=⟨[],[],0,0⟩
def zr7 (t0:PV .str)(t1:PV .str):Option (PVs [.str]×PVs []):=
 (zr1 t0 t1).bind λr1=>
   some ((r1.1.1,()),())
def zya:Ct:=⟨[(.bor,.str),(.bor,.str)],[(.str,.b)],λx=>zr7 x.1 x.2.1⟩
def qhk:Cx:=⟨tab,arrs,[(249,zxq)],[],gl,[]⟩
theorem qhl:FnOk gl Tryz.prog 206 zya:=
 fo qhk qhj 0 (oz ⟨qf2,trivial⟩ trivial) Tryz.func206 (by kernel_rfl) (by kernel_rfl) (by kernel_rfl)
  (ll 0 (by kernel_rfl) trivial) (λx=>by kernel_rfl)
def q1g:Plan:=⟨[],[],0,0⟩
def zj7 (t0:PV .str):Option (PVs [.str]×PVs []):=
 (zr7 t0 [10]).bind λr1=>
   some ((r1.1.1,()),())
def zuj:Ct:=⟨[(.bor,.str)],[(.str,.b)],λx=>zj7 x.1⟩
def q1h:Cx:=⟨tab,arrs,[(206,zya)],[],gl,[]⟩
theorem z8m:FnOk gl Tryz.prog 141 zuj:=
 fo q1h q1g 0 (oz ⟨qhl,trivial⟩ trivial) Tryz.func141 (by kernel_rfl) (by kernel_rfl) (by kernel_rfl)
  (ll 0 (by kernel_rfl) trivial) (λx=>by kernel_rfl)
def qp2:List Out:=[⟨.normal,⟨[(9,.b)],[0,1,2,8,9,15,16,17,18,19,22,23,24,25,26,29,30,31,32,33,34,35,55,56,57,58],[]⟩,mkSh 72 [(0,.val zf .b),(1,.val .str .b),(2,.val (.int .i64) .b),(8,.val zi (.row (.pr .b (.pr .b .b)))),(9,.var zo .b),(15,.val zf .b),(16,.bad .str),(17,.val .str .b),(18,.val (.int .i64) .b),(19,.val .bool .b),(22,.val zf .b),(23,.bad .str),(24,.val .str .b),(25,.val (.int .u8) .b),(26,.val .bool .b),(29,.val .str .b),(30,.val .str .b),(31,.val zf .b),(32,.bad .str),(33,.val .str .b),(34,.val .str .b),(35,.val .bool .b)]⟩]
def qp3:List Out:=[⟨.normal,⟨[],[0,1,2,8,9,15,16,17,18,19,22,23,24,25,26,29,30,31,32,33,34,35,59],[]⟩,mkSh 72 [(0,.val zf .b),(1,.val .str .b),(2,.val (.int .i64) .b),(8,.val zi (.row (.pr .b (.pr .b .b)))),(9,.var zo .b),(15,.val zf .b),(16,.bad .str),(17,.val .str .b),(18,.val (.int .i64) .b),(19,.val .bool .b),(22,.val zf .b),(23,.bad .str),(24,.val .str .b),(25,.val (.int .u8) .b),(26,.val .bool .b),(29,.val .str .b),(30,.val .str .b),(31,.val zf .b),(32,.bad .str),(33,.val .str .b),(34,.val .str .b),(35,.val .bool .b),(59,.val .bool .b)]⟩]
def qp4:List Out:=[⟨.normal,⟨[(9,.b)],[0,1,2,8,9,15,16,17,18,19,22,23,24,25,26,29,30,31,32,33,34,35,55,56,57,58],[]⟩,mkSh 72 [(0,.val zf .b),(1,.val .str .b),(2,.val (.int .i64) .b),(8,.val zi (.row (.pr .b (.pr .b .b)))),(9,.var zo .b),(15,.val zf .b),(16,.bad .str),(17,.val .str .b),(18,.val (.int .i64) .b),(19,.val .bool .b),(22,.val zf .b),(23,.bad .str),(24,.val .str .b),(25,.val (.int .u8) .b),(26,.val .bool .b),(29,.val .str .b),(30,.val .str .b),(31,.val zf .b),(32,.bad .str),(33,.val .str .b),(34,.val .str .b),(35,.val .bool .b)]⟩]
def qn3:List Sh:=mkSh 72 [(0,.val zf .b),(1,.val .str .b),(2,.val (.int .i64) .b),(8,.val zi (.row (.pr .b (.pr .b .b))))]
def qp5:List Out:=[⟨.exit 0,⟨[],[0,8],[]⟩,mkSh 72 [(0,.val zf .b),(8,.val zi (.row (.pr .b (.pr .b .b))))]⟩]
def zhd (t0:PV zf)(t1:PV .str)(t2:PV (.int .i64))(t8:PV zi):Option ((PV zf×PV .str×PV (.int .i64)×PV zi×Unit)⊕((PV zf×PV zi×Unit))):=
 bif (decide ((t0.length:Int)>0)) then
  bif inB 0 t0.length then
   bif (decide (((t0.getD ((0:Int).toNat) []).length:Int)>1)) then
    bif inB 0 t0.length then
     bif inB 1 (t0.getD ((0:Int).toNat) []).length then
      bif ((((t0.getD ((0:Int).toNat) []).getD (1:Int).toNat 0).toNat:Int)==32) then
       bif decide ([32,33].length+t1.length<=1099511627776) then
        bif inB 0 t0.length then
         bif cutB 0 1 (t0.getD ((0:Int).toNat) []).length then
          (zlc ([32,33]++t1) (cutL 0 1 (t0.getD ((0:Int).toNat) []))).bind λr10=>
            bif r10.1.1 then
             bif inB 0 t0.length then
              bif cutB 2 ((t0.getD ((0:Int).toNat) []).length:Int) (t0.getD ((0:Int).toNat) []).length then
               ((
                 bif inB 0 t0.length then
                  bif inB 0 (t0.getD ((0:Int).toNat) []).length then
                   bif ((((t0.getD ((0:Int).toNat) []).getD (0:Int).toNat 0).toNat:Int)==32) then
                    some (t0,t1,t2,t8,(1,((cutL 2 ((t0.getD ((0:Int).toNat) []).length:Int) (t0.getD ((0:Int).toNat) [])),())),t0,(t0.getD ((0:Int).toNat) []),(t0.getD ((0:Int).toNat) []),((t0.getD ((0:Int).toNat) []).length:Int),(decide (((t0.getD ((0:Int).toNat) []).length:Int)>1)),t0,(t0.getD ((0:Int).toNat) []),(t0.getD ((0:Int).toNat) []),(((t0.getD ((0:Int).toNat) []).getD (1:Int).toNat 0).toNat:Int),((((t0.getD ((0:Int).toNat) []).getD (1:Int).toNat 0).toNat:Int)==32),t1,([32,33]++t1),t0,(t0.getD ((0:Int).toNat) []),(t0.getD ((0:Int).toNat) []),(cutL 0 1 (t0.getD ((0:Int).toNat) [])),r10.1.1,())
                   else
                    some (t0,t1,t2,t8,(t2,((cutL 2 ((t0.getD ((0:Int).toNat) []).length:Int) (t0.getD ((0:Int).toNat) [])),())),t0,(t0.getD ((0:Int).toNat) []),(t0.getD ((0:Int).toNat) []),((t0.getD ((0:Int).toNat) []).length:Int),(decide (((t0.getD ((0:Int).toNat) []).length:Int)>1)),t0,(t0.getD ((0:Int).toNat) []),(t0.getD ((0:Int).toNat) []),(((t0.getD ((0:Int).toNat) []).getD (1:Int).toNat 0).toNat:Int),((((t0.getD ((0:Int).toNat) []).getD (1:Int).toNat 0).toNat:Int)==32),t1,([32,33]++t1),t0,(t0.getD ((0:Int).toNat) []),(t0.getD ((0:Int).toNat) []),(cutL 0 1 (t0.getD ((0:Int).toNat) [])),r10.1.1,())
                  else
                   none
                 else
                  none:Option ((PV zf×PV .str×PV (.int .i64)×PV zi×PV zo×PV zf×PV .str×PV .str×PV (.int .i64)×PV .bool×PV zf×PV .str×PV .str×PV (.int .u8)×PV .bool×PV .str×PV .str×PV zf×PV .str×PV .str×PV .str×PV .bool×Unit)))).bind λj11=>
                 bif cutB 1 (j11.1.length:Int) j11.1.length then
                  ((
                    ((
                      bif (decide (((cutL 1 (j11.1.length:Int) j11.1).length:Int)>0)) then
                       bif inB 0 (cutL 1 (j11.1.length:Int) j11.1).length then
                        some ((cutL 1 (j11.1.length:Int) j11.1),j11.2.1,j11.2.2.1,j11.2.2.2.1,j11.2.2.2.2.1,j11.2.2.2.2.2.1,j11.2.2.2.2.2.2.1,j11.2.2.2.2.2.2.2.1,j11.2.2.2.2.2.2.2.2.1,j11.2.2.2.2.2.2.2.2.2.1,j11.2.2.2.2.2.2.2.2.2.2.1,j11.2.2.2.2.2.2.2.2.2.2.2.1,j11.2.2.2.2.2.2.2.2.2.2.2.2.1,j11.2.2.2.2.2.2.2.2.2.2.2.2.2.1,j11.2.2.2.2.2.2.2.2.2.2.2.2.2.2.1,j11.2.2.2.2.2.2.2.2.2.2.2.2.2.2.2.1,j11.2.2.2.2.2.2.2.2.2.2.2.2.2.2.2.2.1,j11.2.2.2.2.2.2.2.2.2.2.2.2.2.2.2.2.2.1,j11.2.2.2.2.2.2.2.2.2.2.2.2.2.2.2.2.2.2.1,j11.2.2.2.2.2.2.2.2.2.2.2.2.2.2.2.2.2.2.2.1,j11.2.2.2.2.2.2.2.2.2.2.2.2.2.2.2.2.2.2.2.2.1,j11.2.2.2.2.2.2.2.2.2.2.2.2.2.2.2.2.2.2.2.2.2.1,(((cutL 1 (j11.1.length:Int) j11.1).getD ((0:Int).toNat) [])==[92,32,110,111,110,101,10]),())
                       else
                        none
                      else
                       some ((cutL 1 (j11.1.length:Int) j11.1),j11.2.1,j11.2.2.1,j11.2.2.2.1,j11.2.2.2.2.1,j11.2.2.2.2.2.1,j11.2.2.2.2.2.2.1,j11.2.2.2.2.2.2.2.1,j11.2.2.2.2.2.2.2.2.1,j11.2.2.2.2.2.2.2.2.2.1,j11.2.2.2.2.2.2.2.2.2.2.1,j11.2.2.2.2.2.2.2.2.2.2.2.1,j11.2.2.2.2.2.2.2.2.2.2.2.2.1,j11.2.2.2.2.2.2.2.2.2.2.2.2.2.1,j11.2.2.2.2.2.2.2.2.2.2.2.2.2.2.1,j11.2.2.2.2.2.2.2.2.2.2.2.2.2.2.2.1,j11.2.2.2.2.2.2.2.2.2.2.2.2.2.2.2.2.1,j11.2.2.2.2.2.2.2.2.2.2.2.2.2.2.2.2.2.1,j11.2.2.2.2.2.2.2.2.2.2.2.2.2.2.2.2.2.2.1,j11.2.2.2.2.2.2.2.2.2.2.2.2.2.2.2.2.2.2.2.1,j11.2.2.2.2.2.2.2.2.2.2.2.2.2.2.2.2.2.2.2.2.1,j11.2.2.2.2.2.2.2.2.2.2.2.2.2.2.2.2.2.2.2.2.2.1,false,()):Option ((PV zf×PV .str×PV (.int .i64)×PV zi×PV zo×PV zf×PV .str×PV .str×PV (.int .i64)×PV .bool×PV zf×PV .str×PV .str×PV (.int .u8)×PV .bool×PV .str×PV .str×PV zf×PV .str×PV .str×PV .str×PV .bool×PV .bool×Unit)))).bind λj12=>
                      bif j12.2.2.2.2.2.2.2.2.2.2.2.2.2.2.2.2.2.2.2.2.2.2.1 then
                       (zj7 j12.2.2.2.2.1.2.1).bind λr13=>
                         bif cutB 1 (j12.1.length:Int) j12.1.length then
                          some ((cutL 1 (j12.1.length:Int) j12.1),j12.2.1,j12.2.2.1,j12.2.2.2.1,(j12.2.2.2.2.1.1,(r13.1.1,j12.2.2.2.2.1.2.2)),j12.2.2.2.2.2.1,j12.2.2.2.2.2.2.1,j12.2.2.2.2.2.2.2.1,j12.2.2.2.2.2.2.2.2.1,j12.2.2.2.2.2.2.2.2.2.1,j12.2.2.2.2.2.2.2.2.2.2.1,j12.2.2.2.2.2.2.2.2.2.2.2.1,j12.2.2.2.2.2.2.2.2.2.2.2.2.1,j12.2.2.2.2.2.2.2.2.2.2.2.2.2.1,j12.2.2.2.2.2.2.2.2.2.2.2.2.2.2.1,j12.2.2.2.2.2.2.2.2.2.2.2.2.2.2.2.1,j12.2.2.2.2.2.2.2.2.2.2.2.2.2.2.2.2.1,j12.2.2.2.2.2.2.2.2.2.2.2.2.2.2.2.2.2.1,j12.2.2.2.2.2.2.2.2.2.2.2.2.2.2.2.2.2.2.1,j12.2.2.2.2.2.2.2.2.2.2.2.2.2.2.2.2.2.2.2.1,j12.2.2.2.2.2.2.2.2.2.2.2.2.2.2.2.2.2.2.2.2.1,j12.2.2.2.2.2.2.2.2.2.2.2.2.2.2.2.2.2.2.2.2.2.1,())
                         else
                          none
                      else
                       some (j12.1,j12.2.1,j12.2.2.1,j12.2.2.2.1,j12.2.2.2.2.1,j12.2.2.2.2.2.1,j12.2.2.2.2.2.2.1,j12.2.2.2.2.2.2.2.1,j12.2.2.2.2.2.2.2.2.1,j12.2.2.2.2.2.2.2.2.2.1,j12.2.2.2.2.2.2.2.2.2.2.1,j12.2.2.2.2.2.2.2.2.2.2.2.1,j12.2.2.2.2.2.2.2.2.2.2.2.2.1,j12.2.2.2.2.2.2.2.2.2.2.2.2.2.1,j12.2.2.2.2.2.2.2.2.2.2.2.2.2.2.1,j12.2.2.2.2.2.2.2.2.2.2.2.2.2.2.2.1,j12.2.2.2.2.2.2.2.2.2.2.2.2.2.2.2.2.1,j12.2.2.2.2.2.2.2.2.2.2.2.2.2.2.2.2.2.1,j12.2.2.2.2.2.2.2.2.2.2.2.2.2.2.2.2.2.2.1,j12.2.2.2.2.2.2.2.2.2.2.2.2.2.2.2.2.2.2.2.1,j12.2.2.2.2.2.2.2.2.2.2.2.2.2.2.2.2.2.2.2.2.1,j12.2.2.2.2.2.2.2.2.2.2.2.2.2.2.2.2.2.2.2.2.2.1,()):Option ((PV zf×PV .str×PV (.int .i64)×PV zi×PV zo×PV zf×PV .str×PV .str×PV (.int .i64)×PV .bool×PV zf×PV .str×PV .str×PV (.int .u8)×PV .bool×PV .str×PV .str×PV zf×PV .str×PV .str×PV .str×PV .bool×Unit)))).bind λj14=>
                    bif qm (j14.2.2.2.1.length+[j14.2.2.2.2.1].length) then
                     some (.inl (j14.1,j14.2.1,j14.2.2.1,(j14.2.2.2.1++[j14.2.2.2.2.1]),()))
                    else
                     none
                 else
                  none
              else
               none
             else
              none
            else
             some (.inr (t0,t8,()))
         else
          none
        else
         none
       else
        none
      else
       some (.inr (t0,t8,()))
     else
      none
    else
     none
   else
    some (.inr (t0,t8,()))
  else
   none
 else
  some (.inr (t0,t8,()))
def z1z:PV zf×PV .str×PV (.int .i64)×PV zi×Unit->Option ((PV zf×PV zi×Unit)):=fix λd=>zhd d.1 d.2.1 d.2.2.1 d.2.2.2.1
def z0x:Lp:=⟨⟨[],[0,1,2,8,55,56,57,58],[]⟩,qn3,qp5,λd=>zhd d.1 d.2.1 d.2.2.1 d.2.2.2.1⟩
def qs7:Plan:=⟨[(6,qp2),(8,qp3),(9,qp4)],[(2,z0x)],0,0⟩
def zlz (t0:PV zf)(t1:PV .str)(t2:PV (.int .i64)):Option (PVs [zi,zf]×PVs []):=
 (z1z (t0,t1,t2,([]:PV zi),())).bind λl16=>
   some ((l16.2.1,l16.1,()),())
def z3u:Ct:=⟨[(.bor,zf),(.bor,.str),(.bor,(.int .i64))],[(zi,(.row (.pr .b (.pr .b .b)))),(zf,.b)],λx=>zlz x.1 x.2.1 x.2.2.1⟩
def qs8:Cx:=⟨tab,arrs,[(141,zuj),(233,zr8)],[],gl,[]⟩
theorem qs9:FnOk gl Tryz.prog 171 z3u:=
 fo qs8 qs7 0 (oz ⟨z8m,zyp,trivial⟩ trivial) Tryz.func171 (by kernel_rfl) (by kernel_rfl) (by kernel_rfl)
  (ll 1 (by kernel_rfl) (lc z0x (by kernel_rfl) (λd=>by kernel_rfl) trivial)) (λx=>by kernel_rfl)
def qwf:List Out:=[⟨.normal,⟨[],[0,1,5,13,37,38,39,40,41,56,57,58],[]⟩,mkSh 71 [(0,.val zi .b),(1,.val zi .b),(5,.val zi (.row (.pr .b (.pr .b .b)))),(13,.val .bool .b)]⟩]
def qwg:List Out:=[⟨.normal,⟨[],[0,1,5,18,19,20,21,22,32,56,57,58],[]⟩,mkSh 71 [(0,.val zi .b),(1,.val zi .b),(5,.val zi (.row (.pr .b (.pr .b .b)))),(32,.val .bool .b)]⟩]
def qwh:List Out:=[⟨.normal,⟨[],[0,1,5,18,19,20,21,22,37,38,39,40,41,51],[]⟩,mkSh 71 [(0,.val zi .b),(1,.val zi .b),(5,.val zi (.row (.pr .b (.pr .b .b)))),(51,.val .bool .b)]⟩]
def qta:List Sh:=mkSh 71 [(0,.val zi .b),(1,.val zi .b),(5,.val zi (.row (.pr .b (.pr .b .b))))]
def qwi:List Out:=[⟨.exit 0,⟨[],[5],[]⟩,mkSh 71 [(5,.val zi (.row (.pr .b (.pr .b .b))))]⟩,⟨.ret,⟨[],[4],[]⟩,mkSh 71 [(4,.val zi (.row (.pr .b (.pr .b .b))))]⟩]
def zbr (t0:PV zi)(t1:PV zi)(t5:PV zi):Option ((PV zi×PV zi×PV zi×Unit)⊕((PV zi×Unit)⊕(PV zi×Unit))):=
 bif (decide ((IntKind.wrap .i64 ((t0.length:Int)+(t1.length:Int)))>0)) then
  ((
    bif (decide ((t0.length:Int)>0)) then
     bif inB 0 t0.length then
      some (t0,t1,t5,(!(((t0.getD ((0:Int).toNat) (dflt zo)).1)==1)),())
     else
      none
    else
     some (t0,t1,t5,false,()):Option ((PV zi×PV zi×PV zi×PV .bool×Unit)))).bind λj1=>
    bif j1.2.2.2.1 then
     bif inB 0 j1.1.length then
      bif qm (j1.2.2.1.length+[(j1.1.getD ((0:Int).toNat) (dflt zo))].length) then
       bif cutB 1 (j1.1.length:Int) j1.1.length then
        some (.inl ((cutL 1 (j1.1.length:Int) j1.1),j1.2.1,(j1.2.2.1++[(j1.1.getD ((0:Int).toNat) (dflt zo))]),()))
       else
        none
      else
       none
     else
      none
    else
     ((
       bif (decide ((j1.2.1.length:Int)>0)) then
        bif inB 0 j1.2.1.length then
         some (j1.1,j1.2.1,j1.2.2.1,(!(((j1.2.1.getD ((0:Int).toNat) (dflt zo)).1)==1)),())
        else
         none
       else
        some (j1.1,j1.2.1,j1.2.2.1,false,()):Option ((PV zi×PV zi×PV zi×PV .bool×Unit)))).bind λj2=>
       bif j2.2.2.2.1 then
        bif inB 0 j2.2.1.length then
         bif qm (j2.2.2.1.length+[(j2.2.1.getD ((0:Int).toNat) (dflt zo))].length) then
          bif cutB 1 (j2.2.1.length:Int) j2.2.1.length then
           some (.inl (j2.1,(cutL 1 (j2.2.1.length:Int) j2.2.1),(j2.2.2.1++[(j2.2.1.getD ((0:Int).toNat) (dflt zo))]),()))
          else
           none
         else
          none
        else
         none
       else
        ((
          bif (decide ((j2.1.length:Int)>0)) then
           some (j2.1,j2.2.1,j2.2.2.1,(decide ((j2.2.1.length:Int)>0)),())
          else
           some (j2.1,j2.2.1,j2.2.2.1,false,()):Option ((PV zi×PV zi×PV zi×PV .bool×Unit)))).bind λj3=>
          bif j3.2.2.2.1 then
           bif inB 0 j3.1.length then
            bif qm (j3.2.2.1.length+[(j3.1.getD ((0:Int).toNat) (dflt zo))].length) then
             bif cutB 1 (j3.1.length:Int) j3.1.length then
              bif cutB 1 (j3.2.1.length:Int) j3.2.1.length then
               some (.inl ((cutL 1 (j3.1.length:Int) j3.1),(cutL 1 (j3.2.1.length:Int) j3.2.1),(j3.2.2.1++[(j3.1.getD ((0:Int).toNat) (dflt zo))]),()))
              else
               none
             else
              none
            else
             none
           else
            none
          else
           some (.inr (.inr ([],())))
 else
  some (.inr (.inl (t5,())))
def zl0:PV zi×PV zi×PV zi×Unit->Option ((PV zi×Unit)⊕(PV zi×Unit)):=fix λd=>zbr d.1 d.2.1 d.2.2.1
def z3v:Lp:=⟨⟨[],[0,1,5,18,19,20,21,22,37,38,39,40,41,56,57,58],[]⟩,qta,qwi,λd=>zbr d.1 d.2.1 d.2.2.1⟩
def qzj:Plan:=⟨[(5,qwf),(7,qwg),(9,qwh)],[(2,z3v)],0,0⟩
def zmj (t0:PV zi)(t1:PV zi):Option (PVs [zi]×PVs []):=
 (zl0 (t0,t1,([]:PV zi),())).bind λx8=>
   match x8 with
   | .inl l6=>
     some ((l6.1,()),())
   | .inr l7=>
     some ((l7.1,()),())
def z7d:Ct:=⟨[(.bor,zi),(.bor,zi)],[(zi,(.row (.pr .b (.pr .b .b))))],λx=>zmj x.1 x.2.1⟩
def qzk:Cx:=⟨tab,arrs,[],[],gl,[]⟩
theorem qzl:FnOk gl Tryz.prog 173 z7d:=
 fo qzk qzj 0 (oz trivial trivial) Tryz.func173 (by kernel_rfl) (by kernel_rfl) (by kernel_rfl)
  (ll 1 (by kernel_rfl) (lc z3v (by kernel_rfl) (λd=>by kernel_rfl) trivial)) (λx=>by kernel_rfl)
def qn4:List Out:=[⟨.normal,⟨[],[0,4,24],[]⟩,mkSh 90 [(0,.val zf .b),(4,.val zk (.row (.pr .b (.pr .b (.pr (.row (.pr .b (.pr .b .b))) .b))))),(24,.val .bool .b)]⟩]
def ql0:List Out:=[⟨.normal,⟨[],[4,5,6,8,9,10,21,22,23],[]⟩,mkSh 90 [(4,.val zk (.row (.pr .b (.pr .b (.pr (.row (.pr .b (.pr .b .b))) .b))))),(5,.val (.int .i64) .b),(6,.val zf .b),(8,.val zi (.row (.pr .b (.pr .b .b)))),(9,.val (.int .i64) .b),(10,.val zi (.row (.pr .b (.pr .b .b))))]⟩]
def ql1:List Out:=[⟨.normal,⟨[],[4,6,10,11,21,22,23],[]⟩,mkSh 90 [(4,.val zk (.row (.pr .b (.pr .b (.pr (.row (.pr .b (.pr .b .b))) .b))))),(6,.val zf .b),(10,.val zi (.row (.pr .b (.pr .b .b)))),(11,.var zh (.pr .b (.pr .b (.pr (.row (.pr .b (.pr .b .b))) .b))))]⟩]
def ql2:List Out:=[⟨.normal,⟨[],[4,6,11,21,22,23],[]⟩,mkSh 90 [(4,.val zk (.row (.pr .b (.pr .b (.pr (.row (.pr .b (.pr .b .b))) .b))))),(6,.val zf .b),(11,.var zh (.pr .b (.pr .b (.pr (.row (.pr .b (.pr .b .b))) .b))))]⟩]
def ql3:List Sh:=mkSh 90 [(0,.val zf .b),(4,.val zk (.row (.pr .b (.pr .b (.pr (.row (.pr .b (.pr .b .b))) .b)))))]
def qn5:List Out:=[⟨.exit 0,⟨[],[4],[]⟩,mkSh 90 [(4,.val zk (.row (.pr .b (.pr .b (.pr (.row (.pr .b (.pr .b .b))) .b)))))]⟩,⟨.ret,⟨[],[2,3],[]⟩,mkSh 90 [(2,.val zk (.row (.pr .b (.pr .b (.pr (.row (.pr .b (.pr .b .b))) .b))))),(3,.val .bool .b)]⟩]
def zbl (t0:PV zf)(t4:PV zk):Option ((PV zf×PV zk×Unit)⊕((PV zk×Unit)⊕(PV zk×PV .bool×Unit))):=
 bif (decide ((t0.length:Int)>0)) then
  ((
    bif inB 0 t0.length then
     bif (!((t0.getD ((0:Int).toNat) [])==[42,42,42,42,42,42,42,42,42,42,42,42,42,42,42,10])) then
      some (t0,t4,true,())
     else
      some (t0,t4,((t4.length:Int)==20),())
    else
     none:Option ((PV zf×PV zk×PV .bool×Unit)))).bind λj2=>
    bif j2.2.2.1 then
     some (.inr (.inr ([],false,())))
    else
     bif cutB 1 (j2.1.length:Int) j2.1.length then
      (zjl (cutL 1 (j2.1.length:Int) j2.1) [42,42,42,32] [32,42,42,42,42,10]).bind λr4=>
        bif (!r4.1.2.2.1) then
         some (.inr (.inr ([],false,())))
        else
         (zlz r4.1.2.1 [45] 2).bind λr6=>
           (zjl r6.1.2.1 [45,45,45,32] [32,45,45,45,45,10]).bind λr8=>
             bif (!r8.1.2.2.1) then
              some (.inr (.inr ([],false,())))
             else
              (zlz r8.1.2.1 [43] 3).bind λr10=>
                ((
                  bif ((r6.1.1.length:Int)==0) then
                   (zmo r10.1.1).bind λr11=>
                     some (j2.2.1,r4.1.1,r10.1.2.1,r11.1.1,r8.1.1,r10.1.1,())
                  else
                   bif ((r10.1.1.length:Int)==0) then
                    (zmo r6.1.1).bind λr12=>
                      some (j2.2.1,r4.1.1,r10.1.2.1,r6.1.1,r8.1.1,r12.1.1,())
                   else
                    some (j2.2.1,r4.1.1,r10.1.2.1,r6.1.1,r8.1.1,r10.1.1,()):Option ((PV zk×PV (.int .i64)×PV zf×PV zi×PV (.int .i64)×PV zi×Unit)))).bind λj13=>
                  (zmj j13.2.2.2.1 j13.2.2.2.2.2.1).bind λr15=>
                    ((
                      bif (decide ((j13.2.2.2.1.length:Int)>0)) then
                       some (j13.1,j13.2.2.1,j13.2.2.2.2.2.1,((IntKind.wrap .i64 (j13.2.1 -1)),(j13.2.2.2.2.1,(r15.1.1,()))),())
                      else
                       some (j13.1,j13.2.2.1,j13.2.2.2.2.2.1,(j13.2.1,(j13.2.2.2.2.1,(r15.1.1,()))),()):Option ((PV zk×PV zf×PV zi×PV zh×Unit)))).bind λj16=>
                      ((
                        bif (decide ((j16.2.2.1.length:Int)>0)) then
                         some (j16.1,j16.2.1,(j16.2.2.2.1.1,((IntKind.wrap .i64 (j16.2.2.2.1.2.1 -1)),j16.2.2.2.1.2.2)),())
                        else
                         some (j16.1,j16.2.1,j16.2.2.2.1,()):Option ((PV zk×PV zf×PV zh×Unit)))).bind λj17=>
                        bif qm (j17.1.length+[j17.2.2.1].length) then
                         some (.inl (j17.2.1,(j17.1++[j17.2.2.1]),()))
                        else
                         none
     else
      none
 else
  some (.inr (.inl (t4,())))
def zhc:PV zf×PV zk×Unit->Option ((PV zk×Unit)⊕(PV zk×PV .bool×Unit)):=fix λd=>zbl d.1 d.2.1
def zz4:Lp:=⟨⟨[],[0,4,21,22,23],[]⟩,ql3,qn5,λd=>zbl d.1 d.2.1⟩
def qp6:Plan:=⟨[(4,qn4),(17,ql0),(20,ql1),(22,ql2)],[(2,zz4)],0,0⟩
def zjg (t0:PV zf):Option (PVs [zk,.bool]×PVs []):=
 (zhc (t0,([]:PV zk),())).bind λx22=>
   match x22 with
   | .inl l20=>
     some ((l20.1,true,()),())
   | .inr l21=>
     some ((l21.1,l21.2.1,()),())
def z2a:Ct:=⟨[(.bor,zf)],[(zk,(.row (.pr .b (.pr .b (.pr (.row (.pr .b (.pr .b .b))) .b))))),(.bool,.b)],λx=>zjg x.1⟩
def qp7:Cx:=⟨tab,arrs,[(170,z3t),(171,z3u),(172,z8d),(173,z7d)],[],gl,[]⟩
theorem qp8:FnOk gl Tryz.prog 101 z2a:=
 fo qp7 qp6 0 (oz ⟨qs6,qs9,q0g,qzl,trivial⟩ trivial) Tryz.func101 (by kernel_rfl) (by kernel_rfl) (by kernel_rfl)
  (ll 1 (by kernel_rfl) (lc zz4 (by kernel_rfl) (λd=>by kernel_rfl) trivial)) (λx=>by kernel_rfl)
def qkc:List Out:=[⟨.normal,⟨[],[5,31],[]⟩,mkSh 33 [(5,.val zk (.row (.pr .b (.pr .b (.pr (.row (.pr .b (.pr .b .b))) .b))))),(31,.val .bool .b)]⟩]
def qkd:List Out:=[⟨.normal,⟨[],[],[]⟩,mkSh 33 []⟩,⟨.ret,⟨[],[2,3,4],[]⟩,mkSh 33 [(2,.val zk (.row (.pr .b (.pr .b (.pr (.row (.pr .b (.pr .b .b))) .b))))),(3,.val (.int .i64) .b),(4,.val .bool .b)]⟩]
def ql4:Plan:=⟨[(5,qkc),(6,qkd)],[],0,0⟩
def zi9 (t0:PV .str):Option (PVs [zk,(.int .i64),.bool]×PVs []):=
 ((
   bif (decide ((t0.length:Int)<=3000)) then
    (zl6 t0).bind λr10=>
      (zjg r10.1.1).bind λr11=>
        (zls r11.1.1).bind λr13=>
          ((
            bif r11.1.2.1 then
             bif r13.1.2.1 then
              some (r11.1.1,(r13.1.1==t0),())
             else
              some (r11.1.1,false,())
            else
             some (r11.1.1,false,()):Option ((PV zk×PV .bool×Unit)))).bind λj14=>
            bif j14.2.1 then
             some (.inr (j14.1,0,true,()))
            else
             some (.inl ())
   else
    some (.inl ()):Option ((Unit)⊕(PV zk×PV (.int .i64)×PV .bool×Unit)))).bind λx17=>
   match x17 with
   | .inl j15=>
     some (([],1,false,()),())
   | .inr j16=>
     some ((j16.1,j16.2.1,j16.2.2.1,()),())
def zz5:Ct:=⟨[(.bor,.str)],[(zk,(.row (.pr .b (.pr .b (.pr (.row (.pr .b (.pr .b .b))) .b))))),((.int .i64),.b),(.bool,.b)],λx=>zi9 x.1⟩
def ql5:Cx:=⟨tab,arrs,[(46,zsr),(75,ztn),(101,z2a)],[],gl,[]⟩
theorem ql6:FnOk gl Tryz.prog 48 zz5:=
 fo ql5 ql4 0 (oz ⟨z1p,z5n,qp8,trivial⟩ trivial) Tryz.func48 (by kernel_rfl) (by kernel_rfl) (by kernel_rfl)
  (ll 0 (by kernel_rfl) trivial) (λx=>by kernel_rfl)
def qwj:Plan:=⟨[],[],0,0⟩
def zpd (t0:PV (.int .i64))(t1:PV (.int .i64)):Option (PVs [.bool]×PVs []):=
 (zcd t0 0 999).bind λr1=>
   bif r1.1.1 then
    (zcd t1 0 999).bind λr2=>
      some ((r2.1.1,()),())
   else
    some ((false,()),())
def z5q:Ct:=⟨[(.bor,(.int .i64)),(.bor,(.int .i64))],[(.bool,.b)],λx=>zpd x.1 x.2.1⟩
def qwk:Cx:=⟨tab,arrs,[(131,zkp)],[],gl,[]⟩
theorem qwl:FnOk gl Tryz.prog 262 z5q:=
 fo qwk qwj 0 (oz ⟨znf,trivial⟩ trivial) Tryz.func262 (by kernel_rfl) (by kernel_rfl) (by kernel_rfl)
  (ll 0 (by kernel_rfl) trivial) (λx=>by kernel_rfl)
def qn6:List Out:=[⟨.normal,⟨[],[5,6,8,25,26,27,28],[]⟩,mkSh 32 [(5,.val (.int .i64) .b),(6,.val (.int .i64) .b),(8,.val .bool .b)]⟩]
def qn7:List Out:=[⟨.normal,⟨[],[5,6,8,25,26,27,28],[]⟩,mkSh 32 [(5,.val (.int .i64) .b),(6,.val (.int .i64) .b),(8,.val .bool .b)]⟩]
def qn8:List Out:=[⟨.normal,⟨[],[5,6,29],[]⟩,mkSh 32 [(5,.val (.int .i64) .b),(6,.val (.int .i64) .b),(29,.val .bool .b)]⟩]
def qp9:Plan:=⟨[(4,qn6),(6,qn7),(7,qn8)],[],0,0⟩
def zlt (t0:PV .str):Option (PVs [(.int .i64),(.int .i64),.bool]×PVs []):=
 (zh6 t0).bind λr2=>
   ((
     bif (!r2.1.2.2.1) then
      some (r2.1.1,1,r2.1.2.2.2.1,())
     else
      some (r2.1.1,r2.1.2.1,r2.1.2.2.2.1,()):Option ((PV (.int .i64)×PV (.int .i64)×PV .bool×Unit)))).bind λj3=>
     ((
       bif (decide (j3.2.1>0)) then
        some ((IntKind.wrap .i64 (j3.1 -1)),j3.2.1,j3.2.2.1,())
       else
        some (j3.1,j3.2.1,j3.2.2.1,()):Option ((PV (.int .i64)×PV (.int .i64)×PV .bool×Unit)))).bind λj4=>
       ((
         bif (!j4.2.2.1) then
          some (j4.1,j4.2.1,true,())
         else
          (zpd j4.1 j4.2.1).bind λr8=>
            some (j4.1,j4.2.1,(!r8.1.1),()):Option ((PV (.int .i64)×PV (.int .i64)×PV .bool×Unit)))).bind λj9=>
         bif j9.2.2.1 then
          some ((0,0,false,()),())
         else
          some ((j9.1,j9.2.1,true,()),())
def z2c:Ct:=⟨[(.bor,.str)],[((.int .i64),.b),((.int .i64),.b),(.bool,.b)],λx=>zlt x.1⟩
def qqa:Cx:=⟨tab,arrs,[(143,zto),(262,z5q)],[],gl,[]⟩
theorem qqb:FnOk gl Tryz.prog 220 z2c:=
 fo qqa qp9 0 (oz ⟨z5o,qwl,trivial⟩ trivial) Tryz.func220 (by kernel_rfl) (by kernel_rfl) (by kernel_rfl)
  (ll 0 (by kernel_rfl) trivial) (λx=>by kernel_rfl)
def qh3:Plan:=⟨[],[],0,0⟩
def zn5 (t0:PV .str)(t1:PV (.int .u8)):Option (PVs [(.int .i64)]×PVs []):=
 (zr2 t0 t1).bind λr1=>
   some ((r1.1.1,()),())
def zyj:Ct:=⟨[(.bor,.str),(.bor,(.int .u8))],[((.int .i64),.b)],λx=>zn5 x.1 x.2.1⟩
def qh4:Cx:=⟨tab,arrs,[(263,zxr)],[],gl,[]⟩
theorem qh5:FnOk gl Tryz.prog 221 zyj:=
 fo qh4 qh3 0 (oz ⟨qf3,trivial⟩ trivial) Tryz.func221 (by kernel_rfl) (by kernel_rfl) (by kernel_rfl)
  (ll 0 (by kernel_rfl) trivial) (λx=>by kernel_rfl)
def qn9:List Out:=[⟨.normal,⟨[],[0,2,8,11,13,14,15,69,76,77,103,104,105,106,142,143],[]⟩,mkSh 145 [(0,.val zf .b),(2,.var zh (.pr .b (.pr .b (.pr (.row (.pr .b (.pr .b .b))) .b)))),(8,.val .str .b),(11,.val .str .b),(13,.var zh (.pr .b (.pr .b (.pr (.row (.pr .b (.pr .b .b))) .b)))),(14,.val (.int .i64) .b),(15,.val (.int .i64) .b),(69,.val .bool .b)]⟩]
def ql7:List Out:=[⟨.exit 0,⟨[],[0,2,8,11,13,14,15,142,143],[]⟩,mkSh 145 [(0,.val zf .b),(2,.var zh (.pr .b (.pr .b (.pr (.row (.pr .b (.pr .b .b))) .b)))),(8,.val .str .b),(11,.val .str .b),(13,.var zh (.pr .b (.pr .b (.pr (.row (.pr .b (.pr .b .b))) .b)))),(14,.val (.int .i64) .b),(15,.val (.int .i64) .b)]⟩,⟨.normal,⟨[],[0,2,8,11,13,14,15,103,104,105,106,142,143],[]⟩,mkSh 145 [(0,.val zf .b),(2,.var zh (.pr .b (.pr .b (.pr (.row (.pr .b (.pr .b .b))) .b)))),(8,.val .str .b),(11,.val .str .b),(13,.var zh (.pr .b (.pr .b (.pr (.row (.pr .b (.pr .b .b))) .b)))),(14,.val (.int .i64) .b),(15,.val (.int .i64) .b)]⟩]
def ql8:List Out:=[⟨.normal,⟨[],[0,2,8,11,13,14,15,18,76,77,107,142,143],[]⟩,mkSh 145 [(0,.val zf .b),(2,.var zh (.pr .b (.pr .b (.pr (.row (.pr .b (.pr .b .b))) .b)))),(8,.val .str .b),(11,.val .str .b),(13,.var zh (.pr .b (.pr .b (.pr (.row (.pr .b (.pr .b .b))) .b)))),(14,.val (.int .i64) .b),(15,.val (.int .i64) .b),(18,.var zo .b),(107,.val .bool .b)]⟩]
def ql9:List Out:=[⟨.normal,⟨[(18,.b)],[0,2,8,11,13,14,15,18,76,77,103,104,105,106,142,143],[]⟩,mkSh 145 [(0,.val zf .b),(2,.var zh (.pr .b (.pr .b (.pr (.row (.pr .b (.pr .b .b))) .b)))),(8,.val .str .b),(11,.val .str .b),(13,.var zh (.pr .b (.pr .b (.pr (.row (.pr .b (.pr .b .b))) .b)))),(14,.val (.int .i64) .b),(15,.val (.int .i64) .b),(18,.var zo .b)]⟩]
def qma:List Out:=[⟨.normal,⟨[],[0,2,8,11,13,14,15,18,76,77,103,104,105,106,142,143],[]⟩,mkSh 145 [(0,.val zf .b),(2,.var zh (.pr .b (.pr .b (.pr (.row (.pr .b (.pr .b .b))) .b)))),(8,.val .str .b),(11,.val .str .b),(13,.var zh (.pr .b (.pr .b (.pr (.row (.pr .b (.pr .b .b))) .b)))),(14,.val (.int .i64) .b),(15,.val (.int .i64) .b),(18,.var zo .b)]⟩]
def qmb:List Out:=[⟨.normal,⟨[],[0,2,8,11,13,14,15,18,76,77,103,104,105,106,142,143],[]⟩,mkSh 145 [(0,.val zf .b),(2,.var zh (.pr .b (.pr .b (.pr (.row (.pr .b (.pr .b .b))) .b)))),(8,.val .str .b),(11,.val .str .b),(13,.var zh (.pr .b (.pr .b (.pr (.row (.pr .b (.pr .b .b))) .b)))),(14,.val (.int .i64) .b),(15,.val (.int .i64) .b),(18,.var zo .b)]⟩]
def qke:List Sh:=mkSh 145 [(0,.val zf .b),(2,.var zh (.pr .b (.pr .b (.pr (.row (.pr .b (.pr .b .b))) .b)))),(8,.val .str .b),(11,.val .str .b),(13,.var zh (.pr .b (.pr .b (.pr (.row (.pr .b (.pr .b .b))) .b)))),(14,.val (.int .i64) .b),(15,.val (.int .i64) .b)]
def qmc:List Out:=[⟨.exit 0,⟨[],[0,2,8,11,13,14,15,142,143],[]⟩,mkSh 145 [(0,.val zf .b),(2,.var zh (.pr .b (.pr .b (.pr (.row (.pr .b (.pr .b .b))) .b)))),(8,.val .str .b),(11,.val .str .b),(13,.var zh (.pr .b (.pr .b (.pr (.row (.pr .b (.pr .b .b))) .b)))),(14,.val (.int .i64) .b),(15,.val (.int .i64) .b)]⟩,⟨.ret,⟨[],[2,3,4,5],[]⟩,mkSh 145 [(2,.var zh (.pr .b (.pr .b (.pr (.row (.pr .b (.pr .b .b))) .b)))),(3,.val .str .b),(4,.val zf (.row .b)),(5,.val .bool .b)]⟩]
def zfu (t0:PV zf)(t2:PV zh)(t8:PV .str)(t11:PV .str)(t13:PV zh)(t14:PV (.int .i64))(t15:PV (.int .i64)):Option ((PV zf×PV zh×PV .str×PV .str×PV zh×PV (.int .i64)×PV (.int .i64)×Unit)⊕((PV zf×PV zh×PV .str×PV .str×PV zh×PV (.int .i64)×PV (.int .i64)×Unit)⊕(PV zh×PV .str×PV zf×PV .bool×Unit))):=
 ((
   bif (decide (t14>0)) then
    some (.inr (t0,t2,t8,t11,t13,t14,t15,()))
   else
    bif (decide (t15>0)) then
     some (.inr (t0,t2,t8,t11,t13,t14,t15,()))
    else
     some (.inl (t0,t2,t8,t11,t13,t14,t15,())):Option ((PV zf×PV zh×PV .str×PV .str×PV zh×PV (.int .i64)×PV (.int .i64)×Unit)⊕(PV zf×PV zh×PV .str×PV .str×PV zh×PV (.int .i64)×PV (.int .i64)×Unit)))).bind λx28=>
   match x28 with
   | .inl j13=>
     some (.inr (.inl (j13.1,j13.2.1,j13.2.2.1,j13.2.2.2.1,j13.2.2.2.2.1,j13.2.2.2.2.2.1,j13.2.2.2.2.2.2.1,())))
   | .inr j14=>
     bif ((j14.1.length:Int)==0) then
      some (.inr (.inr ((0,(0,(([]:PV zi),()))),[],[],false,())))
     else
      bif inB 0 j14.1.length then
       bif inB 0 (j14.1.getD ((0:Int).toNat) []).length then
        (zn5 [63,32,45,43] (((j14.1.getD ((0:Int).toNat) []).getD (0:Int).toNat 0).toNat:Int)).bind λr16=>
          bif inB 0 j14.1.length then
           bif cutB 1 ((j14.1.getD ((0:Int).toNat) []).length:Int) (j14.1.getD ((0:Int).toNat) []).length then
            bif cutB 1 (j14.1.length:Int) j14.1.length then
             bif (decide (r16.1.1<1)) then
              some (.inr (.inr ((0,(0,(([]:PV zi),()))),[],[],false,())))
             else
              ((
                ((
                  bif (decide (((cutL 1 (j14.1.length:Int) j14.1).length:Int)>0)) then
                   bif inB 0 (cutL 1 (j14.1.length:Int) j14.1).length then
                    some ((cutL 1 (j14.1.length:Int) j14.1),j14.2.1,j14.2.2.1,j14.2.2.2.1,j14.2.2.2.2.1,j14.2.2.2.2.2.1,j14.2.2.2.2.2.2.1,(r16.1.1,((cutL 1 ((j14.1.getD ((0:Int).toNat) []).length:Int) (j14.1.getD ((0:Int).toNat) [])),())),(((cutL 1 (j14.1.length:Int) j14.1).getD ((0:Int).toNat) [])==[92,32,110,111,110,101,10]),())
                   else
                    none
                  else
                   some ((cutL 1 (j14.1.length:Int) j14.1),j14.2.1,j14.2.2.1,j14.2.2.2.1,j14.2.2.2.2.1,j14.2.2.2.2.2.1,j14.2.2.2.2.2.2.1,(r16.1.1,((cutL 1 ((j14.1.getD ((0:Int).toNat) []).length:Int) (j14.1.getD ((0:Int).toNat) [])),())),false,()):Option ((PV zf×PV zh×PV .str×PV .str×PV zh×PV (.int .i64)×PV (.int .i64)×PV zo×PV .bool×Unit)))).bind λj17=>
                  bif j17.2.2.2.2.2.2.2.2.1 then
                   (zj7 j17.2.2.2.2.2.2.2.1.2.1).bind λr18=>
                     bif cutB 1 (j17.1.length:Int) j17.1.length then
                      some ((cutL 1 (j17.1.length:Int) j17.1),j17.2.1,j17.2.2.1,j17.2.2.2.1,j17.2.2.2.2.1,j17.2.2.2.2.2.1,j17.2.2.2.2.2.2.1,(j17.2.2.2.2.2.2.2.1.1,(r18.1.1,j17.2.2.2.2.2.2.2.1.2.2)),())
                     else
                      none
                  else
                   some (j17.1,j17.2.1,j17.2.2.1,j17.2.2.2.1,j17.2.2.2.2.1,j17.2.2.2.2.2.1,j17.2.2.2.2.2.2.1,j17.2.2.2.2.2.2.2.1,()):Option ((PV zf×PV zh×PV .str×PV .str×PV zh×PV (.int .i64)×PV (.int .i64)×PV zo×Unit)))).bind λj19=>
                ((
                  bif (!(j19.2.2.2.2.2.2.2.1.1==3)) then
                   some (j19.1,j19.2.1,j19.2.2.1,j19.2.2.2.1,j19.2.2.2.2.1,(IntKind.wrap .i64 (j19.2.2.2.2.2.1 -1)),j19.2.2.2.2.2.2.1,j19.2.2.2.2.2.2.2.1,())
                  else
                   some (j19.1,j19.2.1,j19.2.2.1,j19.2.2.2.1,j19.2.2.2.2.1,j19.2.2.2.2.2.1,j19.2.2.2.2.2.2.1,j19.2.2.2.2.2.2.2.1,()):Option ((PV zf×PV zh×PV .str×PV .str×PV zh×PV (.int .i64)×PV (.int .i64)×PV zo×Unit)))).bind λj20=>
                  ((
                    bif (!(j20.2.2.2.2.2.2.2.1.1==2)) then
                     some (j20.1,j20.2.1,j20.2.2.1,j20.2.2.2.1,j20.2.2.2.2.1,j20.2.2.2.2.2.1,(IntKind.wrap .i64 (j20.2.2.2.2.2.2.1 -1)),j20.2.2.2.2.2.2.2.1,())
                    else
                     some (j20.1,j20.2.1,j20.2.2.1,j20.2.2.2.1,j20.2.2.2.2.1,j20.2.2.2.2.2.1,j20.2.2.2.2.2.2.1,j20.2.2.2.2.2.2.2.1,()):Option ((PV zf×PV zh×PV .str×PV .str×PV zh×PV (.int .i64)×PV (.int .i64)×PV zo×Unit)))).bind λj21=>
                    bif qm (j21.2.2.2.2.1.2.2.1.length+[j21.2.2.2.2.2.2.2.1].length) then
                     some (.inl (j21.1,j21.2.1,j21.2.2.1,j21.2.2.2.1,(j21.2.2.2.2.1.1,(j21.2.2.2.2.1.2.1,((j21.2.2.2.2.1.2.2.1++[j21.2.2.2.2.2.2.2.1]),j21.2.2.2.2.1.2.2.2))),j21.2.2.2.2.2.1,j21.2.2.2.2.2.2.1,()))
                    else
                     none
            else
             none
           else
            none
          else
           none
       else
        none
      else
       none
def zek:PV zf×PV zh×PV .str×PV .str×PV zh×PV (.int .i64)×PV (.int .i64)×Unit->Option ((PV zf×PV zh×PV .str×PV .str×PV zh×PV (.int .i64)×PV (.int .i64)×Unit)⊕(PV zh×PV .str×PV zf×PV .bool×Unit)):=fix λd=>zfu d.1 d.2.1 d.2.2.1 d.2.2.2.1 d.2.2.2.2.1 d.2.2.2.2.2.1 d.2.2.2.2.2.2.1
def zzi:Lp:=⟨⟨[],[0,2,8,11,13,14,15,76,77,103,104,105,106,142,143],[]⟩,qke,qmc,λd=>zfu d.1 d.2.1 d.2.2.1 d.2.2.2.1 d.2.2.2.2.1 d.2.2.2.2.2.1 d.2.2.2.2.2.2.1⟩
def qqc:Plan:=⟨[(8,qn9),(11,ql7),(18,ql8),(19,ql9),(21,qma),(23,qmb)],[(10,zzi)],0,0⟩
def zcw (t0:PV zf):Option (PVs [zh,.str,zf,.bool]×PVs []):=
 bif inB 0 t0.length then
  (zla (t0.getD ((0:Int).toNat) []) [64,64,32,45]).bind λr2=>
    (zc8 r2.1.1 [32,43]).bind λr4=>
      (zlb r4.1.2.1 [32,64,64,10]).bind λr6=>
        (zlt r4.1.1).bind λr8=>
          (zlt r6.1.1).bind λr10=>
            ((
              bif (!r2.1.2.1) then
               some (t0,(0,(0,(([]:PV zi),()))),r4.1.1,r6.1.1,(r8.1.1,(r10.1.1,(([]:PV zi),()))),r8.1.2.1,r10.1.2.1,true,())
              else
               bif (!r4.1.2.2.1) then
                some (t0,(0,(0,(([]:PV zi),()))),r4.1.1,r6.1.1,(r8.1.1,(r10.1.1,(([]:PV zi),()))),r8.1.2.1,r10.1.2.1,true,())
               else
                bif (!r6.1.2.1) then
                 some (t0,(0,(0,(([]:PV zi),()))),r4.1.1,r6.1.1,(r8.1.1,(r10.1.1,(([]:PV zi),()))),r8.1.2.1,r10.1.2.1,true,())
                else
                 bif (!r8.1.2.2.1) then
                  some (t0,(0,(0,(([]:PV zi),()))),r4.1.1,r6.1.1,(r8.1.1,(r10.1.1,(([]:PV zi),()))),r8.1.2.1,r10.1.2.1,true,())
                 else
                  some (t0,(0,(0,(([]:PV zi),()))),r4.1.1,r6.1.1,(r8.1.1,(r10.1.1,(([]:PV zi),()))),r8.1.2.1,r10.1.2.1,(!r10.1.2.2.1),()):Option ((PV zf×PV zh×PV .str×PV .str×PV zh×PV (.int .i64)×PV (.int .i64)×PV .bool×Unit)))).bind λj12=>
              bif j12.2.2.2.2.2.2.2.1 then
               some (((0,(0,(([]:PV zi),()))),[],[],false,()),())
              else
               bif cutB 1 (j12.1.length:Int) j12.1.length then
                (zek ((cutL 1 (j12.1.length:Int) j12.1),j12.2.1,j12.2.2.1,j12.2.2.2.1,j12.2.2.2.2.1,j12.2.2.2.2.2.1,j12.2.2.2.2.2.2.1,())).bind λx29=>
                  match x29 with
                  | .inl l24=>
                    (zhw l24.2.2.1 l24.2.2.2.1).bind λr25=>
                      (zf2 l24.2.2.2.2.1.2.2.1).bind λr26=>
                        bif decide (r25.1.1.length+r26.1.1.length<=1099511627776) then
                         bif (l24.2.2.2.2.2.1==0) then
                          some ((l24.2.2.2.2.1,(r25.1.1++r26.1.1),l24.1,(l24.2.2.2.2.2.2.1==0),()),())
                         else
                          some ((l24.2.2.2.2.1,(r25.1.1++r26.1.1),l24.1,false,()),())
                        else
                         none
                  | .inr l27=>
                    some ((l27.1,l27.2.1,l27.2.2.1,l27.2.2.2.1,()),())
               else
                none
 else
  none
def z2d:Ct:=⟨[(.bor,zf)],[(zh,(.pr .b (.pr .b (.pr (.row (.pr .b (.pr .b .b))) .b)))),(.str,.b),(zf,.b),(.bool,.b)],λx=>zcw x.1⟩
def qqd:Cx:=⟨tab,arrs,[(141,zuj),(190,zs7),(192,zs8),(211,zst),(218,zr5),(219,zr6),(220,z2c),(221,zyj)],[],gl,[]⟩
theorem qqe:FnOk gl Tryz.prog 149 z2d:=
 fo qqd qqc 0 (oz ⟨z8m,z3q,z3r,z1y,zyh,zyi,qqb,qh5,trivial⟩ trivial) Tryz.func149 (by kernel_rfl) (by kernel_rfl) (by kernel_rfl)
  (ll 1 (by kernel_rfl) (lc zzi (by kernel_rfl) (λd=>by kernel_rfl) trivial)) (λx=>by kernel_rfl)
def qkf:List Out:=[⟨.normal,⟨[],[5,6,7,8,9,28],[]⟩,mkSh 39 [(5,.val zk (.row (.pr .b (.pr .b (.pr (.row (.pr .b (.pr .b .b))) .b))))),(6,.val .str .b),(7,.var zh (.pr .b (.pr .b (.pr (.row (.pr .b (.pr .b .b))) .b)))),(8,.val .str .b),(9,.val zf .b),(28,.val .bool .b)]⟩]
def qjj:List Sh:=mkSh 39 [(0,.val zf .b),(5,.val zk (.row (.pr .b (.pr .b (.pr (.row (.pr .b (.pr .b .b))) .b))))),(6,.val .str .b)]
def qkg:List Out:=[⟨.exit 0,⟨[],[5,6],[]⟩,mkSh 39 [(5,.val zk (.row (.pr .b (.pr .b (.pr (.row (.pr .b (.pr .b .b))) .b))))),(6,.val .str .b)]⟩,⟨.ret,⟨[],[2,3,4],[]⟩,mkSh 39 [(2,.val zk (.row (.pr .b (.pr .b (.pr (.row (.pr .b (.pr .b .b))) .b))))),(3,.val .str .b),(4,.val .bool .b)]⟩]
def zfs (t0:PV zf)(t5:PV zk)(t6:PV .str):Option ((PV zf×PV zk×PV .str×Unit)⊕((PV zk×PV .str×Unit)⊕(PV zk×PV .str×PV .bool×Unit))):=
 bif (decide ((t0.length:Int)>0)) then
  (zcw t0).bind λr2=>
    ((
      bif (!r2.1.2.2.2.1) then
       some (t5,t6,r2.1.1,r2.1.2.1,r2.1.2.2.1,true,())
      else
       some (t5,t6,r2.1.1,r2.1.2.1,r2.1.2.2.1,((t5.length:Int)==20),()):Option ((PV zk×PV .str×PV zh×PV .str×PV zf×PV .bool×Unit)))).bind λj4=>
      bif j4.2.2.2.2.2.1 then
       some (.inr (.inr ([],[],false,())))
      else
       bif qm (j4.1.length+[j4.2.2.1].length) then
        bif decide (j4.2.1.length+j4.2.2.2.1.length<=1099511627776) then
         some (.inl (j4.2.2.2.2.1,(j4.1++[j4.2.2.1]),(j4.2.1++j4.2.2.2.1),()))
        else
         none
       else
        none
 else
  some (.inr (.inl (t5,t6,())))
def zle:PV zf×PV zk×PV .str×Unit->Option ((PV zk×PV .str×Unit)⊕(PV zk×PV .str×PV .bool×Unit)):=fix λd=>zfs d.1 d.2.1 d.2.2.1
def zy6:Lp:=⟨⟨[],[0,5,6,25,26,27],[]⟩,qjj,qkg,λd=>zfs d.1 d.2.1 d.2.2.1⟩
def qmd:Plan:=⟨[(5,qkf)],[(2,zy6)],0,0⟩
def zsn (t0:PV zf):Option (PVs [zk,.str,.bool]×PVs []):=
 (zle (t0,([]:PV zk),[],())).bind λx9=>
   match x9 with
   | .inl l7=>
     some ((l7.1,l7.2.1,true,()),())
   | .inr l8=>
     some ((l8.1,l8.2.1,l8.2.2.1,()),())
def zz6:Ct:=⟨[(.bor,zf)],[(zk,(.row (.pr .b (.pr .b (.pr (.row (.pr .b (.pr .b .b))) .b))))),(.str,.b),(.bool,.b)],λx=>zsn x.1⟩
def qme:Cx:=⟨tab,arrs,[(149,z2d)],[],gl,[]⟩
theorem qmf:FnOk gl Tryz.prog 85 zz6:=
 fo qme qmd 0 (oz ⟨qqe,trivial⟩ trivial) Tryz.func85 (by kernel_rfl) (by kernel_rfl) (by kernel_rfl)
  (ll 1 (by kernel_rfl) (lc zy6 (by kernel_rfl) (λd=>by kernel_rfl) trivial)) (λx=>by kernel_rfl)
def qkh:List Out:=[⟨.normal,⟨[],[5,27],[]⟩,mkSh 29 [(5,.val zk (.row (.pr .b (.pr .b (.pr (.row (.pr .b (.pr .b .b))) .b))))),(27,.val .bool .b)]⟩]
def qki:List Out:=[⟨.normal,⟨[],[],[]⟩,mkSh 29 []⟩,⟨.ret,⟨[],[2,3,4],[]⟩,mkSh 29 [(2,.val zk (.row (.pr .b (.pr .b (.pr (.row (.pr .b (.pr .b .b))) .b))))),(3,.val (.int .i64) .b),(4,.val .bool .b)]⟩]
def qmg:Plan:=⟨[(4,qkh),(5,qki)],[],0,0⟩
def zja (t0:PV .str):Option (PVs [zk,(.int .i64),.bool]×PVs []):=
 ((
   bif (decide ((t0.length:Int)<=3000)) then
    (zl6 t0).bind λr10=>
      (zsn r10.1.1).bind λr11=>
        ((
          bif r11.1.2.2.1 then
           bif (r11.1.2.1==t0) then
            (zjc r11.1.1).bind λr12=>
              some (r11.1.1,r12.1.1,())
           else
            some (r11.1.1,false,())
          else
           some (r11.1.1,false,()):Option ((PV zk×PV .bool×Unit)))).bind λj13=>
          bif j13.2.1 then
           some (.inr (j13.1,0,true,()))
          else
           some (.inl ())
   else
    some (.inl ()):Option ((Unit)⊕(PV zk×PV (.int .i64)×PV .bool×Unit)))).bind λx16=>
   match x16 with
   | .inl j14=>
     some (([],1,false,()),())
   | .inr j15=>
     some ((j15.1,j15.2.1,j15.2.2.1,()),())
def zz7:Ct:=⟨[(.bor,.str)],[(zk,(.row (.pr .b (.pr .b (.pr (.row (.pr .b (.pr .b .b))) .b))))),((.int .i64),.b),(.bool,.b)],λx=>zja x.1⟩
def qmh:Cx:=⟨tab,arrs,[(75,ztn),(85,zz6),(86,zoh)],[],gl,[]⟩
theorem qmi:FnOk gl Tryz.prog 36 zz7:=
 fo qmh qmg 0 (oz ⟨z5n,qmf,zsm,trivial⟩ trivial) Tryz.func36 (by kernel_rfl) (by kernel_rfl) (by kernel_rfl)
  (ll 0 (by kernel_rfl) trivial) (λx=>by kernel_rfl)
def qhm:List Sh:=mkSh 26 [(0,.val zi .b),(1,.val zi .b),(12,.val (.int .i64) .b),(13,.val (.int .i64) .b)]
def qh6:List Out:=[⟨.exit 0,⟨[],[],[]⟩,mkSh 26 []⟩,⟨.ret,⟨[],[4],[]⟩,mkSh 26 [(4,.val .bool .b)]⟩]
def zea (t0:PV zi)(t1:PV zi)(t12:PV (.int .i64))(t13:PV (.int .i64)):Option ((PV zi×PV zi×PV (.int .i64)×PV (.int .i64)×Unit)⊕((Unit)⊕(PV .bool×Unit))):=
 bif (decide (t13<t12)) then
  bif inB t13 t0.length then
   bif inB t13 t1.length then
    bif (!((t0.getD t13.toNat (dflt zo)).1==(t1.getD t13.toNat (dflt zo)).1&&(t0.getD t13.toNat (dflt zo)).2.1==(t1.getD t13.toNat (dflt zo)).2.1)) then
     some (.inr (.inr (false,())))
    else
     some (.inl (t0,t1,t12,(IntKind.wrap .i64 (t13+1)),()))
   else
    none
  else
   none
 else
  some (.inr (.inl ()))
def zyk:PV zi×PV zi×PV (.int .i64)×PV (.int .i64)×Unit->Option ((Unit)⊕(PV .bool×Unit)):=fix λd=>zea d.1 d.2.1 d.2.2.1 d.2.2.2.1
def zyb:Lp:=⟨⟨[],[0,1,12,13],[]⟩,qhm,qh6,λd=>zea d.1 d.2.1 d.2.2.1 d.2.2.2.1⟩
def qip:Plan:=⟨[],[(4,zyb)],0,0⟩
def zsb (t0:PV zi)(t1:PV zi):Option (PVs [.bool]×PVs []):=
 bif (!((t0.length:Int)==(t1.length:Int))) then
  some ((false,()),())
 else
  (zyk (t0,t1,(t0.length:Int),0,())).bind λx5=>
    match x5 with
    | .inl l3=>
      some ((true,()),())
    | .inr l4=>
      some ((l4.1,()),())
def zyv:Ct:=⟨[(.bor,zi),(.bor,zi)],[(.bool,.b)],λx=>zsb x.1 x.2.1⟩
def qiq:Cx:=⟨tab,arrs,[],[],gl,[]⟩
theorem qir:FnOk gl Tryz.prog 119 zyv:=
 fo qiq qip 0 (oz trivial trivial) Tryz.func119 (by kernel_rfl) (by kernel_rfl) (by kernel_rfl)
  (ll 1 (by kernel_rfl) (lc zyb (by kernel_rfl) (λd=>by kernel_rfl) trivial)) (λx=>by kernel_rfl)
def qkj:Plan:=⟨[],[],0,0⟩
def zob (t0:PV zh)(t1:PV zh):Option (PVs [.bool]×PVs []):=
 bif (t0.1==t1.1) then
  bif (t0.2.1==t1.2.1) then
   (zsb t0.2.2.1 t1.2.2.1).bind λr1=>
     some ((r1.1.1,()),())
  else
   some ((false,()),())
 else
  some ((false,()),())
def zzj:Ct:=⟨[(.bor,zh),(.bor,zh)],[(.bool,.b)],λx=>zob x.1 x.2.1⟩
def qkk:Cx:=⟨tab,arrs,[(119,zyv)],[],gl,[]⟩
theorem qkl:FnOk gl Tryz.prog 118 zzj:=
 fo qkk qkj 0 (oz ⟨qir,trivial⟩ trivial) Tryz.func118 (by kernel_rfl) (by kernel_rfl) (by kernel_rfl)
  (ll 0 (by kernel_rfl) trivial) (λx=>by kernel_rfl)
def qhn:List Sh:=mkSh 40 [(0,.val zk .b),(1,.val zk .b),(4,.val .bool .b),(5,.val zk .b),(6,.val zk .b),(9,.val zk .b),(10,.fn 118 []),(23,.val zk .b),(24,.val (.int .i64) .b),(25,.val (.int .i64) .b)]
def qh7:List Out:=[⟨.exit 0,⟨[],[],[]⟩,mkSh 40 [(0,.val zk .b),(1,.val zk .b),(4,.val .bool .b),(5,.val zk .b),(6,.val zk .b)]⟩,⟨.ret,⟨[],[6],[]⟩,mkSh 40 [(0,.val zk .b),(1,.val zk .b),(4,.val .bool .b),(5,.val zk .b),(6,.val zk .b),(14,.val .bool .b)]⟩]
def zeb (t0:PV zk)(t1:PV zk)(t4:PV .bool)(t5:PV zk)(t6:PV zk)(t9:PV zk)(t23:PV zk)(t24:PV (.int .i64))(t25:PV (.int .i64)):Option ((PV zk×PV zk×PV .bool×PV zk×PV zk×PV zk×PV zk×PV (.int .i64)×PV (.int .i64)×Unit)⊕((PV zk×PV zk×PV .bool×PV zk×PV zk×Unit)⊕(PV zk×PV zk×PV .bool×PV zk×PV zk×PV .bool×Unit))):=
 bif (decide (t25<t24)) then
  bif inB t25 t23.length then
   bif inB t25 t9.length then
    (zob (t23.getD t25.toNat (dflt zh)) (t9.getD t25.toNat (dflt zh))).bind λr4=>
      bif (!r4.1.1) then
       some (.inr (.inr (t0,t1,t4,t5,t6,false,())))
      else
       some (.inl (t0,t1,t4,t5,t6,t9,t23,t24,(IntKind.wrap .i64 (t25+1)),()))
   else
    none
  else
   none
 else
  some (.inr (.inl (t0,t1,t4,t5,t6,())))
def zyl:PV zk×PV zk×PV .bool×PV zk×PV zk×PV zk×PV zk×PV (.int .i64)×PV (.int .i64)×Unit->Option ((PV zk×PV zk×PV .bool×PV zk×PV zk×Unit)⊕(PV zk×PV zk×PV .bool×PV zk×PV zk×PV .bool×Unit)):=fix λd=>zeb d.1 d.2.1 d.2.2.1 d.2.2.2.1 d.2.2.2.2.1 d.2.2.2.2.2.1 d.2.2.2.2.2.2.1 d.2.2.2.2.2.2.2.1 d.2.2.2.2.2.2.2.2.1
def zyc:Lp:=⟨⟨[],[1,2,15,16,17],[]⟩,qhn,qh7,λd=>zeb d.1 d.2.1 d.2.2.1 d.2.2.2.1 d.2.2.2.2.1 d.2.2.2.2.2.1 d.2.2.2.2.2.2.1 d.2.2.2.2.2.2.2.1 d.2.2.2.2.2.2.2.2.1⟩
def qis:Plan:=⟨[],[(4,zyc)],0,8⟩
def qoa:Plan:=⟨[],[],1,0⟩
def zoq (t0:PV zk)(t1:PV zk):Option (PVs [.bool]×PVs []):=
 bif (!((t0.length:Int)==(t1.length:Int))) then
  some ((false,()),())
 else
  (zyl (t0,t1,false,t0,t1,t1,t0,(t0.length:Int),0,())).bind λx9=>
    match x9 with
    | .inl l7=>
      some ((true,()),())
    | .inr l8=>
      some ((l8.2.2.2.2.2.1,()),())
def z0y:Ct:=⟨[(.bor,zk),(.bor,zk)],[(.bool,.b)],λx=>zoq x.1 x.2.1⟩
def qob:Cx:=⟨tab,arrs,[(118,zzj)],[(117,Tryz.f117,qis)],gl,[]⟩
theorem qoc:FnOk gl Tryz.prog 58 z0y:=
 fo qob qoa 1 (oz ⟨qkl,trivial⟩ ⟨⟨Tryz.func117,by kernel_rfl,(ll 1 (by kernel_rfl) (lc zyc (by kernel_rfl) (λd=>by kernel_rfl) trivial))⟩,trivial⟩) Tryz.func58 (by kernel_rfl) (by kernel_rfl) (by kernel_rfl)
  (ll 0 (by kernel_rfl) trivial) (λx=>by kernel_rfl)
def qod:List Out:=[⟨.normal,⟨[],[6,9,29],[]⟩,mkSh 33 [(6,.val zk (.row (.pr .b (.pr .b (.pr (.row (.pr .b (.pr .b .b))) .b))))),(9,.val zk (.row (.pr .b (.pr .b (.pr (.row (.pr .b (.pr .b .b))) .b))))),(29,.val .bool .b)]⟩]
def qqf:Plan:=⟨[(4,qod)],[],0,0⟩
def zf0 (t0:PV .str)(t1:PV .str):Option (PVs [.bool,.bool]×PVs []):=
 (zi9 t0).bind λr2=>
   (zja t1).bind λr4=>
     ((
       bif (!r2.1.2.2.1) then
        some (r2.1.1,r4.1.1,true,())
       else
        some (r2.1.1,r4.1.1,(!r4.1.2.2.1),()):Option ((PV zk×PV zk×PV .bool×Unit)))).bind λj6=>
       bif j6.2.2.1 then
        some ((false,false,()),())
       else
        (zoq j6.1 j6.2.1).bind λr7=>
          some ((r7.1.1,true,()),())
def z1f:Ct:=⟨[(.bor,.str),(.bor,.str)],[(.bool,.b),(.bool,.b)],λx=>zf0 x.1 x.2.1⟩
def qqg:Cx:=⟨tab,arrs,[(36,zz7),(48,zz5),(58,z0y)],[],gl,[]⟩
theorem qov:FnOk gl Tryz.prog 15 z1f:=
 fo qqg qqf 0 (oz ⟨qmi,ql6,qoc,trivial⟩ trivial) Tryz.func15 (by kernel_rfl) (by kernel_rfl) (by kernel_rfl)
  (ll 0 (by kernel_rfl) trivial) (λx=>by kernel_rfl)
end
end R
