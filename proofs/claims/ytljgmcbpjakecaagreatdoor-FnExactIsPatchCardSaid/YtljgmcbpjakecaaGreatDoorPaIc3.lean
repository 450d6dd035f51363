/- The functions, part 3. -/
import Derived.Test.YtljgmcbpjakecaaGreatDoorPaIc2
set_option linter.unusedVariables false
open Go Go.Dn Go.Proofs
namespace R
set_option maxRecDepth 20000
open Go.Shelf
noncomputable section
def qib:Plan:=⟨[],[],0,0⟩
def zo0 (t0:PV .str)(t1:PV .str):Option (PVs [.str]×PVs []):=
 (zto t0 t1).bind λr1=>
   some ((r1.1.1,()),())
def zzm:Ct:=⟨[(.bor,.str),(.bor,.str)],[(.str,.b)],λx=>zo0 x.1 x.2.1⟩
def qic:Cx:=⟨tab,arrs,[(256,zy7)],[],gl,[]⟩
theorem qid:FnOk gl Tryz.prog 214 zzm:=
 fo qic qib 0 (oz ⟨qgv,trivial⟩ trivial) Tryz.func214 (by kernel_rfl) (by kernel_rfl) (by kernel_rfl)
  (ll 0 (by kernel_rfl) trivial) (λx=>by kernel_rfl)
def qnw:List Out:=[⟨.normal,⟨[],[0,1,6,7,13,14,15,16,17,34],[]⟩,mkSh 45 [(0,.val zf .b),(1,.val .str .b),(6,.val zf (.row .b)),(7,.val .str .b),(13,.val zf .b),(14,.bad .str),(15,.val .str .b),(16,.val .str .b),(17,.val .bool .b),(34,.val .bool .b)]⟩]
def qnx:List Out:=[⟨.normal,⟨[],[0,1,6,7,13,14,15,16,17,30,31,32,33],[]⟩,mkSh 45 [(0,.val zf .b),(1,.val .str .b),(6,.val zf (.row .b)),(7,.val .str .b),(13,.val zf .b),(14,.bad .str),(15,.val .str .b),(16,.val .str .b),(17,.val .bool .b)]⟩]
def qlv:List Sh:=mkSh 45 [(0,.val zf .b),(1,.val .str .b),(6,.val zf (.row .b))]
def qny:List Out:=[⟨.exit 0,⟨[],[0,6],[]⟩,mkSh 45 [(0,.val zf .b),(6,.val zf (.row .b))]⟩]
def zhr (t0:PV zf)(t1:PV .str)(t6:PV zf):Option ((PV zf×PV .str×PV zf×Unit)⊕((PV zf×PV zf×Unit))):=
 bif (decide ((t0.length:Int)>0)) then
  bif inB 0 t0.length then
   (zo2 (t0.getD ((0:Int).toNat) []) t1).bind λr11=>
     bif r11.1.1 then
      bif inB 0 t0.length then
       (zo0 (t0.getD ((0:Int).toNat) []) t1).bind λr13=>
         bif cutB 1 (t0.length:Int) t0.length then
          ((
            ((
              bif (decide (((cutL 1 (t0.length:Int) t0).length:Int)>0)) then
               bif inB 0 (cutL 1 (t0.length:Int) t0).length then
                some ((cutL 1 (t0.length:Int) t0),t1,t6,r13.1.1,t0,(t0.getD ((0:Int).toNat) []),(t0.getD ((0:Int).toNat) []),t1,r11.1.1,(((cutL 1 (t0.length:Int) t0).getD ((0:Int).toNat) [])==[92,32,110,111,110,101,10]),())
               else
                none
              else
               some ((cutL 1 (t0.length:Int) t0),t1,t6,r13.1.1,t0,(t0.getD ((0:Int).toNat) []),(t0.getD ((0:Int).toNat) []),t1,r11.1.1,false,()):Option ((PV zf×PV .str×PV zf×PV .str×PV zf×PV .str×PV .str×PV .str×PV .bool×PV .bool×Unit)))).bind λj14=>
              bif j14.2.2.2.2.2.2.2.2.2.1 then
               (zfy j14.2.2.2.1).bind λr15=>
                 bif cutB 1 (j14.1.length:Int) j14.1.length then
                  some ((cutL 1 (j14.1.length:Int) j14.1),j14.2.1,j14.2.2.1,r15.1.1,j14.2.2.2.2.1,j14.2.2.2.2.2.1,j14.2.2.2.2.2.2.1,j14.2.2.2.2.2.2.2.1,j14.2.2.2.2.2.2.2.2.1,())
                 else
                  none
              else
               some (j14.1,j14.2.1,j14.2.2.1,j14.2.2.2.1,j14.2.2.2.2.1,j14.2.2.2.2.2.1,j14.2.2.2.2.2.2.1,j14.2.2.2.2.2.2.2.1,j14.2.2.2.2.2.2.2.2.1,()):Option ((PV zf×PV .str×PV zf×PV .str×PV zf×PV .str×PV .str×PV .str×PV .bool×Unit)))).bind λj16=>
            bif qw (j16.2.2.1.length+[j16.2.2.2.1].length) then
             some (.inl (j16.1,j16.2.1,(j16.2.2.1++[j16.2.2.2.1]),()))
            else
             none
         else
          none
      else
       none
     else
      some (.inr (t0,t6,()))
  else
   none
 else
  some (.inr (t0,t6,()))
def zfd:PV zf×PV .str×PV zf×Unit->Option ((PV zf×PV zf×Unit)):=fix λd=>zhr d.1 d.2.1 d.2.2.1
def z1d:Lp:=⟨⟨[],[0,1,6,30,31,32,33],[]⟩,qlv,qny,λd=>zhr d.1 d.2.1 d.2.2.1⟩
def qpt:Plan:=⟨[(6,qnw),(7,qnx)],[(2,z1d)],0,0⟩
def zby (t0:PV zf)(t1:PV .str):Option (PVs [zf,zf]×PVs []):=
 (zfd (t0,t1,([]:PV zf),())).bind λl18=>
   some ((l18.2.1,l18.1,()),())
def z3j:Ct:=⟨[(.bor,zf),(.bor,.str)],[(zf,(.row .b)),(zf,.b)],λx=>zby x.1 x.2.1⟩
def qpu:Cx:=⟨tab,arrs,[(141,zki),(213,zzq),(214,zzm)],[],gl,[]⟩
theorem qpv:FnOk gl Tryz.prog 144 z3j:=
 fo qpu qpt 0 (oz ⟨zm4,qij,qid,trivial⟩ trivial) Tryz.func144 (by kernel_rfl) (by kernel_rfl) (by kernel_rfl)
  (ll 1 (by kernel_rfl) (lc z1d (by kernel_rfl) (λd=>by kernel_rfl) trivial)) (λx=>by kernel_rfl)
def qnz:List Out:=[⟨.normal,⟨[],[0,4,5,6,26,54,55,77,78,79,80],[]⟩,mkSh 99 [(0,.val zf .b),(4,.val zk (.row (.pr .b (.pr .b (.pr (.row .b) (.pr .b (.pr .b (.pr (.row .b) .b)))))))),(5,.val .str .b),(6,.val (.int .i64) .b),(26,.val .bool .b)]⟩]
def qlw:List Out:=[⟨.normal,⟨[],[0,4,5,6,7,23,24,25,56,77,78,79,80],[]⟩,mkSh 99 [(0,.val zf .b),(4,.val zk (.row (.pr .b (.pr .b (.pr (.row .b) (.pr .b (.pr .b (.pr (.row .b) .b)))))))),(5,.val .str .b),(6,.val (.int .i64) .b),(7,.var zu (.pr .b (.pr .b (.pr (.row .b) (.pr .b (.pr .b (.pr (.row .b) .b))))))),(56,.val .bool .b)]⟩]
def qlx:List Out:=[⟨.normal,⟨[],[0,4,5,6,7,23,24,25,54,55,77,78,79,80],[]⟩,mkSh 99 [(0,.val zf .b),(4,.val zk (.row (.pr .b (.pr .b (.pr (.row .b) (.pr .b (.pr .b (.pr (.row .b) .b)))))))),(5,.val .str .b),(6,.val (.int .i64) .b),(7,.var zu (.pr .b (.pr .b (.pr (.row .b) (.pr .b (.pr .b (.pr (.row .b) .b)))))))]⟩]
def qly:List Out:=[⟨.normal,⟨[],[0,4,5,6,7,23,24,25,54,55,81],[]⟩,mkSh 99 [(0,.val zf .b),(4,.val zk (.row (.pr .b (.pr .b (.pr (.row .b) (.pr .b (.pr .b (.pr (.row .b) .b)))))))),(5,.val .str .b),(6,.val (.int .i64) .b),(7,.var zu (.pr .b (.pr .b (.pr (.row .b) (.pr .b (.pr .b (.pr (.row .b) .b))))))),(81,.val .bool .b)]⟩]
def qlz:List Out:=[⟨.normal,⟨[],[0,4,5,6,7,23,24,25,54,55,77,78,79,80],[]⟩,mkSh 99 [(0,.val zf .b),(4,.val zk (.row (.pr .b (.pr .b (.pr (.row .b) (.pr .b (.pr .b (.pr (.row .b) .b)))))))),(5,.val .str .b),(6,.val (.int .i64) .b),(7,.var zu (.pr .b (.pr .b (.pr (.row .b) (.pr .b (.pr .b (.pr (.row .b) .b)))))))]⟩,⟨.ret,⟨[],[2,3],[]⟩,mkSh 99 [(2,.val zk (.row (.pr .b (.pr .b (.pr (.row .b) (.pr .b (.pr .b (.pr (.row .b) .b)))))))),(3,.val .bool .b)]⟩]
def ql0:List Out:=[⟨.normal,⟨[],[0,4,7,23,24,25,54,55,77,78,79,80],[]⟩,mkSh 99 [(0,.val zf .b),(4,.val zk (.row (.pr .b (.pr .b (.pr (.row .b) (.pr .b (.pr .b (.pr (.row .b) .b)))))))),(7,.var zu (.pr .b (.pr .b (.pr (.row .b) (.pr .b (.pr .b (.pr (.row .b) .b)))))))]⟩]
def ql1:List Sh:=mkSh 99 [(0,.val zf .b),(4,.val zk (.row (.pr .b (.pr .b (.pr (.row .b) (.pr .b (.pr .b (.pr (.row .b) .b))))))))]
def qn0:List Out:=[⟨.exit 0,⟨[],[4],[]⟩,mkSh 99 [(4,.val zk (.row (.pr .b (.pr .b (.pr (.row .b) (.pr .b (.pr .b (.pr (.row .b) .b))))))))]⟩,⟨.ret,⟨[],[2,3],[]⟩,mkSh 99 [(2,.val zk (.row (.pr .b (.pr .b (.pr (.row .b) (.pr .b (.pr .b (.pr (.row .b) .b)))))))),(3,.val .bool .b)]⟩]
def zfe (t0:PV zf)(t4:PV zk):Option ((PV zf×PV zk×Unit)⊕((PV zk×Unit)⊕(PV zk×PV .bool×Unit))):=
 bif (decide ((t0.length:Int)>0)) then
  bif inB 0 t0.length then
   (zfy (t0.getD ((0:Int).toNat) [])).bind λr2=>
     (zhj r2.1.1 [97,99,100]).bind λr4=>
       ((
         bif (decide (r4.1.1<0)) then
          some (t0,t4,r2.1.1,r4.1.1,true,())
         else
          some (t0,t4,r2.1.1,r4.1.1,((t4.length:Int)==20),()):Option ((PV zf×PV zk×PV .str×PV (.int .i64)×PV .bool×Unit)))).bind λj6=>
         bif j6.2.2.2.2.1 then
          some (.inr (.inr ([],false,())))
         else
          bif cutB 0 j6.2.2.2.1 j6.2.2.1.length then
           (zec (cutL 0 j6.2.2.2.1 j6.2.2.1)).bind λr8=>
             bif cutB (IntKind.wrap .i64 (j6.2.2.2.1+1)) (j6.2.2.1.length:Int) j6.2.2.1.length then
              (zec (cutL (IntKind.wrap .i64 (j6.2.2.2.1+1)) (j6.2.2.1.length:Int) j6.2.2.1)).bind λr10=>
                ((
                  bif (!r8.1.2.2.2.1) then
                   some (j6.1,j6.2.1,j6.2.2.1,j6.2.2.2.1,(r8.1.1,(r8.1.2.1,(([]:PV zf),(r10.1.1,(r10.1.2.1,(([]:PV zf),())))))),true,())
                  else
                   some (j6.1,j6.2.1,j6.2.2.1,j6.2.2.2.1,(r8.1.1,(r8.1.2.1,(([]:PV zf),(r10.1.1,(r10.1.2.1,(([]:PV zf),())))))),(!r10.1.2.2.2.1),()):Option ((PV zf×PV zk×PV .str×PV (.int .i64)×PV zu×PV .bool×Unit)))).bind λj12=>
                  bif j12.2.2.2.2.2.1 then
                   some (.inr (.inr ([],false,())))
                  else
                   bif cutB 1 (j12.1.length:Int) j12.1.length then
                    ((
                      bif inB j12.2.2.2.1 j12.2.2.1.length then
                       bif (!(((j12.2.2.1.getD j12.2.2.2.1.toNat 0).toNat:Int)==97)) then
                        (zby (cutL 1 (j12.1.length:Int) j12.1) [60,32]).bind λr13=>
                          some (r13.1.2.1,j12.2.1,j12.2.2.1,j12.2.2.2.1,(j12.2.2.2.2.1.1,(j12.2.2.2.2.1.2.1,(r13.1.1,j12.2.2.2.2.1.2.2.2))),())
                       else
                        some ((cutL 1 (j12.1.length:Int) j12.1),j12.2.1,j12.2.2.1,j12.2.2.2.1,j12.2.2.2.2.1,())
                      else
                       none:Option ((PV zf×PV zk×PV .str×PV (.int .i64)×PV zu×Unit)))).bind λj14=>
                      ((
                        bif inB j14.2.2.2.1 j14.2.2.1.length then
                         bif (((j14.2.2.1.getD j14.2.2.2.1.toNat 0).toNat:Int)==99) then
                          ((
                            bif ((j14.1.length:Int)==0) then
                             some (j14.1,j14.2.1,j14.2.2.1,j14.2.2.2.1,j14.2.2.2.2.1,true,())
                            else
                             bif inB 0 j14.1.length then
                              some (j14.1,j14.2.1,j14.2.2.1,j14.2.2.2.1,j14.2.2.2.2.1,(!((j14.1.getD ((0:Int).toNat) [])==[45,45,45,10])),())
                             else
                              none:Option ((PV zf×PV zk×PV .str×PV (.int .i64)×PV zu×PV .bool×Unit)))).bind λj16=>
                            bif j16.2.2.2.2.2.1 then
                             some (.inr ([],false,()))
                            else
                             bif cutB 1 (j16.1.length:Int) j16.1.length then
                              some (.inl ((cutL 1 (j16.1.length:Int) j16.1),j16.2.1,j16.2.2.1,j16.2.2.2.1,j16.2.2.2.2.1,()))
                             else
                              none
                         else
                          some (.inl (j14.1,j14.2.1,j14.2.2.1,j14.2.2.2.1,j14.2.2.2.2.1,()))
                        else
                         none:Option ((PV zf×PV zk×PV .str×PV (.int .i64)×PV zu×Unit)⊕(PV zk×PV .bool×Unit)))).bind λx25=>
                        match x25 with
                        | .inl j17=>
                          ((
                            bif inB j17.2.2.2.1 j17.2.2.1.length then
                             bif (!(((j17.2.2.1.getD j17.2.2.2.1.toNat 0).toNat:Int)==100)) then
                              (zby j17.1 [62,32]).bind λr18=>
                                some (r18.1.2.1,j17.2.1,(j17.2.2.2.2.1.1,(j17.2.2.2.2.1.2.1,(j17.2.2.2.2.1.2.2.1,(j17.2.2.2.2.1.2.2.2.1,(j17.2.2.2.2.1.2.2.2.2.1,(r18.1.1,j17.2.2.2.2.1.2.2.2.2.2.2)))))),())
                             else
                              some (j17.1,j17.2.1,j17.2.2.2.2.1,())
                            else
                             none:Option ((PV zf×PV zk×PV zu×Unit)))).bind λj19=>
                            bif qw (j19.2.1.length+[j19.2.2.1].length) then
                             some (.inl (j19.1,(j19.2.1++[j19.2.2.1]),()))
                            else
                             none
                        | .inr j20=>
                          some (.inr (.inr (j20.1,j20.2.1,())))
                   else
                    none
             else
              none
          else
           none
  else
   none
 else
  some (.inr (.inl (t4,())))
def zc4:PV zf×PV zk×Unit->Option ((PV zk×Unit)⊕(PV zk×PV .bool×Unit)):=fix λd=>zfe d.1 d.2.1
def z1e:Lp:=⟨⟨[],[0,4,23,24,25,54,55,77,78,79,80],[]⟩,ql1,qn0,λd=>zfe d.1 d.2.1⟩
def qpw:Plan:=⟨[(6,qnz),(11,qlw),(15,qlx),(17,qly),(19,qlz),(21,ql0)],[(2,z1e)],0,0⟩
def zjv (t0:PV zf):Option (PVs [zk,.bool]×PVs []):=
 (zc4 (t0,([]:PV zk),())).bind λx26=>
   match x26 with
   | .inl l23=>
     some ((l23.1,true,()),())
   | .inr l24=>
     some ((l24.1,l24.2.1,()),())
def z3k:Ct:=⟨[(.bor,zf)],[(zk,(.row (.pr .b (.pr .b (.pr (.row .b) (.pr .b (.pr .b (.pr (.row .b) .b)))))))),(.bool,.b)],λx=>zjv x.1⟩
def qpx:Cx:=⟨tab,arrs,[(141,zki),(142,ztz),(143,zmo),(144,z3j)],[],gl,[]⟩
theorem qpy:FnOk gl Tryz.prog 74 z3k:=
 fo qpx qpw 0 (oz ⟨zm4,zz3,zpp,qpv,trivial⟩ trivial) Tryz.func74 (by kernel_rfl) (by kernel_rfl) (by kernel_rfl)
  (ll 1 (by kernel_rfl) (lc z1e (by kernel_rfl) (λd=>by kernel_rfl) trivial)) (λx=>by kernel_rfl)
def q0f:Plan:=⟨[],[],0,0⟩
def zka (t0:PV .str):Option (PVs [.bool]×PVs []):=
 (zb4 (t0.length:Int) 1 30).bind λr1=>
   bif r1.1.1 then
    bif cutB 0 (IntKind.wrap .i64 ((t0.length:Int) -1)) t0.length then
     (zl1 (cutL 0 (IntKind.wrap .i64 ((t0.length:Int) -1)) t0) [10]).bind λr2=>
       some (((!r2.1.1),()),())
    else
     none
   else
    some ((false,()),())
def zqa:Ct:=⟨[(.bor,.str)],[(.bool,.b)],λx=>zka x.1⟩
def q0g:Cx:=⟨tab,arrs,[(131,zi2),(233,zt0)],[],gl,[]⟩
theorem zvf:FnOk gl Tryz.prog 179 zqa:=
 fo q0g q0f 0 (oz ⟨zle,zz5,trivial⟩ trivial) Tryz.func179 (by kernel_rfl) (by kernel_rfl) (by kernel_rfl)
  (ll 0 (by kernel_rfl) trivial) (λx=>by kernel_rfl)
def qn1:Plan:=⟨[],[],0,0⟩
def zo8 (t0:PV .str):Option (PVs [.bool]×PVs []):=
 (zka t0).bind λr1=>
   some (((!r1.1.1),()),())
def z2i:Ct:=⟨[(.bor,.str)],[(.bool,.b)],λx=>zo8 x.1⟩
def qn2:Cx:=⟨tab,arrs,[(179,zqa)],[],gl,[]⟩
theorem qn3:FnOk gl Tryz.prog 225 z2i:=
 fo qn2 qn1 0 (oz ⟨zvf,trivial⟩ trivial) Tryz.func225 (by kernel_rfl) (by kernel_rfl) (by kernel_rfl)
  (ll 0 (by kernel_rfl) trivial) (λx=>by kernel_rfl)
def qkt:Plan:=⟨[],[],1,11⟩
def qjb:List Sh:=mkSh 39 [(0,.val zf .b),(2,.val .bool .b),(3,.val zf .b),(4,.val (.int .i64) .b),(5,.val .bool .b),(6,.val .bool .b),(7,.val zf .b),(11,.val zf .b),(12,.fn 225 []),(15,.val .bool .b),(16,.val zf .b),(17,.fn 225 []),(20,.val zf .b),(21,.fn 225 []),(27,.val (.int .i64) .b),(28,.val (.int .i64) .b)]
def qjr:List Out:=[⟨.exit 0,⟨[],[],[]⟩,mkSh 39 [(0,.val zf .b),(2,.val .bool .b),(3,.val zf .b),(4,.val (.int .i64) .b),(5,.val .bool .b),(6,.val .bool .b),(7,.val zf .b),(11,.val zf .b),(12,.fn 225 []),(15,.val .bool .b),(16,.val zf .b),(17,.fn 225 [])]⟩,⟨.ret,⟨[],[4],[]⟩,mkSh 39 [(0,.val zf .b),(2,.val .bool .b),(3,.val zf .b),(4,.val (.int .i64) .b),(5,.val .bool .b),(6,.val .bool .b),(7,.val zf .b),(11,.val zf .b),(12,.fn 225 []),(15,.val .bool .b),(16,.val zf .b),(17,.fn 225 []),(24,.val (.int .i64) .b)]⟩]
def ze1 (t0:PV zf)(t2:PV .bool)(t3:PV zf)(t4:PV (.int .i64))(t5:PV .bool)(t6:PV .bool)(t7:PV zf)(t11:PV zf)(t15:PV .bool)(t16:PV zf)(t20:PV zf)(t27:PV (.int .i64))(t28:PV (.int .i64)):Option ((PV zf×PV .bool×PV zf×PV (.int .i64)×PV .bool×PV .bool×PV zf×PV zf×PV .bool×PV zf×PV zf×PV (.int .i64)×PV (.int .i64)×Unit)⊕((PV zf×PV .bool×PV zf×PV (.int .i64)×PV .bool×PV .bool×PV zf×PV zf×PV .bool×PV zf×Unit)⊕(PV zf×PV .bool×PV zf×PV (.int .i64)×PV .bool×PV .bool×PV zf×PV zf×PV .bool×PV zf×PV (.int .i64)×Unit))):=
 bif (decide (t28<t27)) then
  bif inB t28 t20.length then
   (zo8 (t20.getD t28.toNat [])).bind λr4=>
     bif r4.1.1 then
      some (.inr (.inr (t0,t2,t3,t4,t5,t6,t7,t11,t15,t16,t28,())))
     else
      some (.inl (t0,t2,t3,t4,t5,t6,t7,t11,t15,t16,t20,t27,(IntKind.wrap .i64 (t28+1)),()))
  else
   none
 else
  some (.inr (.inl (t0,t2,t3,t4,t5,t6,t7,t11,t15,t16,())))
def zz7:PV zf×PV .bool×PV zf×PV (.int .i64)×PV .bool×PV .bool×PV zf×PV zf×PV .bool×PV zf×PV zf×PV (.int .i64)×PV (.int .i64)×Unit->Option ((PV zf×PV .bool×PV zf×PV (.int .i64)×PV .bool×PV .bool×PV zf×PV zf×PV .bool×PV zf×Unit)⊕(PV zf×PV .bool×PV zf×PV (.int .i64)×PV .bool×PV .bool×PV zf×PV zf×PV .bool×PV zf×PV (.int .i64)×Unit)):=fix λd=>ze1 d.1 d.2.1 d.2.2.1 d.2.2.2.1 d.2.2.2.2.1 d.2.2.2.2.2.1 d.2.2.2.2.2.2.1 d.2.2.2.2.2.2.2.1 d.2.2.2.2.2.2.2.2.1 d.2.2.2.2.2.2.2.2.2.1 d.2.2.2.2.2.2.2.2.2.2.1 d.2.2.2.2.2.2.2.2.2.2.2.1 d.2.2.2.2.2.2.2.2.2.2.2.2.1
def zz6:Lp:=⟨⟨[],[0,1,7,8],[]⟩,qjb,qjr,λd=>ze1 d.1 d.2.1 d.2.2.1 d.2.2.2.1 d.2.2.2.2.1 d.2.2.2.2.2.1 d.2.2.2.2.2.2.1 d.2.2.2.2.2.2.2.1 d.2.2.2.2.2.2.2.2.1 d.2.2.2.2.2.2.2.2.2.1 d.2.2.2.2.2.2.2.2.2.2.1 d.2.2.2.2.2.2.2.2.2.2.2.1 d.2.2.2.2.2.2.2.2.2.2.2.2.1⟩
def qku:Plan:=⟨[],[(2,zz6)],0,20⟩
def qsy:Plan:=⟨[],[],2,0⟩
def zpl (t0:PV zf):Option (PVs [.bool]×PVs []):=
 bif (decide ((t0.length:Int)<=40)) then
  (zz7 (t0,false,t0,(t0.length:Int),(decide ((t0.length:Int)<=40)),true,t0,t0,false,t0,t0,(t0.length:Int),0,())).bind λx9=>
    match x9 with
    | .inl l7=>
      bif l7.2.2.2.2.2.1 then
       some (((!(decide ((-1)>=0))),()),())
      else
       some ((false,()),())
    | .inr l8=>
      bif l8.2.2.2.2.2.1 then
       some (((!(decide (l8.2.2.2.2.2.2.2.2.2.2.1>=0))),()),())
      else
       some ((false,()),())
 else
  some ((false,()),())
def z4x:Ct:=⟨[(.bor,zf)],[(.bool,.b)],λx=>zpl x.1⟩
def qsz:Cx:=⟨tab,arrs,[(225,z2i)],[(224,Tryz.f224,qkt),(264,Tryz.f264,qku)],gl,[]⟩
theorem qs0:FnOk gl Tryz.prog 156 z4x:=
 fo qsz qsy 2 (oz ⟨qn3,trivial⟩ ⟨⟨Tryz.func224,by kernel_rfl,(ll 0 (by kernel_rfl) trivial)⟩,⟨Tryz.func264,by kernel_rfl,(ll 1 (by kernel_rfl) (lc zz6 (by kernel_rfl) (λd=>by kernel_rfl) trivial))⟩,trivial⟩) Tryz.func156 (by kernel_rfl) (by kernel_rfl) (by kernel_rfl)
  (ll 0 (by kernel_rfl) trivial) (λx=>by kernel_rfl)
def qik:Plan:=⟨[],[],0,0⟩
def zty (t0:PV .str)(t1:PV .str):Option (PVs [.bool]×PVs []):=
 (zhi t0 t1).bind λr1=>
   some ((r1.1.1,()),())
def zzr:Ct:=⟨[(.bor,.str),(.bor,.str)],[(.bool,.b)],λx=>zty x.1 x.2.1⟩
def qil:Cx:=⟨tab,arrs,[(265,zow)],[],gl,[]⟩
theorem qim:FnOk gl Tryz.prog 226 zzr:=
 fo qil qik 0 (oz ⟨ztp,trivial⟩ trivial) Tryz.func226 (by kernel_rfl) (by kernel_rfl) (by kernel_rfl)
  (ll 0 (by kernel_rfl) trivial) (λx=>by kernel_rfl)
def qwk:Plan:=⟨[],[],0,0⟩
def zic (t0:PV .str):Option (PVs [.bool]×PVs []):=
 (zty t0 [10]).bind λr1=>
   some ((r1.1.1,()),())
def zpq:Ct:=⟨[(.bor,.str)],[(.bool,.b)],λx=>zic x.1⟩
def qwl:Cx:=⟨tab,arrs,[(226,zzr)],[],gl,[]⟩
theorem zu3:FnOk gl Tryz.prog 157 zpq:=
 fo qwl qwk 0 (oz ⟨qim,trivial⟩ trivial) Tryz.func157 (by kernel_rfl) (by kernel_rfl) (by kernel_rfl)
  (ll 0 (by kernel_rfl) trivial) (λx=>by kernel_rfl)
def qn4:List Out:=[⟨.normal,⟨[],[0,8,9,10,24],[]⟩,mkSh 26 [(0,.val zf .b),(8,.val zf .b),(9,.val (.int .i64) .b),(10,.val (.int .i64) .b),(24,.val .bool .b)]⟩]
def ql2:List Sh:=mkSh 26 [(0,.val zf .b),(8,.val zf .b),(9,.val (.int .i64) .b),(10,.val (.int .i64) .b)]
def qn5:List Out:=[⟨.exit 0,⟨[],[],[]⟩,mkSh 26 []⟩,⟨.ret,⟨[],[2],[]⟩,mkSh 26 [(2,.val .bool .b)]⟩]
def zfa (t0:PV zf)(t8:PV zf)(t9:PV (.int .i64))(t10:PV (.int .i64)):Option ((PV zf×PV zf×PV (.int .i64)×PV (.int .i64)×Unit)⊕((Unit)⊕(PV .bool×Unit))):=
 bif (decide (t10<t9)) then
  bif inB t10 t8.length then
   ((
     bif (decide (t10<(IntKind.wrap .i64 ((t0.length:Int) -1)))) then
      (zic (t8.getD t10.toNat [])).bind λr7=>
        some (t0,t8,t9,t10,(!r7.1.1),())
     else
      some (t0,t8,t9,t10,false,()):Option ((PV zf×PV zf×PV (.int .i64)×PV (.int .i64)×PV .bool×Unit)))).bind λj8=>
     bif j8.2.2.2.2.1 then
      some (.inr (.inr (false,())))
     else
      some (.inl (j8.1,j8.2.1,j8.2.2.1,(IntKind.wrap .i64 (j8.2.2.2.1+1)),()))
  else
   none
 else
  some (.inr (.inl ()))
def z1q:PV zf×PV zf×PV (.int .i64)×PV (.int .i64)×Unit->Option ((Unit)⊕(PV .bool×Unit)):=fix λd=>zfa d.1 d.2.1 d.2.2.1 d.2.2.2.1
def z1f:Lp:=⟨⟨[],[0,8,9,10,21,22,23],[]⟩,ql2,qn5,λd=>zfa d.1 d.2.1 d.2.2.1 d.2.2.2.1⟩
def qpz:Plan:=⟨[(7,qn4)],[(4,z1f)],0,0⟩
def zjr (t0:PV zf):Option (PVs [.bool]×PVs []):=
 (zpl t0).bind λr4=>
   bif (!r4.1.1) then
    some ((false,()),())
   else
    (z1q (t0,t0,(t0.length:Int),0,())).bind λx13=>
      match x13 with
      | .inl l11=>
        some ((true,()),())
      | .inr l12=>
        some ((l12.1,()),())
def zuh:Ct:=⟨[(.bor,zf)],[(.bool,.b)],λx=>zjr x.1⟩
def qp0:Cx:=⟨tab,arrs,[(156,z4x),(157,zpq)],[],gl,[]⟩
theorem z3l:FnOk gl Tryz.prog 88 zuh:=
 fo qp0 qpz 0 (oz ⟨qs0,zu3,trivial⟩ trivial) Tryz.func88 (by kernel_rfl) (by kernel_rfl) (by kernel_rfl)
  (ll 1 (by kernel_rfl) (lc z1f (by kernel_rfl) (λd=>by kernel_rfl) trivial)) (λx=>by kernel_rfl)
def qwm:List Out:=[⟨.normal,⟨[],[0,1,2,19,29,30,31,32,33,34,35],[]⟩,mkSh 37 [(0,.val (.int .i64) .b),(1,.val (.int .i64) .b),(2,.val zf .b),(19,.val .bool .b)]⟩]
def q0h:Plan:=⟨[(2,qwm)],[],0,0⟩
def zm2 (t0:PV (.int .i64))(t1:PV (.int .i64))(t2:PV zf):Option (PVs [.bool]×PVs []):=
 ((
   (zb4 t0 0 1000).bind λr8=>
     bif (!r8.1.1) then
      some (t0,t1,t2,true,())
     else
      (zb4 t1 0 1000).bind λr9=>
        bif (!r9.1.1) then
         some (t0,t1,t2,true,())
        else
         (zjr t2).bind λr10=>
           some (t0,t1,t2,(!r10.1.1),()):Option ((PV (.int .i64)×PV (.int .i64)×PV zf×PV .bool×Unit)))).bind λj11=>
   bif j11.2.2.2.1 then
    some ((false,()),())
   else
    bif ((j11.2.2.1.length:Int)==0) then
     some (((j11.1==j11.2.1),()),())
    else
     bif (decide (j11.1>=1)) then
      some ((((IntKind.wrap .i64 ((IntKind.wrap .i64 (j11.2.1 -j11.1))+1))==(j11.2.2.1.length:Int)),()),())
     else
      some ((false,()),())
def z8q:Ct:=⟨[(.bor,(.int .i64)),(.bor,(.int .i64)),(.bor,zf)],[(.bool,.b)],λx=>zm2 x.1 x.2.1 x.2.2.1⟩
def q0i:Cx:=⟨tab,arrs,[(88,zuh),(131,zi2)],[],gl,[]⟩
theorem q0j:FnOk gl Tryz.prog 135 z8q:=
 fo q0i q0h 0 (oz ⟨z3l,zle,trivial⟩ trivial) Tryz.func135 (by kernel_rfl) (by kernel_rfl) (by kernel_rfl)
  (ll 0 (by kernel_rfl) trivial) (λx=>by kernel_rfl)
def ql3:Plan:=⟨[],[],0,0⟩
def zo7 (t0:PV zu):Option (PVs [.bool]×PVs []):=
 (zm2 t0.1 t0.2.1 t0.2.2.1).bind λr1=>
   bif (!r1.1.1) then
    some ((true,()),())
   else
    (zm2 t0.2.2.2.1 t0.2.2.2.2.1 t0.2.2.2.2.2.1).bind λr2=>
      bif (!r2.1.1) then
       some ((true,()),())
      else
       some ((((IntKind.wrap .i64 ((t0.2.2.1.length:Int)+(t0.2.2.2.2.2.1.length:Int)))==0),()),())
def z1g:Ct:=⟨[(.bor,zu)],[(.bool,.b)],λx=>zo7 x.1⟩
def ql4:Cx:=⟨tab,arrs,[(135,z8q)],[],gl,[]⟩
theorem ql5:FnOk gl Tryz.prog 134 z1g:=
 fo ql4 ql3 0 (oz ⟨q0j,trivial⟩ trivial) Tryz.func134 (by kernel_rfl) (by kernel_rfl) (by kernel_rfl)
  (ll 0 (by kernel_rfl) trivial) (λx=>by kernel_rfl)
def qjs:Plan:=⟨[],[],1,11⟩
def qin:List Sh:=mkSh 39 [(0,.val zk .b),(2,.val .bool .b),(3,.val zk .b),(4,.val (.int .i64) .b),(5,.val .bool .b),(6,.val .bool .b),(7,.val zk .b),(11,.val zk .b),(12,.fn 134 []),(15,.val .bool .b),(16,.val zk .b),(17,.fn 134 []),(20,.val zk .b),(21,.fn 134 []),(27,.val (.int .i64) .b),(28,.val (.int .i64) .b)]
def qjc:List Out:=[⟨.exit 0,⟨[],[],[]⟩,mkSh 39 [(0,.val zk .b),(2,.val .bool .b),(3,.val zk .b),(4,.val (.int .i64) .b),(5,.val .bool .b),(6,.val .bool .b),(7,.val zk .b),(11,.val zk .b),(12,.fn 134 []),(15,.val .bool .b),(16,.val zk .b),(17,.fn 134 [])]⟩,⟨.ret,⟨[],[4],[]⟩,mkSh 39 [(0,.val zk .b),(2,.val .bool .b),(3,.val zk .b),(4,.val (.int .i64) .b),(5,.val .bool .b),(6,.val .bool .b),(7,.val zk .b),(11,.val zk .b),(12,.fn 134 []),(15,.val .bool .b),(16,.val zk .b),(17,.fn 134 []),(24,.val (.int .i64) .b)]⟩]
def ze0 (t0:PV zk)(t2:PV .bool)(t3:PV zk)(t4:PV (.int .i64))(t5:PV .bool)(t6:PV .bool)(t7:PV zk)(t11:PV zk)(t15:PV .bool)(t16:PV zk)(t20:PV zk)(t27:PV (.int .i64))(t28:PV (.int .i64)):Option ((PV zk×PV .bool×PV zk×PV (.int .i64)×PV .bool×PV .bool×PV zk×PV zk×PV .bool×PV zk×PV zk×PV (.int .i64)×PV (.int .i64)×Unit)⊕((PV zk×PV .bool×PV zk×PV (.int .i64)×PV .bool×PV .bool×PV zk×PV zk×PV .bool×PV zk×Unit)⊕(PV zk×PV .bool×PV zk×PV (.int .i64)×PV .bool×PV .bool×PV zk×PV zk×PV .bool×PV zk×PV (.int .i64)×Unit))):=
 bif (decide (t28<t27)) then
  bif inB t28 t20.length then
   (zo7 (t20.getD t28.toNat (dflt zu))).bind λr4=>
     bif r4.1.1 then
      some (.inr (.inr (t0,t2,t3,t4,t5,t6,t7,t11,t15,t16,t28,())))
     else
      some (.inl (t0,t2,t3,t4,t5,t6,t7,t11,t15,t16,t20,t27,(IntKind.wrap .i64 (t28+1)),()))
  else
   none
 else
  some (.inr (.inl (t0,t2,t3,t4,t5,t6,t7,t11,t15,t16,())))
def zz0:PV zk×PV .bool×PV zk×PV (.int .i64)×PV .bool×PV .bool×PV zk×PV zk×PV .bool×PV zk×PV zk×PV (.int .i64)×PV (.int .i64)×Unit->Option ((PV zk×PV .bool×PV zk×PV (.int .i64)×PV .bool×PV .bool×PV zk×PV zk×PV .bool×PV zk×Unit)⊕(PV zk×PV .bool×PV zk×PV (.int .i64)×PV .bool×PV .bool×PV zk×PV zk×PV .bool×PV zk×PV (.int .i64)×Unit)):=fix λd=>ze0 d.1 d.2.1 d.2.2.1 d.2.2.2.1 d.2.2.2.2.1 d.2.2.2.2.2.1 d.2.2.2.2.2.2.1 d.2.2.2.2.2.2.2.1 d.2.2.2.2.2.2.2.2.1 d.2.2.2.2.2.2.2.2.2.1 d.2.2.2.2.2.2.2.2.2.2.1 d.2.2.2.2.2.2.2.2.2.2.2.1 d.2.2.2.2.2.2.2.2.2.2.2.2.1
def zzs:Lp:=⟨⟨[],[0,1,7,8],[]⟩,qin,qjc,λd=>ze0 d.1 d.2.1 d.2.2.1 d.2.2.2.1 d.2.2.2.2.1 d.2.2.2.2.2.1 d.2.2.2.2.2.2.1 d.2.2.2.2.2.2.2.1 d.2.2.2.2.2.2.2.2.1 d.2.2.2.2.2.2.2.2.2.1 d.2.2.2.2.2.2.2.2.2.2.1 d.2.2.2.2.2.2.2.2.2.2.2.1 d.2.2.2.2.2.2.2.2.2.2.2.2.1⟩
def qjt:Plan:=⟨[],[(2,zzs)],0,20⟩
def qp1:Plan:=⟨[],[],2,0⟩
def zpj (t0:PV zk):Option (PVs [.bool]×PVs []):=
 bif (decide ((t0.length:Int)<=20)) then
  (zz0 (t0,false,t0,(t0.length:Int),(decide ((t0.length:Int)<=20)),true,t0,t0,false,t0,t0,(t0.length:Int),0,())).bind λx9=>
    match x9 with
    | .inl l7=>
      bif l7.2.2.2.2.2.1 then
       some (((!(decide ((-1)>=0))),()),())
      else
       some ((false,()),())
    | .inr l8=>
      bif l8.2.2.2.2.2.1 then
       some (((!(decide (l8.2.2.2.2.2.2.2.2.2.2.1>=0))),()),())
      else
       some ((false,()),())
 else
  some ((false,()),())
def z3m:Ct:=⟨[(.bor,zk)],[(.bool,.b)],λx=>zpj x.1⟩
def qp2:Cx:=⟨tab,arrs,[(134,z1g)],[(133,Tryz.f133,qjs),(204,Tryz.f204,qjt)],gl,[]⟩
theorem qp3:FnOk gl Tryz.prog 69 z3m:=
 fo qp2 qp1 2 (oz ⟨ql5,trivial⟩ ⟨⟨Tryz.func133,by kernel_rfl,(ll 0 (by kernel_rfl) trivial)⟩,⟨Tryz.func204,by kernel_rfl,(ll 1 (by kernel_rfl) (lc zzs (by kernel_rfl) (λd=>by kernel_rfl) trivial))⟩,trivial⟩) Tryz.func69 (by kernel_rfl) (by kernel_rfl) (by kernel_rfl)
  (ll 0 (by kernel_rfl) trivial) (λx=>by kernel_rfl)
def q0k:Plan:=⟨[],[],0,0⟩
def zdu (t0:PV (.int .i64))(t1:PV (.int .i64)):Option (PVs [.str]×PVs []):=
 bif (t0==t1) then
  (zjn t0).bind λr2=>
    some ((r2.1.1,()),())
 else
  (zjn t0).bind λr3=>
    bif decide (r3.1.1.length+[44].length<=1099511627776) then
     (zjn t1).bind λr4=>
       bif decide ((r3.1.1++[44]).length+r4.1.1.length<=1099511627776) then
        some ((((r3.1.1++[44])++r4.1.1),()),())
       else
        none
    else
     none
def zp9:Ct:=⟨[(.bor,(.int .i64)),(.bor,(.int .i64))],[(.str,.b)],λx=>zdu x.1 x.2.1⟩
def q0l:Cx:=⟨tab,arrs,[(205,z2d)],[],gl,[]⟩
theorem zve:FnOk gl Tryz.prog 136 zp9:=
 fo q0l q0k 0 (oz ⟨qnj,trivial⟩ trivial) Tryz.func136 (by kernel_rfl) (by kernel_rfl) (by kernel_rfl)
  (ll 0 (by kernel_rfl) trivial) (λx=>by kernel_rfl)
def q3c:Plan:=⟨[],[],0,0⟩
def zcq (t0:PV .str)(t1:PV .str):Option (PVs [.str]×PVs []):=
 (zic t1).bind λr4=>
   bif r4.1.1 then
    bif decide (t0.length+t1.length<=1099511627776) then
     some (((t0++t1),()),())
    else
     none
   else
    bif decide (t0.length+t1.length<=1099511627776) then
     bif decide ((t0++t1).length+[10].length<=1099511627776) then
      bif decide (((t0++t1)++[10]).length+[92,32,110,111,110,101,10].length<=1099511627776) then
       some (((((t0++t1)++[10])++[92,32,110,111,110,101,10]),()),())
      else
       none
     else
      none
    else
     none
def zq5:Ct:=⟨[(.bor,.str),(.bor,.str)],[(.str,.b)],λx=>zcq x.1 x.2.1⟩
def q3d:Cx:=⟨tab,arrs,[(157,zpq)],[],gl,[]⟩
theorem zvz:FnOk gl Tryz.prog 181 zq5:=
 fo q3d q3c 0 (oz ⟨zu3,trivial⟩ trivial) Tryz.func181 (by kernel_rfl) (by kernel_rfl) (by kernel_rfl)
  (ll 0 (by kernel_rfl) trivial) (λx=>by kernel_rfl)
def qn6:List Sh:=mkSh 21 [(0,.val .str .b),(5,.val .str .b),(8,.val zf .b),(9,.val (.int .i64) .b),(10,.val (.int .i64) .b)]
def qp4:List Out:=[⟨.exit 0,⟨[],[5],[]⟩,mkSh 21 [(5,.val .str .b)]⟩]
def zhu (t0:PV .str)(t5:PV .str)(t8:PV zf)(t9:PV (.int .i64))(t10:PV (.int .i64)):Option ((PV .str×PV .str×PV zf×PV (.int .i64)×PV (.int .i64)×Unit)⊕((PV .str×Unit))):=
 bif (decide (t10<t9)) then
  bif inB t10 t8.length then
   (zcq t0 (t8.getD t10.toNat [])).bind λr2=>
     bif decide (t5.length+r2.1.1.length<=1099511627776) then
      some (.inl (t0,(t5++r2.1.1),t8,t9,(IntKind.wrap .i64 (t10+1)),()))
     else
      none
  else
   none
 else
  some (.inr (t5,()))
def z2q:PV .str×PV .str×PV zf×PV (.int .i64)×PV (.int .i64)×Unit->Option ((PV .str×Unit)):=fix λd=>zhu d.1 d.2.1 d.2.2.1 d.2.2.2.1 d.2.2.2.2.1
def z2j:Lp:=⟨⟨[],[0,5,8,9,10],[]⟩,qn6,qp4,λd=>zhu d.1 d.2.1 d.2.2.1 d.2.2.2.1 d.2.2.2.2.1⟩
def qs1:Plan:=⟨[],[(3,z2j)],0,0⟩
def zmm (t0:PV .str)(t1:PV zf):Option (PVs [.str]×PVs []):=
 (z2q (t0,[],t1,(t1.length:Int),0,())).bind λl4=>
   some ((l4.1,()),())
def z4y:Ct:=⟨[(.bor,.str),(.bor,zf)],[(.str,.b)],λx=>zmm x.1 x.2.1⟩
def qs2:Cx:=⟨tab,arrs,[(181,zq5)],[],gl,[]⟩
theorem qs3:FnOk gl Tryz.prog 137 z4y:=
 fo qs2 qs1 0 (oz ⟨zvz,trivial⟩ trivial) Tryz.func137 (by kernel_rfl) (by kernel_rfl) (by kernel_rfl)
  (ll 1 (by kernel_rfl) (lc z2j (by kernel_rfl) (λd=>by kernel_rfl) trivial)) (λx=>by kernel_rfl)
def qp5:List Out:=[⟨.normal,⟨[],[1,3,4],[]⟩,mkSh 39 [(1,.var zu .b),(3,.val .str .b),(4,.val .str .b)]⟩]
def qs4:Plan:=⟨[(6,qp5)],[],0,0⟩
def zpn (t0:PV zu):Option (PVs [.str]×PVs []):=
 ((
   bif ((t0.2.2.1.length:Int)==0) then
    some (t0,[97],[],())
   else
    bif ((t0.2.2.2.2.2.1.length:Int)==0) then
     some (t0,[100],[],())
    else
     some (t0,[99],[45,45,45,10],()):Option ((PV zu×PV .str×PV .str×Unit)))).bind λj1=>
   (zdu j1.1.1 j1.1.2.1).bind λr2=>
     bif decide (r2.1.1.length+j1.2.1.length<=1099511627776) then
      (zdu j1.1.2.2.2.1 j1.1.2.2.2.2.1).bind λr3=>
        bif decide ((r2.1.1++j1.2.1).length+r3.1.1.length<=1099511627776) then
         bif decide (((r2.1.1++j1.2.1)++r3.1.1).length+[10].length<=1099511627776) then
          (zmm [60,32] j1.1.2.2.1).bind λr4=>
            bif decide ((((r2.1.1++j1.2.1)++r3.1.1)++[10]).length+r4.1.1.length<=1099511627776) then
             bif decide (((((r2.1.1++j1.2.1)++r3.1.1)++[10])++r4.1.1).length+j1.2.2.1.length<=1099511627776) then
              (zmm [62,32] j1.1.2.2.2.2.2.1).bind λr5=>
                bif decide ((((((r2.1.1++j1.2.1)++r3.1.1)++[10])++r4.1.1)++j1.2.2.1).length+r5.1.1.length<=1099511627776) then
                 some ((((((((r2.1.1++j1.2.1)++r3.1.1)++[10])++r4.1.1)++j1.2.2.1)++r5.1.1),()),())
                else
                 none
             else
              none
            else
             none
         else
          none
        else
         none
     else
      none
def z4z:Ct:=⟨[(.bor,zu)],[(.str,.b)],λx=>zpn x.1⟩
def qs5:Cx:=⟨tab,arrs,[(136,zp9),(137,z4y)],[],gl,[]⟩
theorem qs6:FnOk gl Tryz.prog 70 z4z:=
 fo qs5 qs4 0 (oz ⟨zve,qs3,trivial⟩ trivial) Tryz.func70 (by kernel_rfl) (by kernel_rfl) (by kernel_rfl)
  (ll 0 (by kernel_rfl) trivial) (λx=>by kernel_rfl)
def q3e:Plan:=⟨[],[],0,0⟩
def ziq (t0:PV .str):Option (PVs [.str,.bool]×PVs []):=
 bif (decide ((t0.length:Int)>3000)) then
  some (([],false,()),())
 else
  some ((t0,true,()),())
def zq6:Ct:=⟨[(.bor,.str)],[(.str,.b),(.bool,.b)],λx=>ziq x.1⟩
def q3f:Cx:=⟨tab,arrs,[],[],gl,[]⟩
theorem zv0:FnOk gl Tryz.prog 71 zq6:=
 fo q3f q3e 0 (oz trivial trivial) Tryz.func71 (by kernel_rfl) (by kernel_rfl) (by kernel_rfl)
  (ll 0 (by kernel_rfl) trivial) (λx=>by kernel_rfl)
def ql6:List Sh:=mkSh 25 [(4,.val .str .b),(10,.val zk .b),(11,.val (.int .i64) .b),(12,.val (.int .i64) .b)]
def qn7:List Out:=[⟨.exit 0,⟨[],[4],[]⟩,mkSh 25 [(4,.val .str .b)]⟩]
def zhq (t4:PV .str)(t10:PV zk)(t11:PV (.int .i64))(t12:PV (.int .i64)):Option ((PV .str×PV zk×PV (.int .i64)×PV (.int .i64)×Unit)⊕((PV .str×Unit))):=
 bif (decide (t12<t11)) then
  bif inB t12 t10.length then
   (zpn (t10.getD t12.toNat (dflt zu))).bind λr6=>
     bif decide (t4.length+r6.1.1.length<=1099511627776) then
      some (.inl ((t4++r6.1.1),t10,t11,(IntKind.wrap .i64 (t12+1)),()))
     else
      none
  else
   none
 else
  some (.inr (t4,()))
def zt7:PV .str×PV zk×PV (.int .i64)×PV (.int .i64)×Unit->Option ((PV .str×Unit)):=fix λd=>zhq d.1 d.2.1 d.2.2.1 d.2.2.2.1
def z1h:Lp:=⟨⟨[],[4,10,11,12],[]⟩,ql6,qn7,λd=>zhq d.1 d.2.1 d.2.2.1 d.2.2.2.1⟩
def qp6:Plan:=⟨[],[(5,z1h)],0,0⟩
def zpk (t0:PV zk):Option (PVs [.str,.bool]×PVs []):=
 (zpj t0).bind λr4=>
   bif (!r4.1.1) then
    some (([],false,()),())
   else
    (zt7 ([],t0,(t0.length:Int),0,())).bind λl8=>
      (ziq l8.1).bind λr9=>
        some ((r9.1.1,r9.1.2.1,()),())
def z3n:Ct:=⟨[(.bor,zk)],[(.str,.b),(.bool,.b)],λx=>zpk x.1⟩
def qp7:Cx:=⟨tab,arrs,[(69,z3m),(70,z4z),(71,zq6)],[],gl,[]⟩
theorem qp8:FnOk gl Tryz.prog 26 z3n:=
 fo qp7 qp6 0 (oz ⟨qp3,qs6,zv0,trivial⟩ trivial) Tryz.func26 (by kernel_rfl) (by kernel_rfl) (by kernel_rfl)
  (ll 1 (by kernel_rfl) (lc z1h (by kernel_rfl) (λd=>by kernel_rfl) trivial)) (λx=>by kernel_rfl)
def ql7:List Out:=[⟨.normal,⟨[],[5,31],[]⟩,mkSh 33 [(5,.val zk (.row (.pr .b (.pr .b (.pr (.row .b) (.pr .b (.pr .b (.pr (.row .b) .b)))))))),(31,.val .bool .b)]⟩]
def ql8:List Out:=[⟨.normal,⟨[],[],[]⟩,mkSh 33 []⟩,⟨.ret,⟨[],[2,3,4],[]⟩,mkSh 33 [(2,.val zk (.row (.pr .b (.pr .b (.pr (.row .b) (.pr .b (.pr .b (.pr (.row .b) .b)))))))),(3,.val (.int .i64) .b),(4,.val .bool .b)]⟩]
def qn8:Plan:=⟨[(5,ql7),(6,ql8)],[],0,0⟩
def zmb (t0:PV .str):Option (PVs [zk,(.int .i64),.bool]×PVs []):=
 ((
   bif (decide ((t0.length:Int)<=3000)) then
    (zif t0).bind λr10=>
      (zjv r10.1.1).bind λr11=>
        (zpk r11.1.1).bind λr13=>
          ((
            bif r11.1.2.1 then
             bif r13.1.2.1 then
              some (r11.1.1,(r13.1.1==t0),())
             else
              some (r11.1.1,false,())
            else
             some (r11.1.1,false,()):Option ((PV zk×PV .bool×Unit)))).bind λj14=>
            bif j14.2.1 then
             some (.inr (j14.1,0,true,()))
            else
             some (.inl ())
   else
    some (.inl ()):Option ((Unit)⊕(PV zk×PV (.int .i64)×PV .bool×Unit)))).bind λx17=>
   match x17 with
   | .inl j15=>
     some (([],1,false,()),())
   | .inr j16=>
     some ((j16.1,j16.2.1,j16.2.2.1,()),())
def z2c:Ct:=⟨[(.bor,.str)],[(zk,(.row (.pr .b (.pr .b (.pr (.row .b) (.pr .b (.pr .b (.pr (.row .b) .b)))))))),((.int .i64),.b),(.bool,.b)],λx=>zmb x.1⟩
def qn9:Cx:=⟨tab,arrs,[(26,z3n),(74,z3k),(75,zmn)],[],gl,[]⟩
theorem qni:FnOk gl Tryz.prog 30 z2c:=
 fo qn9 qn8 0 (oz ⟨qp8,qpy,zpo,trivial⟩ trivial) Tryz.func30 (by kernel_rfl) (by kernel_rfl) (by kernel_rfl)
  (ll 0 (by kernel_rfl) trivial) (λx=>by kernel_rfl)
def qg1:Plan:=⟨[],[],0,0⟩
def ztr (t0:PV .str)(t1:PV .str):Option (PVs [.str,.bool]×PVs []):=
 (zga t0 t1).bind λr4=>
   bif (!r4.1.1) then
    some ((t0,false,()),())
   else
    bif cutB (t1.length:Int) (t0.length:Int) t0.length then
     some (((cutL (t1.length:Int) (t0.length:Int) t0),true,()),())
    else
     none
def zy9:Ct:=⟨[(.bor,.str),(.bor,.str)],[(.str,.b),(.bool,.b)],λx=>ztr x.1 x.2.1⟩
def qg2:Cx:=⟨tab,arrs,[(255,zox)],[],gl,[]⟩
theorem qg3:FnOk gl Tryz.prog 260 zy9:=
 fo qg2 qg1 0 (oz ⟨ztq,trivial⟩ trivial) Tryz.func260 (by kernel_rfl) (by kernel_rfl) (by kernel_rfl)
  (ll 0 (by kernel_rfl) trivial) (λx=>by kernel_rfl)
def qio:Plan:=⟨[],[],0,0⟩
def zlz (t0:PV .str)(t1:PV .str):Option (PVs [.str,.bool]×PVs []):=
 (ztr t0 t1).bind λr1=>
   some ((r1.1.1,r1.1.2.1,()),())
def ztw:Ct:=⟨[(.bor,.str),(.bor,.str)],[(.str,.b),(.bool,.b)],λx=>zlz x.1 x.2.1⟩
def qip:Cx:=⟨tab,arrs,[(260,zy9)],[],gl,[]⟩
theorem zzt:FnOk gl Tryz.prog 218 ztw:=
 fo qip qio 0 (oz ⟨qg3,trivial⟩ trivial) Tryz.func218 (by kernel_rfl) (by kernel_rfl) (by kernel_rfl)
  (ll 0 (by kernel_rfl) trivial) (λx=>by kernel_rfl)
def qg4:Plan:=⟨[],[],0,0⟩
def zts (t0:PV .str)(t1:PV .str):Option (PVs [.str,.bool]×PVs []):=
 (zhi t0 t1).bind λr4=>
   bif (!r4.1.1) then
    some ((t0,false,()),())
   else
    bif cutB 0 (IntKind.wrap .i64 ((t0.length:Int) -(t1.length:Int))) t0.length then
     some (((cutL 0 (IntKind.wrap .i64 ((t0.length:Int) -(t1.length:Int))) t0),true,()),())
    else
     none
def zza:Ct:=⟨[(.bor,.str),(.bor,.str)],[(.str,.b),(.bool,.b)],λx=>zts x.1 x.2.1⟩
def qg5:Cx:=⟨tab,arrs,[(265,zow)],[],gl,[]⟩
theorem qg6:FnOk gl Tryz.prog 261 zza:=
 fo qg5 qg4 0 (oz ⟨ztp,trivial⟩ trivial) Tryz.func261 (by kernel_rfl) (by kernel_rfl) (by kernel_rfl)
  (ll 0 (by kernel_rfl) trivial) (λx=>by kernel_rfl)
def qiq:Plan:=⟨[],[],0,0⟩
def zl0 (t0:PV .str)(t1:PV .str):Option (PVs [.str,.bool]×PVs []):=
 (zts t0 t1).bind λr1=>
   some ((r1.1.1,r1.1.2.1,()),())
def ztx:Ct:=⟨[(.bor,.str),(.bor,.str)],[(.str,.b),(.bool,.b)],λx=>zl0 x.1 x.2.1⟩
def qir:Cx:=⟨tab,arrs,[(261,zza)],[],gl,[]⟩
theorem zzu:FnOk gl Tryz.prog 219 ztx:=
 fo qir qiq 0 (oz ⟨qg6,trivial⟩ trivial) Tryz.func219 (by kernel_rfl) (by kernel_rfl) (by kernel_rfl)
  (ll 0 (by kernel_rfl) trivial) (λx=>by kernel_rfl)
def qwn:Plan:=⟨[],[],0,0⟩
def zp2 (t0:PV (.int .i64))(t1:PV (.int .i64)):Option (PVs [.bool]×PVs []):=
 (zb4 t0 0 999).bind λr1=>
   bif r1.1.1 then
    (zb4 t1 0 999).bind λr2=>
      some ((r2.1.1,()),())
   else
    some ((false,()),())
def z6u:Ct:=⟨[(.bor,(.int .i64)),(.bor,(.int .i64))],[(.bool,.b)],λx=>zp2 x.1 x.2.1⟩
def qwo:Cx:=⟨tab,arrs,[(131,zi2)],[],gl,[]⟩
theorem qwp:FnOk gl Tryz.prog 262 z6u:=
 fo qwo qwn 0 (oz ⟨zle,trivial⟩ trivial) Tryz.func262 (by kernel_rfl) (by kernel_rfl) (by kernel_rfl)
  (ll 0 (by kernel_rfl) trivial) (λx=>by kernel_rfl)
def qoa:List Out:=[⟨.normal,⟨[],[5,6,8,25,26,27,28],[]⟩,mkSh 32 [(5,.val (.int .i64) .b),(6,.val (.int .i64) .b),(8,.val .bool .b)]⟩]
def qob:List Out:=[⟨.normal,⟨[],[5,6,8,25,26,27,28],[]⟩,mkSh 32 [(5,.val (.int .i64) .b),(6,.val (.int .i64) .b),(8,.val .bool .b)]⟩]
def qoc:List Out:=[⟨.normal,⟨[],[5,6,29],[]⟩,mkSh 32 [(5,.val (.int .i64) .b),(6,.val (.int .i64) .b),(29,.val .bool .b)]⟩]
def qp9:Plan:=⟨[(4,qoa),(6,qob),(7,qoc)],[],0,0⟩
def zmf (t0:PV .str):Option (PVs [(.int .i64),(.int .i64),.bool]×PVs []):=
 (zec t0).bind λr2=>
   ((
     bif (!r2.1.2.2.1) then
      some (r2.1.1,1,r2.1.2.2.2.1,())
     else
      some (r2.1.1,r2.1.2.1,r2.1.2.2.2.1,()):Option ((PV (.int .i64)×PV (.int .i64)×PV .bool×Unit)))).bind λj3=>
     ((
       bif (decide (j3.2.1>0)) then
        some ((IntKind.wrap .i64 (j3.1 -1)),j3.2.1,j3.2.2.1,())
       else
        some (j3.1,j3.2.1,j3.2.2.1,()):Option ((PV (.int .i64)×PV (.int .i64)×PV .bool×Unit)))).bind λj4=>
       ((
         bif (!j4.2.2.1) then
          some (j4.1,j4.2.1,true,())
         else
          (zp2 j4.1 j4.2.1).bind λr8=>
            some (j4.1,j4.2.1,(!r8.1.1),()):Option ((PV (.int .i64)×PV (.int .i64)×PV .bool×Unit)))).bind λj9=>
         bif j9.2.2.1 then
          some ((0,0,false,()),())
         else
          some ((j9.1,j9.2.1,true,()),())
def z3o:Ct:=⟨[(.bor,.str)],[((.int .i64),.b),((.int .i64),.b),(.bool,.b)],λx=>zmf x.1⟩
def qqa:Cx:=⟨tab,arrs,[(143,zmo),(262,z6u)],[],gl,[]⟩
theorem qqb:FnOk gl Tryz.prog 220 z3o:=
 fo qqa qp9 0 (oz ⟨zpp,qwp,trivial⟩ trivial) Tryz.func220 (by kernel_rfl) (by kernel_rfl) (by kernel_rfl)
  (ll 0 (by kernel_rfl) trivial) (λx=>by kernel_rfl)
def qis:Plan:=⟨[],[],0,0⟩
def zo1 (t0:PV .str)(t1:PV (.int .u8)):Option (PVs [(.int .i64)]×PVs []):=
 (ztt t0 t1).bind λr1=>
   some ((r1.1.1,()),())
def zzv:Ct:=⟨[(.bor,.str),(.bor,(.int .u8))],[((.int .i64),.b)],λx=>zo1 x.1 x.2.1⟩
def qit:Cx:=⟨tab,arrs,[(263,zy8)],[],gl,[]⟩
theorem qiu:FnOk gl Tryz.prog 221 zzv:=
 fo qit qis 0 (oz ⟨qgw,trivial⟩ trivial) Tryz.func221 (by kernel_rfl) (by kernel_rfl) (by kernel_rfl)
  (ll 0 (by kernel_rfl) trivial) (λx=>by kernel_rfl)
def qs7:Plan:=⟨[],[],0,0⟩
def zmk (t0:PV .str)(t1:PV .str):Option (PVs [.str]×PVs []):=
 bif decide ([64,64,32,45].length+t0.length<=1099511627776) then
  bif decide (([64,64,32,45]++t0).length+[32,43].length<=1099511627776) then
   bif decide ((([64,64,32,45]++t0)++[32,43]).length+t1.length<=1099511627776) then
    bif decide (((([64,64,32,45]++t0)++[32,43])++t1).length+[32,64,64,10].length<=1099511627776) then
     some (((((([64,64,32,45]++t0)++[32,43])++t1)++[32,64,64,10]),()),())
    else
     none
   else
    none
  else
   none
 else
  none
def z5a:Ct:=⟨[(.bor,.str),(.bor,.str)],[(.str,.b)],λx=>zmk x.1 x.2.1⟩
def qs8:Cx:=⟨tab,arrs,[],[],gl,[]⟩
theorem qs9:FnOk gl Tryz.prog 190 z5a:=
 fo qs8 qs7 0 (oz trivial trivial) Tryz.func190 (by kernel_rfl) (by kernel_rfl) (by kernel_rfl)
  (ll 0 (by kernel_rfl) trivial) (λx=>by kernel_rfl)
def qta:Plan:=⟨[],[],0,0⟩
def zh4 (t0:PV zo):Option (PVs [.str]×PVs []):=
 bif cutB t0.1 (IntKind.wrap .i64 (t0.1+1)) [63,32,45,43].length then
  some (((cutL t0.1 (IntKind.wrap .i64 (t0.1+1)) [63,32,45,43]),()),())
 else
  none
def zuo:Ct:=⟨[(.bor,zo)],[(.str,.b)],λx=>zh4 x.1⟩
def qtb:Cx:=⟨tab,arrs,[],[],gl,[]⟩
theorem z4a:FnOk gl Tryz.prog 182 zuo:=
 fo qtb qta 0 (oz trivial trivial) Tryz.func182 (by kernel_rfl) (by kernel_rfl) (by kernel_rfl)
  (ll 0 (by kernel_rfl) trivial) (λx=>by kernel_rfl)
def qod:List Sh:=mkSh 21 [(3,.val .str .b),(6,.val zi .b),(7,.val (.int .i64) .b),(8,.val (.int .i64) .b)]
def qqc:List Out:=[⟨.exit 0,⟨[],[3],[]⟩,mkSh 21 [(3,.val .str .b)]⟩]
def zht (t3:PV .str)(t6:PV zi)(t7:PV (.int .i64))(t8:PV (.int .i64)):Option ((PV .str×PV zi×PV (.int .i64)×PV (.int .i64)×Unit)⊕((PV .str×Unit))):=
 bif (decide (t8<t7)) then
  bif inB t8 t6.length then
   (zh4 (t6.getD t8.toNat (dflt zo))).bind λr3=>
     (zcq r3.1.1 (((t6.getD t8.toNat (dflt zo)).2).1)).bind λr4=>
       bif decide (t3.length+r4.1.1.length<=1099511627776) then
        some (.inl ((t3++r4.1.1),t6,t7,(IntKind.wrap .i64 (t8+1)),()))
       else
        none
  else
   none
 else
  some (.inr (t3,()))
def z2p:PV .str×PV zi×PV (.int .i64)×PV (.int .i64)×Unit->Option ((PV .str×Unit)):=fix λd=>zht d.1 d.2.1 d.2.2.1 d.2.2.2.1
def z2k:Lp:=⟨⟨[],[3,6,7,8],[]⟩,qod,qqc,λd=>zht d.1 d.2.1 d.2.2.1 d.2.2.2.1⟩
def qtc:Plan:=⟨[],[(3,z2k)],0,0⟩
def zml (t0:PV zi):Option (PVs [.str]×PVs []):=
 (z2p ([],t0,(t0.length:Int),0,())).bind λl6=>
   some ((l6.1,()),())
def z5b:Ct:=⟨[(.bor,zi)],[(.str,.b)],λx=>zml x.1⟩
def qtd:Cx:=⟨tab,arrs,[(181,zq5),(182,zuo)],[],gl,[]⟩
theorem qte:FnOk gl Tryz.prog 192 z5b:=
 fo qtd qtc 0 (oz ⟨zvz,z4a,trivial⟩ trivial) Tryz.func192 (by kernel_rfl) (by kernel_rfl) (by kernel_rfl)
  (ll 1 (by kernel_rfl) (lc z2k (by kernel_rfl) (λd=>by kernel_rfl) trivial)) (λx=>by kernel_rfl)
def qoe:List Out:=[⟨.normal,⟨[],[0,2,8,11,13,14,15,69,76,77,103,104,105,106,142,143],[]⟩,mkSh 145 [(0,.val zf .b),(2,.var zh (.pr .b (.pr .b (.pr (.row (.pr .b (.pr .b .b))) .b)))),(8,.val .str .b),(11,.val .str .b),(13,.var zh (.pr .b (.pr .b (.pr (.row (.pr .b (.pr .b .b))) .b)))),(14,.val (.int .i64) .b),(15,.val (.int .i64) .b),(69,.val .bool .b)]⟩]
def ql9:List Out:=[⟨.exit 0,⟨[],[0,2,8,11,13,14,15,142,143],[]⟩,mkSh 145 [(0,.val zf .b),(2,.var zh (.pr .b (.pr .b (.pr (.row (.pr .b (.pr .b .b))) .b)))),(8,.val .str .b),(11,.val .str .b),(13,.var zh (.pr .b (.pr .b (.pr (.row (.pr .b (.pr .b .b))) .b)))),(14,.val (.int .i64) .b),(15,.val (.int .i64) .b)]⟩,⟨.normal,⟨[],[0,2,8,11,13,14,15,103,104,105,106,142,143],[]⟩,mkSh 145 [(0,.val zf .b),(2,.var zh (.pr .b (.pr .b (.pr (.row (.pr .b (.pr .b .b))) .b)))),(8,.val .str .b),(11,.val .str .b),(13,.var zh (.pr .b (.pr .b (.pr (.row (.pr .b (.pr .b .b))) .b)))),(14,.val (.int .i64) .b),(15,.val (.int .i64) .b)]⟩]
def qma:List Out:=[⟨.normal,⟨[],[0,2,8,11,13,14,15,18,76,77,107,142,143],[]⟩,mkSh 145 [(0,.val zf .b),(2,.var zh (.pr .b (.pr .b (.pr (.row (.pr .b (.pr .b .b))) .b)))),(8,.val .str .b),(11,.val .str .b),(13,.var zh (.pr .b (.pr .b (.pr (.row (.pr .b (.pr .b .b))) .b)))),(14,.val (.int .i64) .b),(15,.val (.int .i64) .b),(18,.var zo .b),(107,.val .bool .b)]⟩]
def qmb:List Out:=[⟨.normal,⟨[(18,.b)],[0,2,8,11,13,14,15,18,76,77,103,104,105,106,142,143],[]⟩,mkSh 145 [(0,.val zf .b),(2,.var zh (.pr .b (.pr .b (.pr (.row (.pr .b (.pr .b .b))) .b)))),(8,.val .str .b),(11,.val .str .b),(13,.var zh (.pr .b (.pr .b (.pr (.row (.pr .b (.pr .b .b))) .b)))),(14,.val (.int .i64) .b),(15,.val (.int .i64) .b),(18,.var zo .b)]⟩]
def qmc:List Out:=[⟨.normal,⟨[],[0,2,8,11,13,14,15,18,76,77,103,104,105,106,142,143],[]⟩,mkSh 145 [(0,.val zf .b),(2,.var zh (.pr .b (.pr .b (.pr (.row (.pr .b (.pr .b .b))) .b)))),(8,.val .str .b),(11,.val .str .b),(13,.var zh (.pr .b (.pr .b (.pr (.row (.pr .b (.pr .b .b))) .b)))),(14,.val (.int .i64) .b),(15,.val (.int .i64) .b),(18,.var zo .b)]⟩]
def qmd:List Out:=[⟨.normal,⟨[],[0,2,8,11,13,14,15,18,76,77,103,104,105,106,142,143],[]⟩,mkSh 145 [(0,.val zf .b),(2,.var zh (.pr .b (.pr .b (.pr (.row (.pr .b (.pr .b .b))) .b)))),(8,.val .str .b),(11,.val .str .b),(13,.var zh (.pr .b (.pr .b (.pr (.row (.pr .b (.pr .b .b))) .b)))),(14,.val (.int .i64) .b),(15,.val (.int .i64) .b),(18,.var zo .b)]⟩]
def qkv:List Sh:=mkSh 145 [(0,.val zf .b),(2,.var zh (.pr .b (.pr .b (.pr (.row (.pr .b (.pr .b .b))) .b)))),(8,.val .str .b),(11,.val .str .b),(13,.var zh (.pr .b (.pr .b (.pr (.row (.pr .b (.pr .b .b))) .b)))),(14,.val (.int .i64) .b),(15,.val (.int .i64) .b)]
def qme:List Out:=[⟨.exit 0,⟨[],[0,2,8,11,13,14,15,142,143],[]⟩,mkSh 145 [(0,.val zf .b),(2,.var zh (.pr .b (.pr .b (.pr (.row (.pr .b (.pr .b .b))) .b)))),(8,.val .str .b),(11,.val .str .b),(13,.var zh (.pr .b (.pr .b (.pr (.row (.pr .b (.pr .b .b))) .b)))),(14,.val (.int .i64) .b),(15,.val (.int .i64) .b)]⟩,⟨.ret,⟨[],[2,3,4,5],[]⟩,mkSh 145 [(2,.var zh (.pr .b (.pr .b (.pr (.row (.pr .b (.pr .b .b))) .b)))),(3,.val .str .b),(4,.val zf (.row .b)),(5,.val .bool .b)]⟩]
def zgf (t0:PV zf)(t2:PV zh)(t8:PV .str)(t11:PV .str)(t13:PV zh)(t14:PV (.int .i64))(t15:PV (.int .i64)):Option ((PV zf×PV zh×PV .str×PV .str×PV zh×PV (.int .i64)×PV (.int .i64)×Unit)⊕((PV zf×PV zh×PV .str×PV .str×PV zh×PV (.int .i64)×PV (.int .i64)×Unit)⊕(PV zh×PV .str×PV zf×PV .bool×Unit))):=
 ((
   bif (decide (t14>0)) then
    some (.inr (t0,t2,t8,t11,t13,t14,t15,()))
   else
    bif (decide (t15>0)) then
     some (.inr (t0,t2,t8,t11,t13,t14,t15,()))
    else
     some (.inl (t0,t2,t8,t11,t13,t14,t15,())):Option ((PV zf×PV zh×PV .str×PV .str×PV zh×PV (.int .i64)×PV (.int .i64)×Unit)⊕(PV zf×PV zh×PV .str×PV .str×PV zh×PV (.int .i64)×PV (.int .i64)×Unit)))).bind λx28=>
   match x28 with
   | .inl j13=>
     some (.inr (.inl (j13.1,j13.2.1,j13.2.2.1,j13.2.2.2.1,j13.2.2.2.2.1,j13.2.2.2.2.2.1,j13.2.2.2.2.2.2.1,())))
   | .inr j14=>
     bif ((j14.1.length:Int)==0) then
      some (.inr (.inr ((0,(0,(([]:PV zi),()))),[],[],false,())))
     else
      bif inB 0 j14.1.length then
       bif inB 0 (j14.1.getD ((0:Int).toNat) []).length then
        (zo1 [63,32,45,43] (((j14.1.getD ((0:Int).toNat) []).getD (0:Int).toNat 0).toNat:Int)).bind λr16=>
          bif inB 0 j14.1.length then
           bif cutB 1 ((j14.1.getD ((0:Int).toNat) []).length:Int) (j14.1.getD ((0:Int).toNat) []).length then
            bif cutB 1 (j14.1.length:Int) j14.1.length then
             bif (decide (r16.1.1<1)) then
              some (.inr (.inr ((0,(0,(([]:PV zi),()))),[],[],false,())))
             else
              ((
                ((
                  bif (decide (((cutL 1 (j14.1.length:Int) j14.1).length:Int)>0)) then
                   bif inB 0 (cutL 1 (j14.1.length:Int) j14.1).length then
                    some ((cutL 1 (j14.1.length:Int) j14.1),j14.2.1,j14.2.2.1,j14.2.2.2.1,j14.2.2.2.2.1,j14.2.2.2.2.2.1,j14.2.2.2.2.2.2.1,(r16.1.1,((cutL 1 ((j14.1.getD ((0:Int).toNat) []).length:Int) (j14.1.getD ((0:Int).toNat) [])),())),(((cutL 1 (j14.1.length:Int) j14.1).getD ((0:Int).toNat) [])==[92,32,110,111,110,101,10]),())
                   else
                    none
                  else
                   some ((cutL 1 (j14.1.length:Int) j14.1),j14.2.1,j14.2.2.1,j14.2.2.2.1,j14.2.2.2.2.1,j14.2.2.2.2.2.1,j14.2.2.2.2.2.2.1,(r16.1.1,((cutL 1 ((j14.1.getD ((0:Int).toNat) []).length:Int) (j14.1.getD ((0:Int).toNat) [])),())),false,()):Option ((PV zf×PV zh×PV .str×PV .str×PV zh×PV (.int .i64)×PV (.int .i64)×PV zo×PV .bool×Unit)))).bind λj17=>
                  bif j17.2.2.2.2.2.2.2.2.1 then
                   (zfy j17.2.2.2.2.2.2.2.1.2.1).bind λr18=>
                     bif cutB 1 (j17.1.length:Int) j17.1.length then
                      some ((cutL 1 (j17.1.length:Int) j17.1),j17.2.1,j17.2.2.1,j17.2.2.2.1,j17.2.2.2.2.1,j17.2.2.2.2.2.1,j17.2.2.2.2.2.2.1,(j17.2.2.2.2.2.2.2.1.1,(r18.1.1,j17.2.2.2.2.2.2.2.1.2.2)),())
                     else
                      none
                  else
                   some (j17.1,j17.2.1,j17.2.2.1,j17.2.2.2.1,j17.2.2.2.2.1,j17.2.2.2.2.2.1,j17.2.2.2.2.2.2.1,j17.2.2.2.2.2.2.2.1,()):Option ((PV zf×PV zh×PV .str×PV .str×PV zh×PV (.int .i64)×PV (.int .i64)×PV zo×Unit)))).bind λj19=>
                ((
                  bif (!(j19.2.2.2.2.2.2.2.1.1==3)) then
                   some (j19.1,j19.2.1,j19.2.2.1,j19.2.2.2.1,j19.2.2.2.2.1,(IntKind.wrap .i64 (j19.2.2.2.2.2.1 -1)),j19.2.2.2.2.2.2.1,j19.2.2.2.2.2.2.2.1,())
                  else
                   some (j19.1,j19.2.1,j19.2.2.1,j19.2.2.2.1,j19.2.2.2.2.1,j19.2.2.2.2.2.1,j19.2.2.2.2.2.2.1,j19.2.2.2.2.2.2.2.1,()):Option ((PV zf×PV zh×PV .str×PV .str×PV zh×PV (.int .i64)×PV (.int .i64)×PV zo×Unit)))).bind λj20=>
                  ((
                    bif (!(j20.2.2.2.2.2.2.2.1.1==2)) then
                     some (j20.1,j20.2.1,j20.2.2.1,j20.2.2.2.1,j20.2.2.2.2.1,j20.2.2.2.2.2.1,(IntKind.wrap .i64 (j20.2.2.2.2.2.2.1 -1)),j20.2.2.2.2.2.2.2.1,())
                    else
                     some (j20.1,j20.2.1,j20.2.2.1,j20.2.2.2.1,j20.2.2.2.2.1,j20.2.2.2.2.2.1,j20.2.2.2.2.2.2.1,j20.2.2.2.2.2.2.2.1,()):Option ((PV zf×PV zh×PV .str×PV .str×PV zh×PV (.int .i64)×PV (.int .i64)×PV zo×Unit)))).bind λj21=>
                    bif qw (j21.2.2.2.2.1.2.2.1.length+[j21.2.2.2.2.2.2.2.1].length) then
                     some (.inl (j21.1,j21.2.1,j21.2.2.1,j21.2.2.2.1,(j21.2.2.2.2.1.1,(j21.2.2.2.2.1.2.1,((j21.2.2.2.2.1.2.2.1++[j21.2.2.2.2.2.2.2.1]),j21.2.2.2.2.1.2.2.2))),j21.2.2.2.2.2.1,j21.2.2.2.2.2.2.1,()))
                    else
                     none
            else
             none
           else
            none
          else
           none
       else
        none
      else
       none
def ze7:PV zf×PV zh×PV .str×PV .str×PV zh×PV (.int .i64)×PV (.int .i64)×Unit->Option ((PV zf×PV zh×PV .str×PV .str×PV zh×PV (.int .i64)×PV (.int .i64)×Unit)⊕(PV zh×PV .str×PV zf×PV .bool×Unit)):=fix λd=>zgf d.1 d.2.1 d.2.2.1 d.2.2.2.1 d.2.2.2.2.1 d.2.2.2.2.2.1 d.2.2.2.2.2.2.1
def z0s:Lp:=⟨⟨[],[0,2,8,11,13,14,15,76,77,103,104,105,106,142,143],[]⟩,qkv,qme,λd=>zgf d.1 d.2.1 d.2.2.1 d.2.2.2.1 d.2.2.2.2.1 d.2.2.2.2.2.1 d.2.2.2.2.2.2.1⟩
def qqd:Plan:=⟨[(8,qoe),(11,ql9),(18,qma),(19,qmb),(21,qmc),(23,qmd)],[(10,z0s)],0,0⟩
def zc5 (t0:PV zf):Option (PVs [zh,.str,zf,.bool]×PVs []):=
 bif inB 0 t0.length then
  (zlz (t0.getD ((0:Int).toNat) []) [64,64,32,45]).bind λr2=>
    (zdq r2.1.1 [32,43]).bind λr4=>
      (zl0 r4.1.2.1 [32,64,64,10]).bind λr6=>
        (zmf r4.1.1).bind λr8=>
          (zmf r6.1.1).bind λr10=>
            ((
              bif (!r2.1.2.1) then
               some (t0,(0,(0,(([]:PV zi),()))),r4.1.1,r6.1.1,(r8.1.1,(r10.1.1,(([]:PV zi),()))),r8.1.2.1,r10.1.2.1,true,())
              else
               bif (!r4.1.2.2.1) then
                some (t0,(0,(0,(([]:PV zi),()))),r4.1.1,r6.1.1,(r8.1.1,(r10.1.1,(([]:PV zi),()))),r8.1.2.1,r10.1.2.1,true,())
               else
                bif (!r6.1.2.1) then
                 some (t0,(0,(0,(([]:PV zi),()))),r4.1.1,r6.1.1,(r8.1.1,(r10.1.1,(([]:PV zi),()))),r8.1.2.1,r10.1.2.1,true,())
                else
                 bif (!r8.1.2.2.1) then
                  some (t0,(0,(0,(([]:PV zi),()))),r4.1.1,r6.1.1,(r8.1.1,(r10.1.1,(([]:PV zi),()))),r8.1.2.1,r10.1.2.1,true,())
                 else
                  some (t0,(0,(0,(([]:PV zi),()))),r4.1.1,r6.1.1,(r8.1.1,(r10.1.1,(([]:PV zi),()))),r8.1.2.1,r10.1.2.1,(!r10.1.2.2.1),()):Option ((PV zf×PV zh×PV .str×PV .str×PV zh×PV (.int .i64)×PV (.int .i64)×PV .bool×Unit)))).bind λj12=>
              bif j12.2.2.2.2.2.2.2.1 then
               some (((0,(0,(([]:PV zi),()))),[],[],false,()),())
              else
               bif cutB 1 (j12.1.length:Int) j12.1.length then
                (ze7 ((cutL 1 (j12.1.length:Int) j12.1),j12.2.1,j12.2.2.1,j12.2.2.2.1,j12.2.2.2.2.1,j12.2.2.2.2.2.1,j12.2.2.2.2.2.2.1,())).bind λx29=>
                  match x29 with
                  | .inl l24=>
                    (zmk l24.2.2.1 l24.2.2.2.1).bind λr25=>
                      (zml l24.2.2.2.2.1.2.2.1).bind λr26=>
                        bif decide (r25.1.1.length+r26.1.1.length<=1099511627776) then
                         bif (l24.2.2.2.2.2.1==0) then
                          some ((l24.2.2.2.2.1,(r25.1.1++r26.1.1),l24.1,(l24.2.2.2.2.2.2.1==0),()),())
                         else
                          some ((l24.2.2.2.2.1,(r25.1.1++r26.1.1),l24.1,false,()),())
                        else
                         none
                  | .inr l27=>
                    some ((l27.1,l27.2.1,l27.2.2.1,l27.2.2.2.1,()),())
               else
                none
 else
  none
def z3p:Ct:=⟨[(.bor,zf)],[(zh,(.pr .b (.pr .b (.pr (.row (.pr .b (.pr .b .b))) .b)))),(.str,.b),(zf,.b),(.bool,.b)],λx=>zc5 x.1⟩
def qqe:Cx:=⟨tab,arrs,[(141,zki),(190,z5a),(192,z5b),(211,zug),(218,ztw),(219,ztx),(220,z3o),(221,zzv)],[],gl,[]⟩
theorem qqf:FnOk gl Tryz.prog 149 z3p:=
 fo qqe qqd 0 (oz ⟨zm4,qs9,qte,z3i,zzt,zzu,qqb,qiu,trivial⟩ trivial) Tryz.func149 (by kernel_rfl) (by kernel_rfl) (by kernel_rfl)
  (ll 1 (by kernel_rfl) (lc z0s (by kernel_rfl) (λd=>by kernel_rfl) trivial)) (λx=>by kernel_rfl)
def qkw:List Out:=[⟨.normal,⟨[],[5,6,7,8,9,28],[]⟩,mkSh 39 [(5,.val zl (.row (.pr .b (.pr .b (.pr (.row (.pr .b (.pr .b .b))) .b))))),(6,.val .str .b),(7,.var zh (.pr .b (.pr .b (.pr (.row (.pr .b (.pr .b .b))) .b)))),(8,.val .str .b),(9,.val zf .b),(28,.val .bool .b)]⟩]
def qju:List Sh:=mkSh 39 [(0,.val zf .b),(5,.val zl (.row (.pr .b (.pr .b (.pr (.row (.pr .b (.pr .b .b))) .b))))),(6,.val .str .b)]
def qkx:List Out:=[⟨.exit 0,⟨[],[5,6],[]⟩,mkSh 39 [(5,.val zl (.row (.pr .b (.pr .b (.pr (.row (.pr .b (.pr .b .b))) .b))))),(6,.val .str .b)]⟩,⟨.ret,⟨[],[2,3,4],[]⟩,mkSh 39 [(2,.val zl (.row (.pr .b (.pr .b (.pr (.row (.pr .b (.pr .b .b))) .b))))),(3,.val .str .b),(4,.val .bool .b)]⟩]
def zge (t0:PV zf)(t5:PV zl)(t6:PV .str):Option ((PV zf×PV zl×PV .str×Unit)⊕((PV zl×PV .str×Unit)⊕(PV zl×PV .str×PV .bool×Unit))):=
 bif (decide ((t0.length:Int)>0)) then
  (zc5 t0).bind λr2=>
    ((
      bif (!r2.1.2.2.2.1) then
       some (t5,t6,r2.1.1,r2.1.2.1,r2.1.2.2.1,true,())
      else
       some (t5,t6,r2.1.1,r2.1.2.1,r2.1.2.2.1,((t5.length:Int)==20),()):Option ((PV zl×PV .str×PV zh×PV .str×PV zf×PV .bool×Unit)))).bind λj4=>
      bif j4.2.2.2.2.2.1 then
       some (.inr (.inr ([],[],false,())))
      else
       bif qw (j4.1.length+[j4.2.2.1].length) then
        bif decide (j4.2.1.length+j4.2.2.2.1.length<=1099511627776) then
         some (.inl (j4.2.2.2.2.1,(j4.1++[j4.2.2.1]),(j4.2.1++j4.2.2.2.1),()))
        else
         none
       else
        none
 else
  some (.inr (.inl (t5,t6,())))
def zl2:PV zf×PV zl×PV .str×Unit->Option ((PV zl×PV .str×Unit)⊕(PV zl×PV .str×PV .bool×Unit)):=fix λd=>zge d.1 d.2.1 d.2.2.1
def z0f:Lp:=⟨⟨[],[0,5,6,25,26,27],[]⟩,qju,qkx,λd=>zge d.1 d.2.1 d.2.2.1⟩
def qmf:Plan:=⟨[(5,qkw)],[(2,z0f)],0,0⟩
def zt6 (t0:PV zf):Option (PVs [zl,.str,.bool]×PVs []):=
 (zl2 (t0,([]:PV zl),[],())).bind λx9=>
   match x9 with
   | .inl l7=>
     some ((l7.1,l7.2.1,true,()),())
   | .inr l8=>
     some ((l8.1,l8.2.1,l8.2.2.1,()),())
def z1i:Ct:=⟨[(.bor,zf)],[(zl,(.row (.pr .b (.pr .b (.pr (.row (.pr .b (.pr .b .b))) .b))))),(.str,.b),(.bool,.b)],λx=>zt6 x.1⟩
def qmg:Cx:=⟨tab,arrs,[(149,z3p)],[],gl,[]⟩
theorem qmh:FnOk gl Tryz.prog 85 z1i:=
 fo qmg qmf 0 (oz ⟨qqf,trivial⟩ trivial) Tryz.func85 (by kernel_rfl) (by kernel_rfl) (by kernel_rfl)
  (ll 1 (by kernel_rfl) (lc z0f (by kernel_rfl) (λd=>by kernel_rfl) trivial)) (λx=>by kernel_rfl)
def qwq:List Out:=[⟨.normal,⟨[],[1,5,9,10,11],[]⟩,mkSh 26 [(1,.val (.int .i64) .b),(5,.val zf (.row .b)),(9,.val zi .b),(10,.val (.int .i64) .b),(11,.val (.int .i64) .b)]⟩]
def qtf:List Sh:=mkSh 26 [(1,.val (.int .i64) .b),(5,.val zf (.row .b)),(9,.val zi .b),(10,.val (.int .i64) .b),(11,.val (.int .i64) .b)]
def qwr:List Out:=[⟨.exit 0,⟨[],[5],[]⟩,mkSh 26 [(5,.val zf (.row .b))]⟩]
def zh3 (t1:PV (.int .i64))(t5:PV zf)(t9:PV zi)(t10:PV (.int .i64))(t11:PV (.int .i64)):Option ((PV (.int .i64)×PV zf×PV zi×PV (.int .i64)×PV (.int .i64)×Unit)⊕((PV zf×Unit))):=
 bif (decide (t11<t10)) then
  ((
    bif inB t11 t9.length then
     bif (!(((t9.getD t11.toNat (dflt zo)).1)==t1)) then
      bif qw (t5.length+[((t9.getD t11.toNat (dflt zo)).2).1].length) then
       some (t1,(t5++[((t9.getD t11.toNat (dflt zo)).2).1]),t9,t10,t11,())
      else
       none
     else
      some (t1,t5,t9,t10,t11,())
    else
     none:Option ((PV (.int .i64)×PV zf×PV zi×PV (.int .i64)×PV (.int .i64)×Unit)))).bind λj1=>
    some (.inl (j1.1,j1.2.1,j1.2.2.1,j1.2.2.2.1,(IntKind.wrap .i64 (j1.2.2.2.2.1+1)),()))
 else
  some (.inr (t5,()))
def z5t:PV (.int .i64)×PV zf×PV zi×PV (.int .i64)×PV (.int .i64)×Unit->Option ((PV zf×Unit)):=fix λd=>zh3 d.1 d.2.1 d.2.2.1 d.2.2.2.1 d.2.2.2.2.1
def z5c:Lp:=⟨⟨[],[1,5,9,10,11],[]⟩,qtf,qwr,λd=>zh3 d.1 d.2.1 d.2.2.1 d.2.2.2.1 d.2.2.2.2.1⟩
def q0m:Plan:=⟨[(7,qwq)],[(3,z5c)],0,0⟩
def zmx (t0:PV zi)(t1:PV (.int .i64)):Option (PVs [zf]×PVs []):=
 (z5t (t1,([]:PV zf),t0,(t0.length:Int),0,())).bind λl3=>
   some ((l3.1,()),())
def zvk:Ct:=⟨[(.bor,zi),(.bor,(.int .i64))],[(zf,(.row .b))],λx=>zmx x.1 x.2.1⟩
def q0o:Cx:=⟨tab,arrs,[],[],gl,[]⟩
theorem z8r:FnOk gl Tryz.prog 222 zvk:=
 fo q0o q0m 0 (oz trivial trivial) Tryz.func222 (by kernel_rfl) (by kernel_rfl) (by kernel_rfl)
  (ll 1 (by kernel_rfl) (lc z5c (by kernel_rfl) (λd=>by kernel_rfl) trivial)) (λx=>by kernel_rfl)
def qqg:Plan:=⟨[],[],0,0⟩
def zhv (t0:PV zh):Option (PVs [zf]×PVs []):=
 (zmx t0.2.2.1 3).bind λr1=>
   some ((r1.1.1,()),())
def zpd:Ct:=⟨[(.bor,zh)],[(zf,(.row .b))],λx=>zhv x.1⟩
def qqh:Cx:=⟨tab,arrs,[(222,zvk)],[],gl,[]⟩
theorem zue:FnOk gl Tryz.prog 150 zpd:=
 fo qqh qqg 0 (oz ⟨z8r,trivial⟩ trivial) Tryz.func150 (by kernel_rfl) (by kernel_rfl) (by kernel_rfl)
  (ll 0 (by kernel_rfl) trivial) (λx=>by kernel_rfl)
def qmi:Plan:=⟨[],[],0,0⟩
def zhn (t0:PV zh):Option (PVs [zf]×PVs []):=
 (zmx t0.2.2.1 2).bind λr1=>
   some ((r1.1.1,()),())
def zo5:Ct:=⟨[(.bor,zh)],[(zf,(.row .b))],λx=>zhn x.1⟩
def qmj:Cx:=⟨tab,arrs,[(222,zvk)],[],gl,[]⟩
theorem zt5:FnOk gl Tryz.prog 151 zo5:=
 fo qmj qmi 0 (oz ⟨z8r,trivial⟩ trivial) Tryz.func151 (by kernel_rfl) (by kernel_rfl) (by kernel_rfl)
  (ll 0 (by kernel_rfl) trivial) (λx=>by kernel_rfl)
def qof:List Out:=[⟨.normal,⟨[],[1,24,38,39,40,41,44,45,46,47,48,49,50,51,52,53,54,55,56,57,58,59,60,64,65,66,75,76,79,80,83,84,85,86,87,88,91,92,93,94,95,96],[]⟩,mkSh 98 [(1,.var zh .b),(24,.val .bool .b)]⟩]
def qog:List Out:=[⟨.normal,⟨[],[1,3,5,26,27,28,61,64,65,66,75,76,79,80,83,84,85,86,87,88,91,92,93,94,95,96],[]⟩,mkSh 98 [(1,.var zh .b),(3,.val .bool .b),(5,.var zo .b),(26,.val zi .b),(27,.val (.int .i64) .b),(28,.val (.int .i64) .b),(61,.val .bool .b)]⟩]
def qmk:List Out:=[⟨.normal,⟨[],[1,3,5,26,27,28,38,39,40,41,44,45,46,47,48,49,50,51,52,53,54,55,56,57,58,59,60,75,76,79,80,83,84,85,86,87,88,91,92,93,94,95,96],[]⟩,mkSh 98 [(1,.var zh .b),(3,.val .bool .b),(5,.var zo .b),(26,.val zi .b),(27,.val (.int .i64) .b),(28,.val (.int .i64) .b)]⟩,⟨.ret,⟨[],[2],[]⟩,mkSh 98 [(2,.val .bool .b)]⟩]
def qml:List Sh:=mkSh 98 [(1,.var zh .b),(3,.val .bool .b),(26,.val zi .b),(27,.val (.int .i64) .b),(28,.val (.int .i64) .b)]
def qoh:List Out:=[⟨.exit 0,⟨[],[1,3,75,76,79,80,83,84,85,86,87,88,91,92,93,94,95,96],[]⟩,mkSh 98 [(1,.var zh .b),(3,.val .bool .b)]⟩,⟨.ret,⟨[],[2],[]⟩,mkSh 98 [(2,.val .bool .b)]⟩]
def zfb (t1:PV zh)(t3:PV .bool)(t26:PV zi)(t27:PV (.int .i64))(t28:PV (.int .i64)):Option ((PV zh×PV .bool×PV zi×PV (.int .i64)×PV (.int .i64)×Unit)⊕((PV zh×PV .bool×Unit)⊕(PV .bool×Unit))):=
 bif (decide (t28<t27)) then
  ((
    bif inB t28 t26.length then
     ((
       (zb4 ((t26.getD t28.toNat (dflt zo)).1) 1 3).bind λr15=>
         bif (!r15.1.1) then
          some (t1,t3,(t26.getD t28.toNat (dflt zo)),t26,t27,t28,true,())
         else
          (zka (((t26.getD t28.toNat (dflt zo)).2).1)).bind λr16=>
            bif (!r16.1.1) then
             some (t1,t3,(t26.getD t28.toNat (dflt zo)),t26,t27,t28,true,())
            else
             bif (decide (t28>0)) then
              bif (((t26.getD t28.toNat (dflt zo)).1)==2) then
               bif inB (IntKind.wrap .i64 (t28 -1)) t1.2.2.1.length then
                some (t1,t3,(t26.getD t28.toNat (dflt zo)),t26,t27,t28,(((t1.2.2.1.getD ((IntKind.wrap .i64 (t28 -1)).toNat) (dflt zo)).1)==3),())
               else
                none
              else
               some (t1,t3,(t26.getD t28.toNat (dflt zo)),t26,t27,t28,false,())
             else
              some (t1,t3,(t26.getD t28.toNat (dflt zo)),t26,t27,t28,false,()):Option ((PV zh×PV .bool×PV zo×PV zi×PV (.int .i64)×PV (.int .i64)×PV .bool×Unit)))).bind λj17=>
       bif j17.2.2.2.2.2.2.1 then
        some (.inr (false,()))
       else
        bif j17.2.1 then
         some (.inl (j17.1,true,j17.2.2.1,j17.2.2.2.1,j17.2.2.2.2.1,j17.2.2.2.2.2.1,()))
        else
         some (.inl (j17.1,(!(j17.2.2.1.1==1)),j17.2.2.1,j17.2.2.2.1,j17.2.2.2.2.1,j17.2.2.2.2.2.1,()))
    else
     none:Option ((PV zh×PV .bool×PV zo×PV zi×PV (.int .i64)×PV (.int .i64)×Unit)⊕(PV .bool×Unit)))).bind λx30=>
    match x30 with
    | .inl j18=>
      some (.inl (j18.1,j18.2.1,j18.2.2.2.1,j18.2.2.2.2.1,(IntKind.wrap .i64 (j18.2.2.2.2.2.1+1)),()))
    | .inr j19=>
      some (.inr (.inr (j19.1,())))
 else
  some (.inr (.inl (t1,t3,())))
def z1r:PV zh×PV .bool×PV zi×PV (.int .i64)×PV (.int .i64)×Unit->Option ((PV zh×PV .bool×Unit)⊕(PV .bool×Unit)):=fix λd=>zfb d.1 d.2.1 d.2.2.1 d.2.2.2.1 d.2.2.2.2.1
def z1j:Lp:=⟨⟨[],[1,3,26,27,28,38,39,40,41,44,45,46,47,48,49,50,51,52,53,54,55,56,57,58,59,60,64,65,66,75,76,79,80,83,84,85,86,87,88,91,92,93,94,95,96],[]⟩,qml,qoh,λd=>zfb d.1 d.2.1 d.2.2.1 d.2.2.2.1 d.2.2.2.2.1⟩
def qqi:Plan:=⟨[(2,qof),(8,qog),(10,qmk)],[(5,z1j)],0,0⟩
def zpe (t0:PV zh):Option (PVs [.bool]×PVs []):=
 ((
   (zb4 t0.1 0 999).bind λr8=>
     bif (!r8.1.1) then
      some (t0,true,())
     else
      (zb4 t0.2.1 0 999).bind λr9=>
        bif (!r9.1.1) then
         some (t0,true,())
        else
         (zb4 (t0.2.2.1.length:Int) 1 80).bind λr10=>
           some (t0,(!r10.1.1),()):Option ((PV zh×PV .bool×Unit)))).bind λj11=>
   bif j11.2.1 then
    some ((false,()),())
   else
    (z1r (j11.1,false,j11.1.2.2.1,(j11.1.2.2.1.length:Int),0,())).bind λx31=>
      match x31 with
      | .inl l22=>
        (zhv l22.1).bind λr25=>
          (zhn l22.1).bind λr26=>
            bif l22.2.1 then
             (zjr r25.1.1).bind λr27=>
               bif r27.1.1 then
                (zjr r26.1.1).bind λr28=>
                  bif r28.1.1 then
                   bif (decide ((IntKind.wrap .i64 (l22.1.1+(r25.1.1.length:Int)))<=1000)) then
                    some (((decide ((IntKind.wrap .i64 (l22.1.2.1+(r26.1.1.length:Int)))<=1000)),()),())
                   else
                    some ((false,()),())
                  else
                   some ((false,()),())
               else
                some ((false,()),())
            else
             some ((false,()),())
      | .inr l29=>
        some ((l29.1,()),())
def z3q:Ct:=⟨[(.bor,zh)],[(.bool,.b)],λx=>zpe x.1⟩
def qqj:Cx:=⟨tab,arrs,[(88,zuh),(131,zi2),(150,zpd),(151,zo5),(179,zqa)],[],gl,[]⟩
theorem qqk:FnOk gl Tryz.prog 106 z3q:=
 fo qqj qqi 0 (oz ⟨z3l,zle,zue,zt5,zvf,trivial⟩ trivial) Tryz.func106 (by kernel_rfl) (by kernel_rfl) (by kernel_rfl)
  (ll 1 (by kernel_rfl) (lc z1j (by kernel_rfl) (λd=>by kernel_rfl) trivial)) (λx=>by kernel_rfl)
def qmm:List Out:=[⟨.normal,⟨[],[0,4,8,9,10,57],[]⟩,mkSh 59 [(0,.val zl .b),(4,.var zh .b),(8,.val zl .b),(9,.val (.int .i64) .b),(10,.val (.int .i64) .b),(57,.val .bool .b)]⟩]
def qky:List Sh:=mkSh 59 [(0,.val zl .b),(8,.val zl .b),(9,.val (.int .i64) .b),(10,.val (.int .i64) .b)]
def qmn:List Out:=[⟨.exit 0,⟨[],[],[]⟩,mkSh 59 []⟩,⟨.ret,⟨[],[2],[]⟩,mkSh 59 [(2,.val .bool .b)]⟩]
def ze6 (t0:PV zl)(t8:PV zl)(t9:PV (.int .i64))(t10:PV (.int .i64)):Option ((PV zl×PV zl×PV (.int .i64)×PV (.int .i64)×Unit)⊕((Unit)⊕(PV .bool×Unit))):=
 bif (decide (t10<t9)) then
  bif inB t10 t8.length then
   (zpe (t8.getD t10.toNat (dflt zh))).bind λr11=>
     bif (!r11.1.1) then
      some (.inr (.inr (false,())))
     else
      ((
        bif (decide (t10>0)) then
         bif inB (IntKind.wrap .i64 (t10 -1)) t0.length then
          bif inB (IntKind.wrap .i64 (t10 -1)) t0.length then
           (zhv (t0.getD ((IntKind.wrap .i64 (t10 -1)).toNat) (dflt zh))).bind λr12=>
             bif (decide (((t8.getD t10.toNat (dflt zh)).1)<(IntKind.wrap .i64 (((t0.getD ((IntKind.wrap .i64 (t10 -1)).toNat) (dflt zh)).1)+(r12.1.1.length:Int))))) then
              some (t0,(t8.getD t10.toNat (dflt zh)),t8,t9,t10,true,())
             else
              bif inB (IntKind.wrap .i64 (t10 -1)) t0.length then
               bif inB (IntKind.wrap .i64 (t10 -1)) t0.length then
                (zhn (t0.getD ((IntKind.wrap .i64 (t10 -1)).toNat) (dflt zh))).bind λr13=>
                  some (t0,(t8.getD t10.toNat (dflt zh)),t8,t9,t10,(decide ((((t8.getD t10.toNat (dflt zh)).2).1)<(IntKind.wrap .i64 ((((t0.getD ((IntKind.wrap .i64 (t10 -1)).toNat) (dflt zh)).2).1)+(r13.1.1.length:Int))))),())
               else
                none
              else
               none
          else
           none
         else
          none
        else
         some (t0,(t8.getD t10.toNat (dflt zh)),t8,t9,t10,false,()):Option ((PV zl×PV zh×PV zl×PV (.int .i64)×PV (.int .i64)×PV .bool×Unit)))).bind λj14=>
        bif j14.2.2.2.2.2.1 then
         some (.inr (.inr (false,())))
        else
         some (.inl (j14.1,j14.2.2.1,j14.2.2.2.1,(IntKind.wrap .i64 (j14.2.2.2.2.1+1)),()))
  else
   none
 else
  some (.inr (.inl ()))
def z0u:PV zl×PV zl×PV (.int .i64)×PV (.int .i64)×Unit->Option ((Unit)⊕(PV .bool×Unit)):=fix λd=>ze6 d.1 d.2.1 d.2.2.1 d.2.2.2.1
def z0t:Lp:=⟨⟨[],[0,8,9,10,21,22,23,24,25,26,27,28,29,30,31,32,33,34,35,36,37,38,39,40,41,42,43,44,45,46,47,48,49,50,51,52,53,54,55,56],[]⟩,qky,qmn,λd=>ze6 d.1 d.2.1 d.2.2.1 d.2.2.2.1⟩
def qoi:Plan:=⟨[(9,qmm)],[(4,z0t)],0,0⟩
def zl7 (t0:PV zl):Option (PVs [.bool]×PVs []):=
 bif (decide ((t0.length:Int)>20)) then
  some ((false,()),())
 else
  (z0u (t0,t0,(t0.length:Int),0,())).bind λx19=>
    match x19 with
    | .inl l17=>
      some ((true,()),())
    | .inr l18=>
      some ((l18.1,()),())
def zt8:Ct:=⟨[(.bor,zl)],[(.bool,.b)],λx=>zl7 x.1⟩
def qoj:Cx:=⟨tab,arrs,[(106,z3q),(150,zpd),(151,zo5)],[],gl,[]⟩
theorem z1v:FnOk gl Tryz.prog 86 zt8:=
 fo qoj qoi 0 (oz ⟨qqk,zue,zt5,trivial⟩ trivial) Tryz.func86 (by kernel_rfl) (by kernel_rfl) (by kernel_rfl)
  (ll 1 (by kernel_rfl) (lc z0t (by kernel_rfl) (λd=>by kernel_rfl) trivial)) (λx=>by kernel_rfl)
def qkz:List Out:=[⟨.normal,⟨[],[5,27],[]⟩,mkSh 29 [(5,.val zl (.row (.pr .b (.pr .b (.pr (.row (.pr .b (.pr .b .b))) .b))))),(27,.val .bool .b)]⟩]
def qk0:List Out:=[⟨.normal,⟨[],[],[]⟩,mkSh 29 []⟩,⟨.ret,⟨[],[2,3,4],[]⟩,mkSh 29 [(2,.val zl (.row (.pr .b (.pr .b (.pr (.row (.pr .b (.pr .b .b))) .b))))),(3,.val (.int .i64) .b),(4,.val .bool .b)]⟩]
def qmo:Plan:=⟨[(4,qkz),(5,qk0)],[],0,0⟩
def zl5 (t0:PV .str):Option (PVs [zl,(.int .i64),.bool]×PVs []):=
 ((
   bif (decide ((t0.length:Int)<=3000)) then
    (zif t0).bind λr10=>
      (zt6 r10.1.1).bind λr11=>
        ((
          bif r11.1.2.2.1 then
           bif (r11.1.2.1==t0) then
            (zl7 r11.1.1).bind λr12=>
              some (r11.1.1,r12.1.1,())
           else
            some (r11.1.1,false,())
          else
           some (r11.1.1,false,()):Option ((PV zl×PV .bool×Unit)))).bind λj13=>
          bif j13.2.1 then
           some (.inr (j13.1,0,true,()))
          else
           some (.inl ())
   else
    some (.inl ()):Option ((Unit)⊕(PV zl×PV (.int .i64)×PV .bool×Unit)))).bind λx16=>
   match x16 with
   | .inl j14=>
     some (([],1,false,()),())
   | .inr j15=>
     some ((j15.1,j15.2.1,j15.2.2.1,()),())
def z0z:Ct:=⟨[(.bor,.str)],[(zl,(.row (.pr .b (.pr .b (.pr (.row (.pr .b (.pr .b .b))) .b))))),((.int .i64),.b),(.bool,.b)],λx=>zl5 x.1⟩
def qmp:Cx:=⟨tab,arrs,[(75,zmn),(85,z1i),(86,zt8)],[],gl,[]⟩
theorem qli:FnOk gl Tryz.prog 36 z0z:=
 fo qmp qmo 0 (oz ⟨zpo,qmh,z1v,trivial⟩ trivial) Tryz.func36 (by kernel_rfl) (by kernel_rfl) (by kernel_rfl)
  (ll 0 (by kernel_rfl) trivial) (λx=>by kernel_rfl)
def qql:List Out:=[⟨.normal,⟨[],[7,8,35],[]⟩,mkSh 38 [(7,.val (.int .i64) .b),(8,.val (.int .i64) .b),(35,.val .bool .b)]⟩]
def qtg:Plan:=⟨[(3,qql)],[],0,0⟩
def zuw (t0:PV .str)(t1:PV (.int .i64)):Option (PVs [(.int .i64),(.int .i64),.bool]×PVs []):=
 (zec t0).bind λr2=>
   ((
     bif (!r2.1.2.2.2.1) then
      some (r2.1.1,r2.1.2.1,true,())
     else
      bif (decide ((bif decide (r2.1.2.1>r2.1.1) then r2.1.2.1 else r2.1.1)>1000)) then
       some (r2.1.1,r2.1.2.1,true,())
      else
       bif r2.1.2.2.1 then
        some (r2.1.1,r2.1.2.1,(decide (r2.1.1>(IntKind.wrap .i64 (r2.1.2.1+t1)))),())
       else
        some (r2.1.1,r2.1.2.1,false,()):Option ((PV (.int .i64)×PV (.int .i64)×PV .bool×Unit)))).bind λj4=>
     bif j4.2.2.1 then
      some ((0,0,false,()),())
     else
      some ((j4.1,j4.2.1,true,()),())
def z5d:Ct:=⟨[(.bor,.str),(.bor,(.int .i64))],[((.int .i64),.b),((.int .i64),.b),(.bool,.b)],λx=>zuw x.1 x.2.1⟩
def qth:Cx:=⟨tab,arrs,[(143,zmo)],[],gl,[]⟩
theorem qti:FnOk gl Tryz.prog 267 z5d:=
 fo qth qtg 0 (oz ⟨zpp,trivial⟩ trivial) Tryz.func267 (by kernel_rfl) (by kernel_rfl) (by kernel_rfl)
  (ll 0 (by kernel_rfl) trivial) (λx=>by kernel_rfl)
def qws:Plan:=⟨[],[],0,0⟩
def zp1 (t0:PV .str):Option (PVs [(.int .i64),(.int .i64),.bool]×PVs []):=
 (zuw t0 1).bind λr1=>
   some ((r1.1.1,r1.1.2.1,r1.1.2.2.1,()),())
def z6v:Ct:=⟨[(.bor,.str)],[((.int .i64),.b),((.int .i64),.b),(.bool,.b)],λx=>zp1 x.1⟩
def qwt:Cx:=⟨tab,arrs,[(267,z5d)],[],gl,[]⟩
theorem qwu:FnOk gl Tryz.prog 232 z6v:=
 fo qwt qws 0 (oz ⟨qti,trivial⟩ trivial) Tryz.func232 (by kernel_rfl) (by kernel_rfl) (by kernel_rfl)
  (ll 0 (by kernel_rfl) trivial) (λx=>by kernel_rfl)
def qtj:Plan:=⟨[],[],0,0⟩
def zjz (t0:PV zf)(t1:PV .str)(t2:PV .str):Option (PVs [(.int .i64),zf,.bool]×PVs []):=
 bif ((t0.length:Int)==0) then
  some ((0,[],false,()),())
 else
  bif inB 0 t0.length then
   (zlz (t0.getD ((0:Int).toNat) []) t1).bind λr2=>
     (zl0 r2.1.1 t2).bind λr4=>
       (zp1 r4.1.1).bind λr6=>
         bif cutB 1 (t0.length:Int) t0.length then
          bif r2.1.2.1 then
           bif r4.1.2.1 then
            some ((r6.1.1,(cutL 1 (t0.length:Int) t0),r6.1.2.2.1,()),())
           else
            some ((r6.1.1,(cutL 1 (t0.length:Int) t0),false,()),())
          else
           some ((r6.1.1,(cutL 1 (t0.length:Int) t0),false,()),())
         else
          none
  else
   none
def z5e:Ct:=⟨[(.bor,zf),(.bor,.str),(.bor,.str)],[((.int .i64),.b),(zf,.b),(.bool,.b)],λx=>zjz x.1 x.2.1 x.2.2.1⟩
def qtk:Cx:=⟨tab,arrs,[(218,ztw),(219,ztx),(232,z6v)],[],gl,[]⟩
theorem qtl:FnOk gl Tryz.prog 170 z5e:=
 fo qtk qtj 0 (oz ⟨zzt,zzu,qwu,trivial⟩ trivial) Tryz.func170 (by kernel_rfl) (by kernel_rfl) (by kernel_rfl)
  (ll 0 (by kernel_rfl) trivial) (λx=>by kernel_rfl)
def qqm:List Out:=[⟨.normal,⟨[(9,.b)],[0,1,2,8,9,15,16,17,18,19,22,23,24,25,26,29,30,31,32,33,34,35,55,56,57,58],[]⟩,mkSh 72 [(0,.val zf .b),(1,.val .str .b),(2,.val (.int .i64) .b),(8,.val zi (.row (.pr .b (.pr .b .b)))),(9,.var zo .b),(15,.val zf .b),(16,.bad .str),(17,.val .str .b),(18,.val (.int .i64) .b),(19,.val .bool .b),(22,.val zf .b),(23,.bad .str),(24,.val .str .b),(25,.val (.int .u8) .b),(26,.val .bool .b),(29,.val .str .b),(30,.val .str .b),(31,.val zf .b),(32,.bad .str),(33,.val .str .b),(34,.val .str .b),(35,.val .bool .b)]⟩]
def qqn:List Out:=[⟨.normal,⟨[],[0,1,2,8,9,15,16,17,18,19,22,23,24,25,26,29,30,31,32,33,34,35,59],[]⟩,mkSh 72 [(0,.val zf .b),(1,.val .str .b),(2,.val (.int .i64) .b),(8,.val zi (.row (.pr .b (.pr .b .b)))),(9,.var zo .b),(15,.val zf .b),(16,.bad .str),(17,.val .str .b),(18,.val (.int .i64) .b),(19,.val .bool .b),(22,.val zf .b),(23,.bad .str),(24,.val .str .b),(25,.val (.int .u8) .b),(26,.val .bool .b),(29,.val .str .b),(30,.val .str .b),(31,.val zf .b),(32,.bad .str),(33,.val .str .b),(34,.val .str .b),(35,.val .bool .b),(59,.val .bool .b)]⟩]
def qqo:List Out:=[⟨.normal,⟨[(9,.b)],[0,1,2,8,9,15,16,17,18,19,22,23,24,25,26,29,30,31,32,33,34,35,55,56,57,58],[]⟩,mkSh 72 [(0,.val zf .b),(1,.val .str .b),(2,.val (.int .i64) .b),(8,.val zi (.row (.pr .b (.pr .b .b)))),(9,.var zo .b),(15,.val zf .b),(16,.bad .str),(17,.val .str .b),(18,.val (.int .i64) .b),(19,.val .bool .b),(22,.val zf .b),(23,.bad .str),(24,.val .str .b),(25,.val (.int .u8) .b),(26,.val .bool .b),(29,.val .str .b),(30,.val .str .b),(31,.val zf .b),(32,.bad .str),(33,.val .str .b),(34,.val .str .b),(35,.val .bool .b)]⟩]
def qok:List Sh:=mkSh 72 [(0,.val zf .b),(1,.val .str .b),(2,.val (.int .i64) .b),(8,.val zi (.row (.pr .b (.pr .b .b))))]
def qqp:List Out:=[⟨.exit 0,⟨[],[0,8],[]⟩,mkSh 72 [(0,.val zf .b),(8,.val zi (.row (.pr .b (.pr .b .b))))]⟩]
def zhs (t0:PV zf)(t1:PV .str)(t2:PV (.int .i64))(t8:PV zi):Option ((PV zf×PV .str×PV (.int .i64)×PV zi×Unit)⊕((PV zf×PV zi×Unit))):=
 bif (decide ((t0.length:Int)>0)) then
  bif inB 0 t0.length then
   bif (decide (((t0.getD ((0:Int).toNat) []).length:Int)>1)) then
    bif inB 0 t0.length then
     bif inB 1 (t0.getD ((0:Int).toNat) []).length then
      bif ((((t0.getD ((0:Int).toNat) []).getD (1:Int).toNat 0).toNat:Int)==32) then
       bif decide ([32,33].length+t1.length<=1099511627776) then
        bif inB 0 t0.length then
         bif cutB 0 1 (t0.getD ((0:Int).toNat) []).length then
          (zl1 ([32,33]++t1) (cutL 0 1 (t0.getD ((0:Int).toNat) []))).bind λr10=>
            bif r10.1.1 then
             bif inB 0 t0.length then
              bif cutB 2 ((t0.getD ((0:Int).toNat) []).length:Int) (t0.getD ((0:Int).toNat) []).length then
               ((
                 bif inB 0 t0.length then
                  bif inB 0 (t0.getD ((0:Int).toNat) []).length then
                   bif ((((t0.getD ((0:Int).toNat) []).getD (0:Int).toNat 0).toNat:Int)==32) then
                    some (t0,t1,t2,t8,(1,((cutL 2 ((t0.getD ((0:Int).toNat) []).length:Int) (t0.getD ((0:Int).toNat) [])),())),t0,(t0.getD ((0:Int).toNat) []),(t0.getD ((0:Int).toNat) []),((t0.getD ((0:Int).toNat) []).length:Int),(decide (((t0.getD ((0:Int).toNat) []).length:Int)>1)),t0,(t0.getD ((0:Int).toNat) []),(t0.getD ((0:Int).toNat) []),(((t0.getD ((0:Int).toNat) []).getD (1:Int).toNat 0).toNat:Int),((((t0.getD ((0:Int).toNat) []).getD (1:Int).toNat 0).toNat:Int)==32),t1,([32,33]++t1),t0,(t0.getD ((0:Int).toNat) []),(t0.getD ((0:Int).toNat) []),(cutL 0 1 (t0.getD ((0:Int).toNat) [])),r10.1.1,())
                   else
                    some (t0,t1,t2,t8,(t2,((cutL 2 ((t0.getD ((0:Int).toNat) []).length:Int) (t0.getD ((0:Int).toNat) [])),())),t0,(t0.getD ((0:Int).toNat) []),(t0.getD ((0:Int).toNat) []),((t0.getD ((0:Int).toNat) []).length:Int),(decide (((t0.getD ((0:Int).toNat) []).length:Int)>1)),t0,(t0.getD ((0:Int).toNat) []),(t0.getD ((0:Int).toNat) []),(((t0.getD ((0:Int).toNat) []).getD (1:Int).toNat 0).toNat:Int),((((t0.getD ((0:Int).toNat) []).getD (1:Int).toNat 0).toNat:Int)==32),t1,([32,33]++t1),t0,(t0.getD ((0:Int).toNat) []),(t0.getD ((0:Int).toNat) []),(cutL 0 1 (t0.getD ((0:Int).toNat) [])),r10.1.1,())
                  else
                   none
                 else
                  none:Option ((PV zf×PV .str×PV (.int .i64)×PV zi×PV zo×PV zf×PV .str×PV .str×PV (.int .i64)×PV .bool×PV zf×PV .str×PV .str×PV (.int .u8)×PV .bool×PV .str×PV .str×PV zf×PV .str×PV .str×PV .str×PV .bool×Unit)))).bind λj11=>
                 bif cutB 1 (j11.1.length:Int) j11.1.length then
                  ((
                    ((
                      bif (decide (((cutL 1 (j11.1.length:Int) j11.1).length:Int)>0)) then
                       bif inB 0 (cutL 1 (j11.1.length:Int) j11.1).length then
                        some ((cutL 1 (j11.1.length:Int) j11.1),j11.2.1,j11.2.2.1,j11.2.2.2.1,j11.2.2.2.2.1,j11.2.2.2.2.2.1,j11.2.2.2.2.2.2.1,j11.2.2.2.2.2.2.2.1,j11.2.2.2.2.2.2.2.2.1,j11.2.2.2.2.2.2.2.2.2.1,j11.2.2.2.2.2.2.2.2.2.2.1,j11.2.2.2.2.2.2.2.2.2.2.2.1,j11.2.2.2.2.2.2.2.2.2.2.2.2.1,j11.2.2.2.2.2.2.2.2.2.2.2.2.2.1,j11.2.2.2.2.2.2.2.2.2.2.2.2.2.2.1,j11.2.2.2.2.2.2.2.2.2.2.2.2.2.2.2.1,j11.2.2.2.2.2.2.2.2.2.2.2.2.2.2.2.2.1,j11.2.2.2.2.2.2.2.2.2.2.2.2.2.2.2.2.2.1,j11.2.2.2.2.2.2.2.2.2.2.2.2.2.2.2.2.2.2.1,j11.2.2.2.2.2.2.2.2.2.2.2.2.2.2.2.2.2.2.2.1,j11.2.2.2.2.2.2.2.2.2.2.2.2.2.2.2.2.2.2.2.2.1,j11.2.2.2.2.2.2.2.2.2.2.2.2.2.2.2.2.2.2.2.2.2.1,(((cutL 1 (j11.1.length:Int) j11.1).getD ((0:Int).toNat) [])==[92,32,110,111,110,101,10]),())
                       else
                        none
                      else
                       some ((cutL 1 (j11.1.length:Int) j11.1),j11.2.1,j11.2.2.1,j11.2.2.2.1,j11.2.2.2.2.1,j11.2.2.2.2.2.1,j11.2.2.2.2.2.2.1,j11.2.2.2.2.2.2.2.1,j11.2.2.2.2.2.2.2.2.1,j11.2.2.2.2.2.2.2.2.2.1,j11.2.2.2.2.2.2.2.2.2.2.1,j11.2.2.2.2.2.2.2.2.2.2.2.1,j11.2.2.2.2.2.2.2.2.2.2.2.2.1,j11.2.2.2.2.2.2.2.2.2.2.2.2.2.1,j11.2.2.2.2.2.2.2.2.2.2.2.2.2.2.1,j11.2.2.2.2.2.2.2.2.2.2.2.2.2.2.2.1,j11.2.2.2.2.2.2.2.2.2.2.2.2.2.2.2.2.1,j11.2.2.2.2.2.2.2.2.2.2.2.2.2.2.2.2.2.1,j11.2.2.2.2.2.2.2.2.2.2.2.2.2.2.2.2.2.2.1,j11.2.2.2.2.2.2.2.2.2.2.2.2.2.2.2.2.2.2.2.1,j11.2.2.2.2.2.2.2.2.2.2.2.2.2.2.2.2.2.2.2.2.1,j11.2.2.2.2.2.2.2.2.2.2.2.2.2.2.2.2.2.2.2.2.2.1,false,()):Option ((PV zf×PV .str×PV (.int .i64)×PV zi×PV zo×PV zf×PV .str×PV .str×PV (.int .i64)×PV .bool×PV zf×PV .str×PV .str×PV (.int .u8)×PV .bool×PV .str×PV .str×PV zf×PV .str×PV .str×PV .str×PV .bool×PV .bool×Unit)))).bind λj12=>
                      bif j12.2.2.2.2.2.2.2.2.2.2.2.2.2.2.2.2.2.2.2.2.2.2.1 then
                       (zfy j12.2.2.2.2.1.2.1).bind λr13=>
                         bif cutB 1 (j12.1.length:Int) j12.1.length then
                          some ((cutL 1 (j12.1.length:Int) j12.1),j12.2.1,j12.2.2.1,j12.2.2.2.1,(j12.2.2.2.2.1.1,(r13.1.1,j12.2.2.2.2.1.2.2)),j12.2.2.2.2.2.1,j12.2.2.2.2.2.2.1,j12.2.2.2.2.2.2.2.1,j12.2.2.2.2.2.2.2.2.1,j12.2.2.2.2.2.2.2.2.2.1,j12.2.2.2.2.2.2.2.2.2.2.1,j12.2.2.2.2.2.2.2.2.2.2.2.1,j12.2.2.2.2.2.2.2.2.2.2.2.2.1,j12.2.2.2.2.2.2.2.2.2.2.2.2.2.1,j12.2.2.2.2.2.2.2.2.2.2.2.2.2.2.1,j12.2.2.2.2.2.2.2.2.2.2.2.2.2.2.2.1,j12.2.2.2.2.2.2.2.2.2.2.2.2.2.2.2.2.1,j12.2.2.2.2.2.2.2.2.2.2.2.2.2.2.2.2.2.1,j12.2.2.2.2.2.2.2.2.2.2.2.2.2.2.2.2.2.2.1,j12.2.2.2.2.2.2.2.2.2.2.2.2.2.2.2.2.2.2.2.1,j12.2.2.2.2.2.2.2.2.2.2.2.2.2.2.2.2.2.2.2.2.1,j12.2.2.2.2.2.2.2.2.2.2.2.2.2.2.2.2.2.2.2.2.2.1,())
                         else
                          none
                      else
                       some (j12.1,j12.2.1,j12.2.2.1,j12.2.2.2.1,j12.2.2.2.2.1,j12.2.2.2.2.2.1,j12.2.2.2.2.2.2.1,j12.2.2.2.2.2.2.2.1,j12.2.2.2.2.2.2.2.2.1,j12.2.2.2.2.2.2.2.2.2.1,j12.2.2.2.2.2.2.2.2.2.2.1,j12.2.2.2.2.2.2.2.2.2.2.2.1,j12.2.2.2.2.2.2.2.2.2.2.2.2.1,j12.2.2.2.2.2.2.2.2.2.2.2.2.2.1,j12.2.2.2.2.2.2.2.2.2.2.2.2.2.2.1,j12.2.2.2.2.2.2.2.2.2.2.2.2.2.2.2.1,j12.2.2.2.2.2.2.2.2.2.2.2.2.2.2.2.2.1,j12.2.2.2.2.2.2.2.2.2.2.2.2.2.2.2.2.2.1,j12.2.2.2.2.2.2.2.2.2.2.2.2.2.2.2.2.2.2.1,j12.2.2.2.2.2.2.2.2.2.2.2.2.2.2.2.2.2.2.2.1,j12.2.2.2.2.2.2.2.2.2.2.2.2.2.2.2.2.2.2.2.2.1,j12.2.2.2.2.2.2.2.2.2.2.2.2.2.2.2.2.2.2.2.2.2.1,()):Option ((PV zf×PV .str×PV (.int .i64)×PV zi×PV zo×PV zf×PV .str×PV .str×PV (.int .i64)×PV .bool×PV zf×PV .str×PV .str×PV (.int .u8)×PV .bool×PV .str×PV .str×PV zf×PV .str×PV .str×PV .str×PV .bool×Unit)))).bind λj14=>
                    bif qw (j14.2.2.2.1.length+[j14.2.2.2.2.1].length) then
                     some (.inl (j14.1,j14.2.1,j14.2.2.1,(j14.2.2.2.1++[j14.2.2.2.2.1]),()))
                    else
                     none
                 else
                  none
              else
               none
             else
              none
            else
             some (.inr (t0,t8,()))
         else
          none
        else
         none
       else
        none
      else
       some (.inr (t0,t8,()))
     else
      none
    else
     none
   else
    some (.inr (t0,t8,()))
  else
   none
 else
  some (.inr (t0,t8,()))
def z2o:PV zf×PV .str×PV (.int .i64)×PV zi×Unit->Option ((PV zf×PV zi×Unit)):=fix λd=>zhs d.1 d.2.1 d.2.2.1 d.2.2.2.1
def z2l:Lp:=⟨⟨[],[0,1,2,8,55,56,57,58],[]⟩,qok,qqp,λd=>zhs d.1 d.2.1 d.2.2.1 d.2.2.2.1⟩
def qtm:Plan:=⟨[(6,qqm),(8,qqn),(9,qqo)],[(2,z2l)],0,0⟩
def zmh (t0:PV zf)(t1:PV .str)(t2:PV (.int .i64)):Option (PVs [zi,zf]×PVs []):=
 (z2o (t0,t1,t2,([]:PV zi),())).bind λl16=>
   some ((l16.2.1,l16.1,()),())
def z5f:Ct:=⟨[(.bor,zf),(.bor,.str),(.bor,(.int .i64))],[(zi,(.row (.pr .b (.pr .b .b)))),(zf,.b)],λx=>zmh x.1 x.2.1 x.2.2.1⟩
def qtn:Cx:=⟨tab,arrs,[(141,zki),(233,zt0)],[],gl,[]⟩
theorem qto:FnOk gl Tryz.prog 171 z5f:=
 fo qtn qtm 0 (oz ⟨zm4,zz5,trivial⟩ trivial) Tryz.func171 (by kernel_rfl) (by kernel_rfl) (by kernel_rfl)
  (ll 1 (by kernel_rfl) (lc z2l (by kernel_rfl) (λd=>by kernel_rfl) trivial)) (λx=>by kernel_rfl)
def qwv:List Out:=[⟨.normal,⟨[],[0,1,5,13,37,38,39,40,41,56,57,58],[]⟩,mkSh 71 [(0,.val zi .b),(1,.val zi .b),(5,.val zi (.row (.pr .b (.pr .b .b)))),(13,.val .bool .b)]⟩]
def qww:List Out:=[⟨.normal,⟨[],[0,1,5,18,19,20,21,22,32,56,57,58],[]⟩,mkSh 71 [(0,.val zi .b),(1,.val zi .b),(5,.val zi (.row (.pr .b (.pr .b .b)))),(32,.val .bool .b)]⟩]
def qwx:List Out:=[⟨.normal,⟨[],[0,1,5,18,19,20,21,22,37,38,39,40,41,51],[]⟩,mkSh 71 [(0,.val zi .b),(1,.val zi .b),(5,.val zi (.row (.pr .b (.pr .b .b)))),(51,.val .bool .b)]⟩]
def qtp:List Sh:=mkSh 71 [(0,.val zi .b),(1,.val zi .b),(5,.val zi (.row (.pr .b (.pr .b .b))))]
def qwy:List Out:=[⟨.exit 0,⟨[],[5],[]⟩,mkSh 71 [(5,.val zi (.row (.pr .b (.pr .b .b))))]⟩,⟨.ret,⟨[],[4],[]⟩,mkSh 71 [(4,.val zi (.row (.pr .b (.pr .b .b))))]⟩]
def zbz (t0:PV zi)(t1:PV zi)(t5:PV zi):Option ((PV zi×PV zi×PV zi×Unit)⊕((PV zi×Unit)⊕(PV zi×Unit))):=
 bif (decide ((IntKind.wrap .i64 ((t0.length:Int)+(t1.length:Int)))>0)) then
  ((
    bif (decide ((t0.length:Int)>0)) then
     bif inB 0 t0.length then
      some (t0,t1,t5,(!(((t0.getD ((0:Int).toNat) (dflt zo)).1)==1)),())
     else
      none
    else
     some (t0,t1,t5,false,()):Option ((PV zi×PV zi×PV zi×PV .bool×Unit)))).bind λj1=>
    bif j1.2.2.2.1 then
     bif inB 0 j1.1.length then
      bif qw (j1.2.2.1.length+[(j1.1.getD ((0:Int).toNat) (dflt zo))].length) then
       bif cutB 1 (j1.1.length:Int) j1.1.length then
        some (.inl ((cutL 1 (j1.1.length:Int) j1.1),j1.2.1,(j1.2.2.1++[(j1.1.getD ((0:Int).toNat) (dflt zo))]),()))
       else
        none
      else
       none
     else
      none
    else
     ((
       bif (decide ((j1.2.1.length:Int)>0)) then
        bif inB 0 j1.2.1.length then
         some (j1.1,j1.2.1,j1.2.2.1,(!(((j1.2.1.getD ((0:Int).toNat) (dflt zo)).1)==1)),())
        else
         none
       else
        some (j1.1,j1.2.1,j1.2.2.1,false,()):Option ((PV zi×PV zi×PV zi×PV .bool×Unit)))).bind λj2=>
       bif j2.2.2.2.1 then
        bif inB 0 j2.2.1.length then
         bif qw (j2.2.2.1.length+[(j2.2.1.getD ((0:Int).toNat) (dflt zo))].length) then
          bif cutB 1 (j2.2.1.length:Int) j2.2.1.length then
           some (.inl (j2.1,(cutL 1 (j2.2.1.length:Int) j2.2.1),(j2.2.2.1++[(j2.2.1.getD ((0:Int).toNat) (dflt zo))]),()))
          else
           none
         else
          none
        else
         none
       else
        ((
          bif (decide ((j2.1.length:Int)>0)) then
           some (j2.1,j2.2.1,j2.2.2.1,(decide ((j2.2.1.length:Int)>0)),())
          else
           some (j2.1,j2.2.1,j2.2.2.1,false,()):Option ((PV zi×PV zi×PV zi×PV .bool×Unit)))).bind λj3=>
          bif j3.2.2.2.1 then
           bif inB 0 j3.1.length then
            bif qw (j3.2.2.1.length+[(j3.1.getD ((0:Int).toNat) (dflt zo))].length) then
             bif cutB 1 (j3.1.length:Int) j3.1.length then
              bif cutB 1 (j3.2.1.length:Int) j3.2.1.length then
               some (.inl ((cutL 1 (j3.1.length:Int) j3.1),(cutL 1 (j3.2.1.length:Int) j3.2.1),(j3.2.2.1++[(j3.1.getD ((0:Int).toNat) (dflt zo))]),()))
              else
               none
             else
              none
            else
             none
           else
            none
          else
           some (.inr (.inr ([],())))
 else
  some (.inr (.inl (t5,())))
def zmi:PV zi×PV zi×PV zi×Unit->Option ((PV zi×Unit)⊕(PV zi×Unit)):=fix λd=>zbz d.1 d.2.1 d.2.2.1
def z5g:Lp:=⟨⟨[],[0,1,5,18,19,20,21,22,37,38,39,40,41,56,57,58],[]⟩,qtp,qwy,λd=>zbz d.1 d.2.1 d.2.2.1⟩
def q0p:Plan:=⟨[(5,qwv),(7,qww),(9,qwx)],[(2,z5g)],0,0⟩
def zmz (t0:PV zi)(t1:PV zi):Option (PVs [zi]×PVs []):=
 (zmi (t0,t1,([]:PV zi),())).bind λx8=>
   match x8 with
   | .inl l6=>
     some ((l6.1,()),())
   | .inr l7=>
     some ((l7.1,()),())
def z8s:Ct:=⟨[(.bor,zi),(.bor,zi)],[(zi,(.row (.pr .b (.pr .b .b))))],λx=>zmz x.1 x.2.1⟩
def q0q:Cx:=⟨tab,arrs,[],[],gl,[]⟩
theorem q0r:FnOk gl Tryz.prog 173 z8s:=
 fo q0q q0p 0 (oz trivial trivial) Tryz.func173 (by kernel_rfl) (by kernel_rfl) (by kernel_rfl)
  (ll 1 (by kernel_rfl) (lc z5g (by kernel_rfl) (λd=>by kernel_rfl) trivial)) (λx=>by kernel_rfl)
def qol:List Out:=[⟨.normal,⟨[],[0,4,24],[]⟩,mkSh 90 [(0,.val zf .b),(4,.val zl (.row (.pr .b (.pr .b (.pr (.row (.pr .b (.pr .b .b))) .b))))),(24,.val .bool .b)]⟩]
def qmq:List Out:=[⟨.normal,⟨[],[4,5,6,8,9,10,21,22,23],[]⟩,mkSh 90 [(4,.val zl (.row (.pr .b (.pr .b (.pr (.row (.pr .b (.pr .b .b))) .b))))),(5,.val (.int .i64) .b),(6,.val zf .b),(8,.val zi (.row (.pr .b (.pr .b .b)))),(9,.val (.int .i64) .b),(10,.val zi (.row (.pr .b (.pr .b .b))))]⟩]
def qmr:List Out:=[⟨.normal,⟨[],[4,6,10,11,21,22,23],[]⟩,mkSh 90 [(4,.val zl (.row (.pr .b (.pr .b (.pr (.row (.pr .b (.pr .b .b))) .b))))),(6,.val zf .b),(10,.val zi (.row (.pr .b (.pr .b .b)))),(11,.var zh (.pr .b (.pr .b (.pr (.row (.pr .b (.pr .b .b))) .b))))]⟩]
def qms:List Out:=[⟨.normal,⟨[],[4,6,11,21,22,23],[]⟩,mkSh 90 [(4,.val zl (.row (.pr .b (.pr .b (.pr (.row (.pr .b (.pr .b .b))) .b))))),(6,.val zf .b),(11,.var zh (.pr .b (.pr .b (.pr (.row (.pr .b (.pr .b .b))) .b))))]⟩]
def qmt:List Sh:=mkSh 90 [(0,.val zf .b),(4,.val zl (.row (.pr .b (.pr .b (.pr (.row (.pr .b (.pr .b .b))) .b)))))]
def qom:List Out:=[⟨.exit 0,⟨[],[4],[]⟩,mkSh 90 [(4,.val zl (.row (.pr .b (.pr .b (.pr (.row (.pr .b (.pr .b .b))) .b)))))]⟩,⟨.ret,⟨[],[2,3],[]⟩,mkSh 90 [(2,.val zl (.row (.pr .b (.pr .b (.pr (.row (.pr .b (.pr .b .b))) .b))))),(3,.val .bool .b)]⟩]
def zbr (t0:PV zf)(t4:PV zl):Option ((PV zf×PV zl×Unit)⊕((PV zl×Unit)⊕(PV zl×PV .bool×Unit))):=
 bif (decide ((t0.length:Int)>0)) then
  ((
    bif inB 0 t0.length then
     bif (!((t0.getD ((0:Int).toNat) [])==[42,42,42,42,42,42,42,42,42,42,42,42,42,42,42,10])) then
      some (t0,t4,true,())
     else
      some (t0,t4,((t4.length:Int)==20),())
    else
     none:Option ((PV zf×PV zl×PV .bool×Unit)))).bind λj2=>
    bif j2.2.2.1 then
     some (.inr (.inr ([],false,())))
    else
     bif cutB 1 (j2.1.length:Int) j2.1.length then
      (zjz (cutL 1 (j2.1.length:Int) j2.1) [42,42,42,32] [32,42,42,42,42,10]).bind λr4=>
        bif (!r4.1.2.2.1) then
         some (.inr (.inr ([],false,())))
        else
         (zmh r4.1.2.1 [45] 2).bind λr6=>
           (zjz r6.1.2.1 [45,45,45,32] [32,45,45,45,45,10]).bind λr8=>
             bif (!r8.1.2.2.1) then
              some (.inr (.inr ([],false,())))
             else
              (zmh r8.1.2.1 [43] 3).bind λr10=>
                ((
                  bif ((r6.1.1.length:Int)==0) then
                   (znh r10.1.1).bind λr11=>
                     some (j2.2.1,r4.1.1,r10.1.2.1,r11.1.1,r8.1.1,r10.1.1,())
                  else
                   bif ((r10.1.1.length:Int)==0) then
                    (znh r6.1.1).bind λr12=>
                      some (j2.2.1,r4.1.1,r10.1.2.1,r6.1.1,r8.1.1,r12.1.1,())
                   else
                    some (j2.2.1,r4.1.1,r10.1.2.1,r6.1.1,r8.1.1,r10.1.1,()):Option ((PV zl×PV (.int .i64)×PV zf×PV zi×PV (.int .i64)×PV zi×Unit)))).bind λj13=>
                  (zmz j13.2.2.2.1 j13.2.2.2.2.2.1).bind λr15=>
                    ((
                      bif (decide ((j13.2.2.2.1.length:Int)>0)) then
                       some (j13.1,j13.2.2.1,j13.2.2.2.2.2.1,((IntKind.wrap .i64 (j13.2.1 -1)),(j13.2.2.2.2.1,(r15.1.1,()))),())
                      else
                       some (j13.1,j13.2.2.1,j13.2.2.2.2.2.1,(j13.2.1,(j13.2.2.2.2.1,(r15.1.1,()))),()):Option ((PV zl×PV zf×PV zi×PV zh×Unit)))).bind λj16=>
                      ((
                        bif (decide ((j16.2.2.1.length:Int)>0)) then
                         some (j16.1,j16.2.1,(j16.2.2.2.1.1,((IntKind.wrap .i64 (j16.2.2.2.1.2.1 -1)),j16.2.2.2.1.2.2)),())
                        else
                         some (j16.1,j16.2.1,j16.2.2.2.1,()):Option ((PV zl×PV zf×PV zh×Unit)))).bind λj17=>
                        bif qw (j17.1.length+[j17.2.2.1].length) then
                         some (.inl (j17.2.1,(j17.1++[j17.2.2.1]),()))
                        else
                         none
     else
      none
 else
  some (.inr (.inl (t4,())))
def zhp:PV zf×PV zl×Unit->Option ((PV zl×Unit)⊕(PV zl×PV .bool×Unit)):=fix λd=>zbr d.1 d.2.1
def z1k:Lp:=⟨⟨[],[0,4,21,22,23],[]⟩,qmt,qom,λd=>zbr d.1 d.2.1⟩
def qqq:Plan:=⟨[(4,qol),(17,qmq),(20,qmr),(22,qms)],[(2,z1k)],0,0⟩
def zjt (t0:PV zf):Option (PVs [zl,.bool]×PVs []):=
 (zhp (t0,([]:PV zl),())).bind λx22=>
   match x22 with
   | .inl l20=>
     some ((l20.1,true,()),())
   | .inr l21=>
     some ((l21.1,l21.2.1,()),())
def z2u:Ct:=⟨[(.bor,zf)],[(zl,(.row (.pr .b (.pr .b (.pr (.row (.pr .b (.pr .b .b))) .b))))),(.bool,.b)],λx=>zjt x.1⟩
def qqr:Cx:=⟨tab,arrs,[(170,z5e),(171,z5f),(172,qae),(173,z8s)],[],gl,[]⟩
theorem qo4:FnOk gl Tryz.prog 101 z2u:=
 fo qqr qqq 0 (oz ⟨qtl,qto,q2h,q0r,trivial⟩ trivial) Tryz.func101 (by kernel_rfl) (by kernel_rfl) (by kernel_rfl)
  (ll 1 (by kernel_rfl) (lc z1k (by kernel_rfl) (λd=>by kernel_rfl) trivial)) (λx=>by kernel_rfl)
def qtq:Plan:=⟨[],[],0,0⟩
def zjx (t0:PV (.int .i64))(t1:PV (.int .i64)):Option (PVs [(.int .i64)]×PVs []):=
 bif (decide (t1>0)) then
  some (((IntKind.wrap .i64 (t0+1)),()),())
 else
  some ((t0,()),())
def z4b:Ct:=⟨[(.bor,(.int .i64)),(.bor,(.int .i64))],[((.int .i64),.b)],λx=>zjx x.1 x.2.1⟩
def qtr:Cx:=⟨tab,arrs,[],[],gl,[]⟩
theorem qq8:FnOk gl Tryz.prog 165 z4b:=
 fo qtr qtq 0 (oz trivial trivial) Tryz.func165 (by kernel_rfl) (by kernel_rfl) (by kernel_rfl)
  (ll 0 (by kernel_rfl) trivial) (λx=>by kernel_rfl)
def q3g:Plan:=⟨[],[],0,0⟩
def zkp (t0:PV (.int .i64))(t1:PV (.int .i64)):Option (PVs [(.int .i64)]×PVs []):=
 some (((IntKind.wrap .i64 (t0+t1)),()),())
def qac:Ct:=⟨[(.bor,(.int .i64)),(.bor,(.int .i64))],[((.int .i64),.b)],λx=>zkp x.1 x.2.1⟩
def q3h:Cx:=⟨tab,arrs,[],[],gl,[]⟩
theorem q2e:FnOk gl Tryz.prog 166 qac:=
 fo q3h q3g 0 (oz trivial trivial) Tryz.func166 (by kernel_rfl) (by kernel_rfl) (by kernel_rfl)
  (ll 0 (by kernel_rfl) trivial) (λx=>by kernel_rfl)
def qjv:Plan:=⟨[],[],2,9⟩
def qiv:List Sh:=mkSh 37 [(0,.val zh .b),(1,.val (.int .i64) .b),(2,.var zh .b),(3,.var (.int .i64) .b),(4,.val .bool .b),(5,.addr ⟨2,[.r,.r,.l],0,0⟩),(6,.val zi .b),(7,.fn 231 [⟨3,[],0,0⟩]),(9,.val zi .b),(10,.fn 231 [⟨3,[],0,0⟩]),(13,.val .bool .b),(14,.val zi .b),(15,.fn 231 [⟨3,[],0,0⟩]),(18,.val zi .b),(19,.fn 231 [⟨3,[],0,0⟩]),(25,.val (.int .i64) .b),(26,.val (.int .i64) .b)]
def qjd:List Out:=[⟨.exit 0,⟨[],[],[]⟩,mkSh 37 [(0,.val zh .b),(1,.val (.int .i64) .b),(2,.var zh .b),(3,.var (.int .i64) .b),(4,.val .bool .b),(5,.addr ⟨2,[.r,.r,.l],0,0⟩),(6,.val zi .b),(7,.fn 231 [⟨3,[],0,0⟩]),(9,.val zi .b),(10,.fn 231 [⟨3,[],0,0⟩]),(13,.val .bool .b),(14,.val zi .b),(15,.fn 231 [⟨3,[],0,0⟩])]⟩,⟨.ret,⟨[],[4],[]⟩,mkSh 37 [(0,.val zh .b),(1,.val (.int .i64) .b),(2,.var zh .b),(3,.var (.int .i64) .b),(4,.val .bool .b),(5,.addr ⟨2,[.r,.r,.l],0,0⟩),(6,.val zi .b),(7,.fn 231 [⟨3,[],0,0⟩]),(9,.val zi .b),(10,.fn 231 [⟨3,[],0,0⟩]),(13,.val .bool .b),(14,.val zi .b),(15,.fn 231 [⟨3,[],0,0⟩]),(22,.val (.int .i64) .b)]⟩]
def zey (t0:PV zh)(t1:PV (.int .i64))(t2:PV zh)(t3:PV (.int .i64))(t4:PV .bool)(t6:PV zi)(t9:PV zi)(t13:PV .bool)(t14:PV zi)(t18:PV zi)(t25:PV (.int .i64))(t26:PV (.int .i64)):Option ((PV zh×PV (.int .i64)×PV zh×PV (.int .i64)×PV .bool×PV zi×PV zi×PV .bool×PV zi×PV zi×PV (.int .i64)×PV (.int .i64)×Unit)⊕((PV zh×PV (.int .i64)×PV zh×PV (.int .i64)×PV .bool×PV zi×PV zi×PV .bool×PV zi×Unit)⊕(PV zh×PV (.int .i64)×PV zh×PV (.int .i64)×PV .bool×PV zi×PV zi×PV .bool×PV zi×PV (.int .i64)×Unit))):=
 bif (decide (t26<t25)) then
  bif inB t26 t18.length then
   bif (((t18.getD t26.toNat (dflt zo)).1)==t3) then
    some (.inr (.inr (t0,t1,t2,t3,t4,t6,t9,t13,t14,t26,())))
   else
    some (.inl (t0,t1,t2,t3,t4,t6,t9,t13,t14,t18,t25,(IntKind.wrap .i64 (t26+1)),()))
  else
   none
 else
  some (.inr (.inl (t0,t1,t2,t3,t4,t6,t9,t13,t14,())))
def zzx:PV zh×PV (.int .i64)×PV zh×PV (.int .i64)×PV .bool×PV zi×PV zi×PV .bool×PV zi×PV zi×PV (.int .i64)×PV (.int .i64)×Unit->Option ((PV zh×PV (.int .i64)×PV zh×PV (.int .i64)×PV .bool×PV zi×PV zi×PV .bool×PV zi×Unit)⊕(PV zh×PV (.int .i64)×PV zh×PV (.int .i64)×PV .bool×PV zi×PV zi×PV .bool×PV zi×PV (.int .i64)×Unit)):=fix λd=>zey d.1 d.2.1 d.2.2.1 d.2.2.2.1 d.2.2.2.2.1 d.2.2.2.2.2.1 d.2.2.2.2.2.2.1 d.2.2.2.2.2.2.2.1 d.2.2.2.2.2.2.2.2.1 d.2.2.2.2.2.2.2.2.2.1 d.2.2.2.2.2.2.2.2.2.2.1 d.2.2.2.2.2.2.2.2.2.2.2.1
def zzw:Lp:=⟨⟨[],[0,1,7,8],[]⟩,qiv,qjd,λd=>zey d.1 d.2.1 d.2.2.1 d.2.2.2.1 d.2.2.2.2.1 d.2.2.2.2.2.1 d.2.2.2.2.2.2.1 d.2.2.2.2.2.2.2.1 d.2.2.2.2.2.2.2.2.1 d.2.2.2.2.2.2.2.2.2.1 d.2.2.2.2.2.2.2.2.2.2.1 d.2.2.2.2.2.2.2.2.2.2.2.1⟩
def qjw:Plan:=⟨[],[(2,zzw)],1,18⟩
def qjx:Plan:=⟨[],[],0,37⟩
def qqs:Plan:=⟨[],[],3,0⟩
def zjs (t0:PV zh)(t1:PV (.int .i64)):Option (PVs [.bool]×PVs []):=
 (zzx (t0,t1,t0,t1,false,t0.2.2.1,t0.2.2.1,false,t0.2.2.1,t0.2.2.1,(t0.2.2.1.length:Int),0,())).bind λx5=>
   match x5 with
   | .inl l3=>
     some (((decide ((-1)>=0)),()),())
   | .inr l4=>
     some (((decide (l4.2.2.2.2.2.2.2.2.2.1>=0)),()),())
def z2s:Ct:=⟨[(.bor,zh),(.bor,(.int .i64))],[(.bool,.b)],λx=>zjs x.1 x.2.1⟩
def qqt:Cx:=⟨tab,arrs,[],[(230,Tryz.f230,qjv),(266,Tryz.f266,qjw),(231,Tryz.f231,qjx)],gl,[]⟩
theorem qo0:FnOk gl Tryz.prog 167 z2s:=
 fo qqt qqs 3 (oz trivial ⟨⟨Tryz.func230,by kernel_rfl,(ll 0 (by kernel_rfl) trivial)⟩,⟨Tryz.func266,by kernel_rfl,(ll 1 (by kernel_rfl) (lc zzw (by kernel_rfl) (λd=>by kernel_rfl) trivial))⟩,⟨Tryz.func231,by kernel_rfl,(ll 0 (by kernel_rfl) trivial)⟩,trivial⟩) Tryz.func167 (by kernel_rfl) (by kernel_rfl) (by kernel_rfl)
  (ll 0 (by kernel_rfl) trivial) (λx=>by kernel_rfl)
end
end R
