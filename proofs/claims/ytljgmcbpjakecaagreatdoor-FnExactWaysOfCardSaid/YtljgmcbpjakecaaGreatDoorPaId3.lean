/- The functions, part 3. -/
import Derived.Test.YtljgmcbpjakecaaGreatDoorPaId2
set_option linter.unusedVariables false
open Go Go.Dn Go.Proofs
namespace R
set_option maxRecDepth 20000
open Go.Shelf
noncomputable section
def qoo:List Out:=[⟨.normal,⟨[],[0,1,6,7,13,14,15,16,17,34],[]⟩,mkSh 45 [(0,.val zf .b),(1,.val .str .b),(6,.val zf (.row .b)),(7,.val .str .b),(13,.val zf .b),(14,.bad .str),(15,.val .str .b),(16,.val .str .b),(17,.val .bool .b),(34,.val .bool .b)]⟩]
def qop:List Out:=[⟨.normal,⟨[],[0,1,6,7,13,14,15,16,17,30,31,32,33],[]⟩,mkSh 45 [(0,.val zf .b),(1,.val .str .b),(6,.val zf (.row .b)),(7,.val .str .b),(13,.val zf .b),(14,.bad .str),(15,.val .str .b),(16,.val .str .b),(17,.val .bool .b)]⟩]
def qml:List Sh:=mkSh 45 [(0,.val zf .b),(1,.val .str .b),(6,.val zf (.row .b))]
def qoq:List Out:=[⟨.exit 0,⟨[],[0,6],[]⟩,mkSh 45 [(0,.val zf .b),(6,.val zf (.row .b))]⟩]
def zht (t0:PV zf)(t1:PV .str)(t6:PV zf):Option ((PV zf×PV .str×PV zf×Unit)⊕((PV zf×PV zf×Unit))):=
 bif (decide ((t0.length:Int)>0)) then
  bif inB 0 t0.length then
   (zpb (t0.getD ((0:Int).toNat) []) t1).bind λr11=>
     bif r11.1.1 then
      bif inB 0 t0.length then
       (zo9 (t0.getD ((0:Int).toNat) []) t1).bind λr13=>
         bif cutB 1 (t0.length:Int) t0.length then
          ((
            ((
              bif (decide (((cutL 1 (t0.length:Int) t0).length:Int)>0)) then
               bif inB 0 (cutL 1 (t0.length:Int) t0).length then
                some ((cutL 1 (t0.length:Int) t0),t1,t6,r13.1.1,t0,(t0.getD ((0:Int).toNat) []),(t0.getD ((0:Int).toNat) []),t1,r11.1.1,(((cutL 1 (t0.length:Int) t0).getD ((0:Int).toNat) [])==[92,32,110,111,110,101,10]),())
               else
                none
              else
               some ((cutL 1 (t0.length:Int) t0),t1,t6,r13.1.1,t0,(t0.getD ((0:Int).toNat) []),(t0.getD ((0:Int).toNat) []),t1,r11.1.1,false,()):Option ((PV zf×PV .str×PV zf×PV .str×PV zf×PV .str×PV .str×PV .str×PV .bool×PV .bool×Unit)))).bind λj14=>
              bif j14.2.2.2.2.2.2.2.2.2.1 then
               (zf0 j14.2.2.2.1).bind λr15=>
                 bif cutB 1 (j14.1.length:Int) j14.1.length then
                  some ((cutL 1 (j14.1.length:Int) j14.1),j14.2.1,j14.2.2.1,r15.1.1,j14.2.2.2.2.1,j14.2.2.2.2.2.1,j14.2.2.2.2.2.2.1,j14.2.2.2.2.2.2.2.1,j14.2.2.2.2.2.2.2.2.1,())
                 else
                  none
              else
               some (j14.1,j14.2.1,j14.2.2.1,j14.2.2.2.1,j14.2.2.2.2.1,j14.2.2.2.2.2.1,j14.2.2.2.2.2.2.1,j14.2.2.2.2.2.2.2.1,j14.2.2.2.2.2.2.2.2.1,()):Option ((PV zf×PV .str×PV zf×PV .str×PV zf×PV .str×PV .str×PV .str×PV .bool×Unit)))).bind λj16=>
            bif qw (j16.2.2.1.length+[j16.2.2.2.1].length) then
             some (.inl (j16.1,j16.2.1,(j16.2.2.1++[j16.2.2.2.1]),()))
            else
             none
         else
          none
      else
       none
     else
      some (.inr (t0,t6,()))
  else
   none
 else
  some (.inr (t0,t6,()))
def zfg:PV zf×PV .str×PV zf×Unit->Option ((PV zf×PV zf×Unit)):=fix λd=>zht d.1 d.2.1 d.2.2.1
def z1l:Lp:=⟨⟨[],[0,1,6,30,31,32,33],[]⟩,qml,qoq,λd=>zht d.1 d.2.1 d.2.2.1⟩
def qqm:Plan:=⟨[(6,qoo),(7,qop)],[(2,z1l)],0,0⟩
def zby (t0:PV zf)(t1:PV .str):Option (PVs [zf,zf]×PVs []):=
 (zfg (t0,t1,([]:PV zf),())).bind λl18=>
   some ((l18.2.1,l18.1,()),())
def z3v:Ct:=⟨[(.bor,zf),(.bor,.str)],[(zf,(.row .b)),(zf,.b)],λx=>zby x.1 x.2.1⟩
def qqn:Cx:=⟨tab,arrs,[(141,zkm),(213,zzy),(214,zzu)],[],gl,[]⟩
theorem qqo:FnOk gl Tryz.prog 144 z3v:=
 fo qqn qqm 0 (oz ⟨znd,qi8,qi1,trivial⟩ trivial) Tryz.func144 (by kernel_rfl) (by kernel_rfl) (by kernel_rfl)
  (ll 1 (by kernel_rfl) (lc z1l (by kernel_rfl) (λd=>by kernel_rfl) trivial)) (λx=>by kernel_rfl)
def qor:List Out:=[⟨.normal,⟨[],[0,4,5,6,26,54,55,77,78,79,80],[]⟩,mkSh 99 [(0,.val zf .b),(4,.val zk (.row (.pr .b (.pr .b (.pr (.row .b) (.pr .b (.pr .b (.pr (.row .b) .b)))))))),(5,.val .str .b),(6,.val (.int .i64) .b),(26,.val .bool .b)]⟩]
def qmm:List Out:=[⟨.normal,⟨[],[0,4,5,6,7,23,24,25,56,77,78,79,80],[]⟩,mkSh 99 [(0,.val zf .b),(4,.val zk (.row (.pr .b (.pr .b (.pr (.row .b) (.pr .b (.pr .b (.pr (.row .b) .b)))))))),(5,.val .str .b),(6,.val (.int .i64) .b),(7,.var zu (.pr .b (.pr .b (.pr (.row .b) (.pr .b (.pr .b (.pr (.row .b) .b))))))),(56,.val .bool .b)]⟩]
def qmn:List Out:=[⟨.normal,⟨[],[0,4,5,6,7,23,24,25,54,55,77,78,79,80],[]⟩,mkSh 99 [(0,.val zf .b),(4,.val zk (.row (.pr .b (.pr .b (.pr (.row .b) (.pr .b (.pr .b (.pr (.row .b) .b)))))))),(5,.val .str .b),(6,.val (.int .i64) .b),(7,.var zu (.pr .b (.pr .b (.pr (.row .b) (.pr .b (.pr .b (.pr (.row .b) .b)))))))]⟩]
def qmo:List Out:=[⟨.normal,⟨[],[0,4,5,6,7,23,24,25,54,55,81],[]⟩,mkSh 99 [(0,.val zf .b),(4,.val zk (.row (.pr .b (.pr .b (.pr (.row .b) (.pr .b (.pr .b (.pr (.row .b) .b)))))))),(5,.val .str .b),(6,.val (.int .i64) .b),(7,.var zu (.pr .b (.pr .b (.pr (.row .b) (.pr .b (.pr .b (.pr (.row .b) .b))))))),(81,.val .bool .b)]⟩]
def qmp:List Out:=[⟨.normal,⟨[],[0,4,5,6,7,23,24,25,54,55,77,78,79,80],[]⟩,mkSh 99 [(0,.val zf .b),(4,.val zk (.row (.pr .b (.pr .b (.pr (.row .b) (.pr .b (.pr .b (.pr (.row .b) .b)))))))),(5,.val .str .b),(6,.val (.int .i64) .b),(7,.var zu (.pr .b (.pr .b (.pr (.row .b) (.pr .b (.pr .b (.pr (.row .b) .b)))))))]⟩,⟨.ret,⟨[],[2,3],[]⟩,mkSh 99 [(2,.val zk (.row (.pr .b (.pr .b (.pr (.row .b) (.pr .b (.pr .b (.pr (.row .b) .b)))))))),(3,.val .bool .b)]⟩]
def qmq:List Out:=[⟨.normal,⟨[],[0,4,7,23,24,25,54,55,77,78,79,80],[]⟩,mkSh 99 [(0,.val zf .b),(4,.val zk (.row (.pr .b (.pr .b (.pr (.row .b) (.pr .b (.pr .b (.pr (.row .b) .b)))))))),(7,.var zu (.pr .b (.pr .b (.pr (.row .b) (.pr .b (.pr .b (.pr (.row .b) .b)))))))]⟩]
def qmr:List Sh:=mkSh 99 [(0,.val zf .b),(4,.val zk (.row (.pr .b (.pr .b (.pr (.row .b) (.pr .b (.pr .b (.pr (.row .b) .b))))))))]
def qot:List Out:=[⟨.exit 0,⟨[],[4],[]⟩,mkSh 99 [(4,.val zk (.row (.pr .b (.pr .b (.pr (.row .b) (.pr .b (.pr .b (.pr (.row .b) .b))))))))]⟩,⟨.ret,⟨[],[2,3],[]⟩,mkSh 99 [(2,.val zk (.row (.pr .b (.pr .b (.pr (.row .b) (.pr .b (.pr .b (.pr (.row .b) .b)))))))),(3,.val .bool .b)]⟩]
def zfh (t0:PV zf)(t4:PV zk):Option ((PV zf×PV zk×Unit)⊕((PV zk×Unit)⊕(PV zk×PV .bool×Unit))):=
 bif (decide ((t0.length:Int)>0)) then
  bif inB 0 t0.length then
   (zf0 (t0.getD ((0:Int).toNat) [])).bind λr2=>
     (zhl r2.1.1 [97,99,100]).bind λr4=>
       ((
         bif (decide (r4.1.1<0)) then
          some (t0,t4,r2.1.1,r4.1.1,true,())
         else
          some (t0,t4,r2.1.1,r4.1.1,((t4.length:Int)==20),()):Option ((PV zf×PV zk×PV .str×PV (.int .i64)×PV .bool×Unit)))).bind λj6=>
         bif j6.2.2.2.2.1 then
          some (.inr (.inr ([],false,())))
         else
          bif cutB 0 j6.2.2.2.1 j6.2.2.1.length then
           (zef (cutL 0 j6.2.2.2.1 j6.2.2.1)).bind λr8=>
             bif cutB (IntKind.wrap .i64 (j6.2.2.2.1+1)) (j6.2.2.1.length:Int) j6.2.2.1.length then
              (zef (cutL (IntKind.wrap .i64 (j6.2.2.2.1+1)) (j6.2.2.1.length:Int) j6.2.2.1)).bind λr10=>
                ((
                  bif (!r8.1.2.2.2.1) then
                   some (j6.1,j6.2.1,j6.2.2.1,j6.2.2.2.1,(r8.1.1,(r8.1.2.1,(([]:PV zf),(r10.1.1,(r10.1.2.1,(([]:PV zf),())))))),true,())
                  else
                   some (j6.1,j6.2.1,j6.2.2.1,j6.2.2.2.1,(r8.1.1,(r8.1.2.1,(([]:PV zf),(r10.1.1,(r10.1.2.1,(([]:PV zf),())))))),(!r10.1.2.2.2.1),()):Option ((PV zf×PV zk×PV .str×PV (.int .i64)×PV zu×PV .bool×Unit)))).bind λj12=>
                  bif j12.2.2.2.2.2.1 then
                   some (.inr (.inr ([],false,())))
                  else
                   bif cutB 1 (j12.1.length:Int) j12.1.length then
                    ((
                      bif inB j12.2.2.2.1 j12.2.2.1.length then
                       bif (!(((j12.2.2.1.getD j12.2.2.2.1.toNat 0).toNat:Int)==97)) then
                        (zby (cutL 1 (j12.1.length:Int) j12.1) [60,32]).bind λr13=>
                          some (r13.1.2.1,j12.2.1,j12.2.2.1,j12.2.2.2.1,(j12.2.2.2.2.1.1,(j12.2.2.2.2.1.2.1,(r13.1.1,j12.2.2.2.2.1.2.2.2))),())
                       else
                        some ((cutL 1 (j12.1.length:Int) j12.1),j12.2.1,j12.2.2.1,j12.2.2.2.1,j12.2.2.2.2.1,())
                      else
                       none:Option ((PV zf×PV zk×PV .str×PV (.int .i64)×PV zu×Unit)))).bind λj14=>
                      ((
                        bif inB j14.2.2.2.1 j14.2.2.1.length then
                         bif (((j14.2.2.1.getD j14.2.2.2.1.toNat 0).toNat:Int)==99) then
                          ((
                            bif ((j14.1.length:Int)==0) then
                             some (j14.1,j14.2.1,j14.2.2.1,j14.2.2.2.1,j14.2.2.2.2.1,true,())
                            else
                             bif inB 0 j14.1.length then
                              some (j14.1,j14.2.1,j14.2.2.1,j14.2.2.2.1,j14.2.2.2.2.1,(!((j14.1.getD ((0:Int).toNat) [])==[45,45,45,10])),())
                             else
                              none:Option ((PV zf×PV zk×PV .str×PV (.int .i64)×PV zu×PV .bool×Unit)))).bind λj16=>
                            bif j16.2.2.2.2.2.1 then
                             some (.inr ([],false,()))
                            else
                             bif cutB 1 (j16.1.length:Int) j16.1.length then
                              some (.inl ((cutL 1 (j16.1.length:Int) j16.1),j16.2.1,j16.2.2.1,j16.2.2.2.1,j16.2.2.2.2.1,()))
                             else
                              none
                         else
                          some (.inl (j14.1,j14.2.1,j14.2.2.1,j14.2.2.2.1,j14.2.2.2.2.1,()))
                        else
                         none:Option ((PV zf×PV zk×PV .str×PV (.int .i64)×PV zu×Unit)⊕(PV zk×PV .bool×Unit)))).bind λx25=>
                        match x25 with
                        | .inl j17=>
                          ((
                            bif inB j17.2.2.2.1 j17.2.2.1.length then
                             bif (!(((j17.2.2.1.getD j17.2.2.2.1.toNat 0).toNat:Int)==100)) then
                              (zby j17.1 [62,32]).bind λr18=>
                                some (r18.1.2.1,j17.2.1,(j17.2.2.2.2.1.1,(j17.2.2.2.2.1.2.1,(j17.2.2.2.2.1.2.2.1,(j17.2.2.2.2.1.2.2.2.1,(j17.2.2.2.2.1.2.2.2.2.1,(r18.1.1,j17.2.2.2.2.1.2.2.2.2.2.2)))))),())
                             else
                              some (j17.1,j17.2.1,j17.2.2.2.2.1,())
                            else
                             none:Option ((PV zf×PV zk×PV zu×Unit)))).bind λj19=>
                            bif qw (j19.2.1.length+[j19.2.2.1].length) then
                             some (.inl (j19.1,(j19.2.1++[j19.2.2.1]),()))
                            else
                             none
                        | .inr j20=>
                          some (.inr (.inr (j20.1,j20.2.1,())))
                   else
                    none
             else
              none
          else
           none
  else
   none
 else
  some (.inr (.inl (t4,())))
def zc6:PV zf×PV zk×Unit->Option ((PV zk×Unit)⊕(PV zk×PV .bool×Unit)):=fix λd=>zfh d.1 d.2.1
def z1m:Lp:=⟨⟨[],[0,4,23,24,25,54,55,77,78,79,80],[]⟩,qmr,qot,λd=>zfh d.1 d.2.1⟩
def qqp:Plan:=⟨[(6,qor),(11,qmm),(15,qmn),(17,qmo),(19,qmp),(21,qmq)],[(2,z1m)],0,0⟩
def zj0 (t0:PV zf):Option (PVs [zk,.bool]×PVs []):=
 (zc6 (t0,([]:PV zk),())).bind λx26=>
   match x26 with
   | .inl l23=>
     some ((l23.1,true,()),())
   | .inr l24=>
     some ((l24.1,l24.2.1,()),())
def z3w:Ct:=⟨[(.bor,zf)],[(zk,(.row (.pr .b (.pr .b (.pr (.row .b) (.pr .b (.pr .b (.pr (.row .b) .b)))))))),(.bool,.b)],λx=>zj0 x.1⟩
def qqq:Cx:=⟨tab,arrs,[(141,zkm),(142,zt9),(143,zmv),(144,z3v)],[],gl,[]⟩
theorem qqr:FnOk gl Tryz.prog 74 z3w:=
 fo qqq qqp 0 (oz ⟨znd,z0b,zpy,qqo,trivial⟩ trivial) Tryz.func74 (by kernel_rfl) (by kernel_rfl) (by kernel_rfl)
  (ll 1 (by kernel_rfl) (lc z1m (by kernel_rfl) (λd=>by kernel_rfl) trivial)) (λx=>by kernel_rfl)
def jb1:Plan:=⟨[],[],0,0⟩
def zcd (t0:PV (.int .i64))(t1:PV (.int .i64))(t2:PV (.int .i64)):Option (PVs [.bool]×PVs []):=
 bif (decide (t0>=t1)) then
  some (((decide (t0<=t2)),()),())
 else
  some ((false,()),())
def zlj:Ct:=⟨[(.bor,(.int .i64)),(.bor,(.int .i64)),(.bor,(.int .i64))],[(.bool,.b)],λx=>zcd x.1 x.2.1 x.2.2.1⟩
def jb2:Cx:=⟨tab,arrs,[],[],gl,[]⟩
theorem zoi:FnOk gl Tryz.prog 131 zlj:=
 fo jb2 jb1 0 (oz trivial trivial) Tryz.func131 (by kernel_rfl) (by kernel_rfl) (by kernel_rfl)
  (ll 0 (by kernel_rfl) trivial) (λx=>by kernel_rfl)
def q2c:Plan:=⟨[],[],0,0⟩
def zke (t0:PV .str):Option (PVs [.bool]×PVs []):=
 (zcd (t0.length:Int) 1 30).bind λr1=>
   bif r1.1.1 then
    bif cutB 0 (IntKind.wrap .i64 ((t0.length:Int) -1)) t0.length then
     (zl7 (cutL 0 (IntKind.wrap .i64 ((t0.length:Int) -1)) t0) [10]).bind λr2=>
       some (((!r2.1.1),()),())
    else
     none
   else
    some ((false,()),())
def zqi:Ct:=⟨[(.bor,.str)],[(.bool,.b)],λx=>zke x.1⟩
def q2d:Cx:=⟨tab,arrs,[(131,zlj),(233,zua)],[],gl,[]⟩
theorem zvr:FnOk gl Tryz.prog 179 zqi:=
 fo q2d q2c 0 (oz ⟨zoi,z0d,trivial⟩ trivial) Tryz.func179 (by kernel_rfl) (by kernel_rfl) (by kernel_rfl)
  (ll 0 (by kernel_rfl) trivial) (λx=>by kernel_rfl)
def qou:Plan:=⟨[],[],0,0⟩
def zph (t0:PV .str):Option (PVs [.bool]×PVs []):=
 (zke t0).bind λr1=>
   some (((!r1.1.1),()),())
def z2t:Ct:=⟨[(.bor,.str)],[(.bool,.b)],λx=>zph x.1⟩
def qov:Cx:=⟨tab,arrs,[(179,zqi)],[],gl,[]⟩
theorem qow:FnOk gl Tryz.prog 225 z2t:=
 fo qov qou 0 (oz ⟨zvr,trivial⟩ trivial) Tryz.func225 (by kernel_rfl) (by kernel_rfl) (by kernel_rfl)
  (ll 0 (by kernel_rfl) trivial) (λx=>by kernel_rfl)
def qlj:Plan:=⟨[],[],1,11⟩
def qjw:List Sh:=mkSh 39 [(0,.val zf .b),(2,.val .bool .b),(3,.val zf .b),(4,.val (.int .i64) .b),(5,.val .bool .b),(6,.val .bool .b),(7,.val zf .b),(11,.val zf .b),(12,.fn 225 []),(15,.val .bool .b),(16,.val zf .b),(17,.fn 225 []),(20,.val zf .b),(21,.fn 225 []),(27,.val (.int .i64) .b),(28,.val (.int .i64) .b)]
def qkh:List Out:=[⟨.exit 0,⟨[],[],[]⟩,mkSh 39 [(0,.val zf .b),(2,.val .bool .b),(3,.val zf .b),(4,.val (.int .i64) .b),(5,.val .bool .b),(6,.val .bool .b),(7,.val zf .b),(11,.val zf .b),(12,.fn 225 []),(15,.val .bool .b),(16,.val zf .b),(17,.fn 225 [])]⟩,⟨.ret,⟨[],[4],[]⟩,mkSh 39 [(0,.val zf .b),(2,.val .bool .b),(3,.val zf .b),(4,.val (.int .i64) .b),(5,.val .bool .b),(6,.val .bool .b),(7,.val zf .b),(11,.val zf .b),(12,.fn 225 []),(15,.val .bool .b),(16,.val zf .b),(17,.fn 225 []),(24,.val (.int .i64) .b)]⟩]
def ze4 (t0:PV zf)(t2:PV .bool)(t3:PV zf)(t4:PV (.int .i64))(t5:PV .bool)(t6:PV .bool)(t7:PV zf)(t11:PV zf)(t15:PV .bool)(t16:PV zf)(t20:PV zf)(t27:PV (.int .i64))(t28:PV (.int .i64)):Option ((PV zf×PV .bool×PV zf×PV (.int .i64)×PV .bool×PV .bool×PV zf×PV zf×PV .bool×PV zf×PV zf×PV (.int .i64)×PV (.int .i64)×Unit)⊕((PV zf×PV .bool×PV zf×PV (.int .i64)×PV .bool×PV .bool×PV zf×PV zf×PV .bool×PV zf×Unit)⊕(PV zf×PV .bool×PV zf×PV (.int .i64)×PV .bool×PV .bool×PV zf×PV zf×PV .bool×PV zf×PV (.int .i64)×Unit))):=
 bif (decide (t28<t27)) then
  bif inB t28 t20.length then
   (zph (t20.getD t28.toNat [])).bind λr4=>
     bif r4.1.1 then
      some (.inr (.inr (t0,t2,t3,t4,t5,t6,t7,t11,t15,t16,t28,())))
     else
      some (.inl (t0,t2,t3,t4,t5,t6,t7,t11,t15,t16,t20,t27,(IntKind.wrap .i64 (t28+1)),()))
  else
   none
 else
  some (.inr (.inl (t0,t2,t3,t4,t5,t6,t7,t11,t15,t16,())))
def z0f:PV zf×PV .bool×PV zf×PV (.int .i64)×PV .bool×PV .bool×PV zf×PV zf×PV .bool×PV zf×PV zf×PV (.int .i64)×PV (.int .i64)×Unit->Option ((PV zf×PV .bool×PV zf×PV (.int .i64)×PV .bool×PV .bool×PV zf×PV zf×PV .bool×PV zf×Unit)⊕(PV zf×PV .bool×PV zf×PV (.int .i64)×PV .bool×PV .bool×PV zf×PV zf×PV .bool×PV zf×PV (.int .i64)×Unit)):=fix λd=>ze4 d.1 d.2.1 d.2.2.1 d.2.2.2.1 d.2.2.2.2.1 d.2.2.2.2.2.1 d.2.2.2.2.2.2.1 d.2.2.2.2.2.2.2.1 d.2.2.2.2.2.2.2.2.1 d.2.2.2.2.2.2.2.2.2.1 d.2.2.2.2.2.2.2.2.2.2.1 d.2.2.2.2.2.2.2.2.2.2.2.1 d.2.2.2.2.2.2.2.2.2.2.2.2.1
def z0e:Lp:=⟨⟨[],[0,1,7,8],[]⟩,qjw,qkh,λd=>ze4 d.1 d.2.1 d.2.2.1 d.2.2.2.1 d.2.2.2.2.1 d.2.2.2.2.2.1 d.2.2.2.2.2.2.1 d.2.2.2.2.2.2.2.1 d.2.2.2.2.2.2.2.2.1 d.2.2.2.2.2.2.2.2.2.1 d.2.2.2.2.2.2.2.2.2.2.1 d.2.2.2.2.2.2.2.2.2.2.2.1 d.2.2.2.2.2.2.2.2.2.2.2.2.1⟩
def qlk:Plan:=⟨[],[(2,z0e)],0,20⟩
def qt2:Plan:=⟨[],[],2,0⟩
def zpu (t0:PV zf):Option (PVs [.bool]×PVs []):=
 bif (decide ((t0.length:Int)<=40)) then
  (z0f (t0,false,t0,(t0.length:Int),(decide ((t0.length:Int)<=40)),true,t0,t0,false,t0,t0,(t0.length:Int),0,())).bind λx9=>
    match x9 with
    | .inl l7=>
      bif l7.2.2.2.2.2.1 then
       some (((!(decide ((-1)>=0))),()),())
      else
       some ((false,()),())
    | .inr l8=>
      bif l8.2.2.2.2.2.1 then
       some (((!(decide (l8.2.2.2.2.2.2.2.2.2.2.1>=0))),()),())
      else
       some ((false,()),())
 else
  some ((false,()),())
def z5o:Ct:=⟨[(.bor,zf)],[(.bool,.b)],λx=>zpu x.1⟩
def qt3:Cx:=⟨tab,arrs,[(225,z2t)],[(224,Tryz.f224,qlj),(264,Tryz.f264,qlk)],gl,[]⟩
theorem qt4:FnOk gl Tryz.prog 156 z5o:=
 fo qt3 qt2 2 (oz ⟨qow,trivial⟩ ⟨⟨Tryz.func224,by kernel_rfl,(ll 0 (by kernel_rfl) trivial)⟩,⟨Tryz.func264,by kernel_rfl,(ll 1 (by kernel_rfl) (lc z0e (by kernel_rfl) (λd=>by kernel_rfl) trivial))⟩,trivial⟩) Tryz.func156 (by kernel_rfl) (by kernel_rfl) (by kernel_rfl)
  (ll 0 (by kernel_rfl) trivial) (λx=>by kernel_rfl)
def qi9:Plan:=⟨[],[],0,0⟩
def zt8 (t0:PV .str)(t1:PV .str):Option (PVs [.bool]×PVs []):=
 (zhk t0 t1).bind λr1=>
   some ((r1.1.1,()),())
def zz0:Ct:=⟨[(.bor,.str),(.bor,.str)],[(.bool,.b)],λx=>zt8 x.1 x.2.1⟩
def qja:Cx:=⟨tab,arrs,[(265,zo5)],[],gl,[]⟩
theorem qjb:FnOk gl Tryz.prog 226 zz0:=
 fo qja qi9 0 (oz ⟨ztz,trivial⟩ trivial) Tryz.func226 (by kernel_rfl) (by kernel_rfl) (by kernel_rfl)
  (ll 0 (by kernel_rfl) trivial) (λx=>by kernel_rfl)
def qxo:Plan:=⟨[],[],0,0⟩
def zik (t0:PV .str):Option (PVs [.bool]×PVs []):=
 (zt8 t0 [10]).bind λr1=>
   some ((r1.1.1,()),())
def zpz:Ct:=⟨[(.bor,.str)],[(.bool,.b)],λx=>zik x.1⟩
def qxp:Cx:=⟨tab,arrs,[(226,zz0)],[],gl,[]⟩
theorem zvf:FnOk gl Tryz.prog 157 zpz:=
 fo qxp qxo 0 (oz ⟨qjb,trivial⟩ trivial) Tryz.func157 (by kernel_rfl) (by kernel_rfl) (by kernel_rfl)
  (ll 0 (by kernel_rfl) trivial) (λx=>by kernel_rfl)
def qox:List Out:=[⟨.normal,⟨[],[0,8,9,10,24],[]⟩,mkSh 26 [(0,.val zf .b),(8,.val zf .b),(9,.val (.int .i64) .b),(10,.val (.int .i64) .b),(24,.val .bool .b)]⟩]
def qms:List Sh:=mkSh 26 [(0,.val zf .b),(8,.val zf .b),(9,.val (.int .i64) .b),(10,.val (.int .i64) .b)]
def qoy:List Out:=[⟨.exit 0,⟨[],[],[]⟩,mkSh 26 []⟩,⟨.ret,⟨[],[2],[]⟩,mkSh 26 [(2,.val .bool .b)]⟩]
def zfd (t0:PV zf)(t8:PV zf)(t9:PV (.int .i64))(t10:PV (.int .i64)):Option ((PV zf×PV zf×PV (.int .i64)×PV (.int .i64)×Unit)⊕((Unit)⊕(PV .bool×Unit))):=
 bif (decide (t10<t9)) then
  bif inB t10 t8.length then
   ((
     bif (decide (t10<(IntKind.wrap .i64 ((t0.length:Int) -1)))) then
      (zik (t8.getD t10.toNat [])).bind λr7=>
        some (t0,t8,t9,t10,(!r7.1.1),())
     else
      some (t0,t8,t9,t10,false,()):Option ((PV zf×PV zf×PV (.int .i64)×PV (.int .i64)×PV .bool×Unit)))).bind λj8=>
     bif j8.2.2.2.2.1 then
      some (.inr (.inr (false,())))
     else
      some (.inl (j8.1,j8.2.1,j8.2.2.1,(IntKind.wrap .i64 (j8.2.2.2.1+1)),()))
  else
   none
 else
  some (.inr (.inl ()))
def z1y:PV zf×PV zf×PV (.int .i64)×PV (.int .i64)×Unit->Option ((Unit)⊕(PV .bool×Unit)):=fix λd=>zfd d.1 d.2.1 d.2.2.1 d.2.2.2.1
def z1o:Lp:=⟨⟨[],[0,8,9,10,21,22,23],[]⟩,qms,qoy,λd=>zfd d.1 d.2.1 d.2.2.1 d.2.2.2.1⟩
def qqs:Plan:=⟨[(7,qox)],[(4,z1o)],0,0⟩
def zjw (t0:PV zf):Option (PVs [.bool]×PVs []):=
 (zpu t0).bind λr4=>
   bif (!r4.1.1) then
    some ((false,()),())
   else
    (z1y (t0,t0,(t0.length:Int),0,())).bind λx13=>
      match x13 with
      | .inl l11=>
        some ((true,()),())
      | .inr l12=>
        some ((l12.1,()),())
def zur:Ct:=⟨[(.bor,zf)],[(.bool,.b)],λx=>zjw x.1⟩
def qqt:Cx:=⟨tab,arrs,[(156,z5o),(157,zpz)],[],gl,[]⟩
theorem z3x:FnOk gl Tryz.prog 88 zur:=
 fo qqt qqs 0 (oz ⟨qt4,zvf,trivial⟩ trivial) Tryz.func88 (by kernel_rfl) (by kernel_rfl) (by kernel_rfl)
  (ll 1 (by kernel_rfl) (lc z1o (by kernel_rfl) (λd=>by kernel_rfl) trivial)) (λx=>by kernel_rfl)
def qxq:List Out:=[⟨.normal,⟨[],[0,1,2,19,29,30,31,32,33,34,35],[]⟩,mkSh 37 [(0,.val (.int .i64) .b),(1,.val (.int .i64) .b),(2,.val zf .b),(19,.val .bool .b)]⟩]
def q2e:Plan:=⟨[(2,qxq)],[],0,0⟩
def zna (t0:PV (.int .i64))(t1:PV (.int .i64))(t2:PV zf):Option (PVs [.bool]×PVs []):=
 ((
   (zcd t0 0 1000).bind λr8=>
     bif (!r8.1.1) then
      some (t0,t1,t2,true,())
     else
      (zcd t1 0 1000).bind λr9=>
        bif (!r9.1.1) then
         some (t0,t1,t2,true,())
        else
         (zjw t2).bind λr10=>
           some (t0,t1,t2,(!r10.1.1),()):Option ((PV (.int .i64)×PV (.int .i64)×PV zf×PV .bool×Unit)))).bind λj11=>
   bif j11.2.2.2.1 then
    some ((false,()),())
   else
    bif ((j11.2.2.1.length:Int)==0) then
     some (((j11.1==j11.2.1),()),())
    else
     bif (decide (j11.1>=1)) then
      some ((((IntKind.wrap .i64 ((IntKind.wrap .i64 (j11.2.1 -j11.1))+1))==(j11.2.2.1.length:Int)),()),())
     else
      some ((false,()),())
def z9i:Ct:=⟨[(.bor,(.int .i64)),(.bor,(.int .i64)),(.bor,zf)],[(.bool,.b)],λx=>zna x.1 x.2.1 x.2.2.1⟩
def q2f:Cx:=⟨tab,arrs,[(88,zur),(131,zlj)],[],gl,[]⟩
theorem q2g:FnOk gl Tryz.prog 135 z9i:=
 fo q2f q2e 0 (oz ⟨z3x,zoi,trivial⟩ trivial) Tryz.func135 (by kernel_rfl) (by kernel_rfl) (by kernel_rfl)
  (ll 0 (by kernel_rfl) trivial) (λx=>by kernel_rfl)
def qmt:Plan:=⟨[],[],0,0⟩
def zpg (t0:PV zu):Option (PVs [.bool]×PVs []):=
 (zna t0.1 t0.2.1 t0.2.2.1).bind λr1=>
   bif (!r1.1.1) then
    some ((true,()),())
   else
    (zna t0.2.2.2.1 t0.2.2.2.2.1 t0.2.2.2.2.2.1).bind λr2=>
      bif (!r2.1.1) then
       some ((true,()),())
      else
       some ((((IntKind.wrap .i64 ((t0.2.2.1.length:Int)+(t0.2.2.2.2.2.1.length:Int)))==0),()),())
def z1p:Ct:=⟨[(.bor,zu)],[(.bool,.b)],λx=>zpg x.1⟩
def qmu:Cx:=⟨tab,arrs,[(135,z9i)],[],gl,[]⟩
theorem qmv:FnOk gl Tryz.prog 134 z1p:=
 fo qmu qmt 0 (oz ⟨q2g,trivial⟩ trivial) Tryz.func134 (by kernel_rfl) (by kernel_rfl) (by kernel_rfl)
  (ll 0 (by kernel_rfl) trivial) (λx=>by kernel_rfl)
def qki:Plan:=⟨[],[],1,11⟩
def qjc:List Sh:=mkSh 39 [(0,.val zk .b),(2,.val .bool .b),(3,.val zk .b),(4,.val (.int .i64) .b),(5,.val .bool .b),(6,.val .bool .b),(7,.val zk .b),(11,.val zk .b),(12,.fn 134 []),(15,.val .bool .b),(16,.val zk .b),(17,.fn 134 []),(20,.val zk .b),(21,.fn 134 []),(27,.val (.int .i64) .b),(28,.val (.int .i64) .b)]
def qjx:List Out:=[⟨.exit 0,⟨[],[],[]⟩,mkSh 39 [(0,.val zk .b),(2,.val .bool .b),(3,.val zk .b),(4,.val (.int .i64) .b),(5,.val .bool .b),(6,.val .bool .b),(7,.val zk .b),(11,.val zk .b),(12,.fn 134 []),(15,.val .bool .b),(16,.val zk .b),(17,.fn 134 [])]⟩,⟨.ret,⟨[],[4],[]⟩,mkSh 39 [(0,.val zk .b),(2,.val .bool .b),(3,.val zk .b),(4,.val (.int .i64) .b),(5,.val .bool .b),(6,.val .bool .b),(7,.val zk .b),(11,.val zk .b),(12,.fn 134 []),(15,.val .bool .b),(16,.val zk .b),(17,.fn 134 []),(24,.val (.int .i64) .b)]⟩]
def ze3 (t0:PV zk)(t2:PV .bool)(t3:PV zk)(t4:PV (.int .i64))(t5:PV .bool)(t6:PV .bool)(t7:PV zk)(t11:PV zk)(t15:PV .bool)(t16:PV zk)(t20:PV zk)(t27:PV (.int .i64))(t28:PV (.int .i64)):Option ((PV zk×PV .bool×PV zk×PV (.int .i64)×PV .bool×PV .bool×PV zk×PV zk×PV .bool×PV zk×PV zk×PV (.int .i64)×PV (.int .i64)×Unit)⊕((PV zk×PV .bool×PV zk×PV (.int .i64)×PV .bool×PV .bool×PV zk×PV zk×PV .bool×PV zk×Unit)⊕(PV zk×PV .bool×PV zk×PV (.int .i64)×PV .bool×PV .bool×PV zk×PV zk×PV .bool×PV zk×PV (.int .i64)×Unit))):=
 bif (decide (t28<t27)) then
  bif inB t28 t20.length then
   (zpg (t20.getD t28.toNat (dflt zu))).bind λr4=>
     bif r4.1.1 then
      some (.inr (.inr (t0,t2,t3,t4,t5,t6,t7,t11,t15,t16,t28,())))
     else
      some (.inl (t0,t2,t3,t4,t5,t6,t7,t11,t15,t16,t20,t27,(IntKind.wrap .i64 (t28+1)),()))
  else
   none
 else
  some (.inr (.inl (t0,t2,t3,t4,t5,t6,t7,t11,t15,t16,())))
def zz8:PV zk×PV .bool×PV zk×PV (.int .i64)×PV .bool×PV .bool×PV zk×PV zk×PV .bool×PV zk×PV zk×PV (.int .i64)×PV (.int .i64)×Unit->Option ((PV zk×PV .bool×PV zk×PV (.int .i64)×PV .bool×PV .bool×PV zk×PV zk×PV .bool×PV zk×Unit)⊕(PV zk×PV .bool×PV zk×PV (.int .i64)×PV .bool×PV .bool×PV zk×PV zk×PV .bool×PV zk×PV (.int .i64)×Unit)):=fix λd=>ze3 d.1 d.2.1 d.2.2.1 d.2.2.2.1 d.2.2.2.2.1 d.2.2.2.2.2.1 d.2.2.2.2.2.2.1 d.2.2.2.2.2.2.2.1 d.2.2.2.2.2.2.2.2.1 d.2.2.2.2.2.2.2.2.2.1 d.2.2.2.2.2.2.2.2.2.2.1 d.2.2.2.2.2.2.2.2.2.2.2.1 d.2.2.2.2.2.2.2.2.2.2.2.2.1
def zz1:Lp:=⟨⟨[],[0,1,7,8],[]⟩,qjc,qjx,λd=>ze3 d.1 d.2.1 d.2.2.1 d.2.2.2.1 d.2.2.2.2.1 d.2.2.2.2.2.1 d.2.2.2.2.2.2.1 d.2.2.2.2.2.2.2.1 d.2.2.2.2.2.2.2.2.1 d.2.2.2.2.2.2.2.2.2.1 d.2.2.2.2.2.2.2.2.2.2.1 d.2.2.2.2.2.2.2.2.2.2.2.1 d.2.2.2.2.2.2.2.2.2.2.2.2.1⟩
def qkj:Plan:=⟨[],[(2,zz1)],0,20⟩
def qqu:Plan:=⟨[],[],2,0⟩
def zps (t0:PV zk):Option (PVs [.bool]×PVs []):=
 bif (decide ((t0.length:Int)<=20)) then
  (zz8 (t0,false,t0,(t0.length:Int),(decide ((t0.length:Int)<=20)),true,t0,t0,false,t0,t0,(t0.length:Int),0,())).bind λx9=>
    match x9 with
    | .inl l7=>
      bif l7.2.2.2.2.2.1 then
       some (((!(decide ((-1)>=0))),()),())
      else
       some ((false,()),())
    | .inr l8=>
      bif l8.2.2.2.2.2.1 then
       some (((!(decide (l8.2.2.2.2.2.2.2.2.2.2.1>=0))),()),())
      else
       some ((false,()),())
 else
  some ((false,()),())
def z3y:Ct:=⟨[(.bor,zk)],[(.bool,.b)],λx=>zps x.1⟩
def qqv:Cx:=⟨tab,arrs,[(134,z1p)],[(133,Tryz.f133,qki),(204,Tryz.f204,qkj)],gl,[]⟩
theorem qqw:FnOk gl Tryz.prog 69 z3y:=
 fo qqv qqu 2 (oz ⟨qmv,trivial⟩ ⟨⟨Tryz.func133,by kernel_rfl,(ll 0 (by kernel_rfl) trivial)⟩,⟨Tryz.func204,by kernel_rfl,(ll 1 (by kernel_rfl) (lc zz1 (by kernel_rfl) (λd=>by kernel_rfl) trivial))⟩,trivial⟩) Tryz.func69 (by kernel_rfl) (by kernel_rfl) (by kernel_rfl)
  (ll 0 (by kernel_rfl) trivial) (λx=>by kernel_rfl)
def q2h:Plan:=⟨[],[],0,0⟩
def zdx (t0:PV (.int .i64))(t1:PV (.int .i64)):Option (PVs [.str]×PVs []):=
 bif (t0==t1) then
  (zjt t0).bind λr2=>
    some ((r2.1.1,()),())
 else
  (zjt t0).bind λr3=>
    bif decide (r3.1.1.length+[44].length<=1099511627776) then
     (zjt t1).bind λr4=>
       bif decide ((r3.1.1++[44]).length+r4.1.1.length<=1099511627776) then
        some ((((r3.1.1++[44])++r4.1.1),()),())
       else
        none
    else
     none
def zqh:Ct:=⟨[(.bor,(.int .i64)),(.bor,(.int .i64))],[(.str,.b)],λx=>zdx x.1 x.2.1⟩
def q2i:Cx:=⟨tab,arrs,[(205,z2o)],[],gl,[]⟩
theorem zvq:FnOk gl Tryz.prog 136 zqh:=
 fo q2i q2h 0 (oz ⟨qoc,trivial⟩ trivial) Tryz.func136 (by kernel_rfl) (by kernel_rfl) (by kernel_rfl)
  (ll 0 (by kernel_rfl) trivial) (λx=>by kernel_rfl)
def q4u:Plan:=⟨[],[],0,0⟩
def zcs (t0:PV .str)(t1:PV .str):Option (PVs [.str]×PVs []):=
 (zik t1).bind λr4=>
   bif r4.1.1 then
    bif decide (t0.length+t1.length<=1099511627776) then
     some (((t0++t1),()),())
    else
     none
   else
    bif decide (t0.length+t1.length<=1099511627776) then
     bif decide ((t0++t1).length+[10].length<=1099511627776) then
      bif decide (((t0++t1)++[10]).length+[92,32,110,111,110,101,10].length<=1099511627776) then
       some (((((t0++t1)++[10])++[92,32,110,111,110,101,10]),()),())
      else
       none
     else
      none
    else
     none
def zre:Ct:=⟨[(.bor,.str),(.bor,.str)],[(.str,.b)],λx=>zcs x.1 x.2.1⟩
def q4v:Cx:=⟨tab,arrs,[(157,zpz)],[],gl,[]⟩
theorem zv9:FnOk gl Tryz.prog 181 zre:=
 fo q4v q4u 0 (oz ⟨zvf,trivial⟩ trivial) Tryz.func181 (by kernel_rfl) (by kernel_rfl) (by kernel_rfl)
  (ll 0 (by kernel_rfl) trivial) (λx=>by kernel_rfl)
def qoz:List Sh:=mkSh 21 [(0,.val .str .b),(5,.val .str .b),(8,.val zf .b),(9,.val (.int .i64) .b),(10,.val (.int .i64) .b)]
def qqx:List Out:=[⟨.exit 0,⟨[],[5],[]⟩,mkSh 21 [(5,.val .str .b)]⟩]
def zhw (t0:PV .str)(t5:PV .str)(t8:PV zf)(t9:PV (.int .i64))(t10:PV (.int .i64)):Option ((PV .str×PV .str×PV zf×PV (.int .i64)×PV (.int .i64)×Unit)⊕((PV .str×Unit))):=
 bif (decide (t10<t9)) then
  bif inB t10 t8.length then
   (zcs t0 (t8.getD t10.toNat [])).bind λr2=>
     bif decide (t5.length+r2.1.1.length<=1099511627776) then
      some (.inl (t0,(t5++r2.1.1),t8,t9,(IntKind.wrap .i64 (t10+1)),()))
     else
      none
  else
   none
 else
  some (.inr (t5,()))
def z3a:PV .str×PV .str×PV zf×PV (.int .i64)×PV (.int .i64)×Unit->Option ((PV .str×Unit)):=fix λd=>zhw d.1 d.2.1 d.2.2.1 d.2.2.2.1 d.2.2.2.2.1
def z2u:Lp:=⟨⟨[],[0,5,8,9,10],[]⟩,qoz,qqx,λd=>zhw d.1 d.2.1 d.2.2.1 d.2.2.2.1 d.2.2.2.2.1⟩
def qt5:Plan:=⟨[],[(3,z2u)],0,0⟩
def zmt (t0:PV .str)(t1:PV zf):Option (PVs [.str]×PVs []):=
 (z3a (t0,[],t1,(t1.length:Int),0,())).bind λl4=>
   some ((l4.1,()),())
def z5p:Ct:=⟨[(.bor,.str),(.bor,zf)],[(.str,.b)],λx=>zmt x.1 x.2.1⟩
def qt6:Cx:=⟨tab,arrs,[(181,zre)],[],gl,[]⟩
theorem qt7:FnOk gl Tryz.prog 137 z5p:=
 fo qt6 qt5 0 (oz ⟨zv9,trivial⟩ trivial) Tryz.func137 (by kernel_rfl) (by kernel_rfl) (by kernel_rfl)
  (ll 1 (by kernel_rfl) (lc z2u (by kernel_rfl) (λd=>by kernel_rfl) trivial)) (λx=>by kernel_rfl)
def qqy:List Out:=[⟨.normal,⟨[],[1,3,4],[]⟩,mkSh 39 [(1,.var zu .b),(3,.val .str .b),(4,.val .str .b)]⟩]
def qt8:Plan:=⟨[(6,qqy)],[],0,0⟩
def zpw (t0:PV zu):Option (PVs [.str]×PVs []):=
 ((
   bif ((t0.2.2.1.length:Int)==0) then
    some (t0,[97],[],())
   else
    bif ((t0.2.2.2.2.2.1.length:Int)==0) then
     some (t0,[100],[],())
    else
     some (t0,[99],[45,45,45,10],()):Option ((PV zu×PV .str×PV .str×Unit)))).bind λj1=>
   (zdx j1.1.1 j1.1.2.1).bind λr2=>
     bif decide (r2.1.1.length+j1.2.1.length<=1099511627776) then
      (zdx j1.1.2.2.2.1 j1.1.2.2.2.2.1).bind λr3=>
        bif decide ((r2.1.1++j1.2.1).length+r3.1.1.length<=1099511627776) then
         bif decide (((r2.1.1++j1.2.1)++r3.1.1).length+[10].length<=1099511627776) then
          (zmt [60,32] j1.1.2.2.1).bind λr4=>
            bif decide ((((r2.1.1++j1.2.1)++r3.1.1)++[10]).length+r4.1.1.length<=1099511627776) then
             bif decide (((((r2.1.1++j1.2.1)++r3.1.1)++[10])++r4.1.1).length+j1.2.2.1.length<=1099511627776) then
              (zmt [62,32] j1.1.2.2.2.2.2.1).bind λr5=>
                bif decide ((((((r2.1.1++j1.2.1)++r3.1.1)++[10])++r4.1.1)++j1.2.2.1).length+r5.1.1.length<=1099511627776) then
                 some ((((((((r2.1.1++j1.2.1)++r3.1.1)++[10])++r4.1.1)++j1.2.2.1)++r5.1.1),()),())
                else
                 none
             else
              none
            else
             none
         else
          none
        else
         none
     else
      none
def z5q:Ct:=⟨[(.bor,zu)],[(.str,.b)],λx=>zpw x.1⟩
def qt9:Cx:=⟨tab,arrs,[(136,zqh),(137,z5p)],[],gl,[]⟩
theorem qub:FnOk gl Tryz.prog 70 z5q:=
 fo qt9 qt8 0 (oz ⟨zvq,qt7,trivial⟩ trivial) Tryz.func70 (by kernel_rfl) (by kernel_rfl) (by kernel_rfl)
  (ll 0 (by kernel_rfl) trivial) (λx=>by kernel_rfl)
def q4w:Plan:=⟨[],[],0,0⟩
def zix (t0:PV .str):Option (PVs [.str,.bool]×PVs []):=
 bif (decide ((t0.length:Int)>3000)) then
  some (([],false,()),())
 else
  some ((t0,true,()),())
def zrf:Ct:=⟨[(.bor,.str)],[(.str,.b),(.bool,.b)],λx=>zix x.1⟩
def q4x:Cx:=⟨tab,arrs,[],[],gl,[]⟩
theorem zwa:FnOk gl Tryz.prog 71 zrf:=
 fo q4x q4w 0 (oz trivial trivial) Tryz.func71 (by kernel_rfl) (by kernel_rfl) (by kernel_rfl)
  (ll 0 (by kernel_rfl) trivial) (λx=>by kernel_rfl)
def qmw:List Sh:=mkSh 25 [(4,.val .str .b),(10,.val zk .b),(11,.val (.int .i64) .b),(12,.val (.int .i64) .b)]
def qo0:List Out:=[⟨.exit 0,⟨[],[4],[]⟩,mkSh 25 [(4,.val .str .b)]⟩]
def zhs (t4:PV .str)(t10:PV zk)(t11:PV (.int .i64))(t12:PV (.int .i64)):Option ((PV .str×PV zk×PV (.int .i64)×PV (.int .i64)×Unit)⊕((PV .str×Unit))):=
 bif (decide (t12<t11)) then
  bif inB t12 t10.length then
   (zpw (t10.getD t12.toNat (dflt zu))).bind λr6=>
     bif decide (t4.length+r6.1.1.length<=1099511627776) then
      some (.inl ((t4++r6.1.1),t10,t11,(IntKind.wrap .i64 (t12+1)),()))
     else
      none
  else
   none
 else
  some (.inr (t4,()))
def zuk:PV .str×PV zk×PV (.int .i64)×PV (.int .i64)×Unit->Option ((PV .str×Unit)):=fix λd=>zhs d.1 d.2.1 d.2.2.1 d.2.2.2.1
def z1q:Lp:=⟨⟨[],[4,10,11,12],[]⟩,qmw,qo0,λd=>zhs d.1 d.2.1 d.2.2.1 d.2.2.2.1⟩
def qqz:Plan:=⟨[],[(5,z1q)],0,0⟩
def zpt (t0:PV zk):Option (PVs [.str,.bool]×PVs []):=
 (zps t0).bind λr4=>
   bif (!r4.1.1) then
    some (([],false,()),())
   else
    (zuk ([],t0,(t0.length:Int),0,())).bind λl8=>
      (zix l8.1).bind λr9=>
        some ((r9.1.1,r9.1.2.1,()),())
def z3z:Ct:=⟨[(.bor,zk)],[(.str,.b),(.bool,.b)],λx=>zpt x.1⟩
def qq0:Cx:=⟨tab,arrs,[(69,z3y),(70,z5q),(71,zrf)],[],gl,[]⟩
theorem qq1:FnOk gl Tryz.prog 26 z3z:=
 fo qq0 qqz 0 (oz ⟨qqw,qub,zwa,trivial⟩ trivial) Tryz.func26 (by kernel_rfl) (by kernel_rfl) (by kernel_rfl)
  (ll 1 (by kernel_rfl) (lc z1q (by kernel_rfl) (λd=>by kernel_rfl) trivial)) (λx=>by kernel_rfl)
def qmx:List Out:=[⟨.normal,⟨[],[5,31],[]⟩,mkSh 33 [(5,.val zk (.row (.pr .b (.pr .b (.pr (.row .b) (.pr .b (.pr .b (.pr (.row .b) .b)))))))),(31,.val .bool .b)]⟩]
def qmy:List Out:=[⟨.normal,⟨[],[],[]⟩,mkSh 33 []⟩,⟨.ret,⟨[],[2,3,4],[]⟩,mkSh 33 [(2,.val zk (.row (.pr .b (.pr .b (.pr (.row .b) (.pr .b (.pr .b (.pr (.row .b) .b)))))))),(3,.val (.int .i64) .b),(4,.val .bool .b)]⟩]
def qo1:Plan:=⟨[(5,qmx),(6,qmy)],[],0,0⟩
def zmh (t0:PV .str):Option (PVs [zk,(.int .i64),.bool]×PVs []):=
 ((
   bif (decide ((t0.length:Int)<=3000)) then
    (zin t0).bind λr10=>
      (zj0 r10.1.1).bind λr11=>
        (zpt r11.1.1).bind λr13=>
          ((
            bif r11.1.2.1 then
             bif r13.1.2.1 then
              some (r11.1.1,(r13.1.1==t0),())
             else
              some (r11.1.1,false,())
            else
             some (r11.1.1,false,()):Option ((PV zk×PV .bool×Unit)))).bind λj14=>
            bif j14.2.1 then
             some (.inr (j14.1,0,true,()))
            else
             some (.inl ())
   else
    some (.inl ()):Option ((Unit)⊕(PV zk×PV (.int .i64)×PV .bool×Unit)))).bind λx17=>
   match x17 with
   | .inl j15=>
     some (([],1,false,()),())
   | .inr j16=>
     some ((j16.1,j16.2.1,j16.2.2.1,()),())
def z2k:Ct:=⟨[(.bor,.str)],[(zk,(.row (.pr .b (.pr .b (.pr (.row .b) (.pr .b (.pr .b (.pr (.row .b) .b)))))))),((.int .i64),.b),(.bool,.b)],λx=>zmh x.1⟩
def qo2:Cx:=⟨tab,arrs,[(26,z3z),(74,z3w),(75,zmu)],[],gl,[]⟩
theorem qn9:FnOk gl Tryz.prog 30 z2k:=
 fo qo2 qo1 0 (oz ⟨qq1,qqr,zpx,trivial⟩ trivial) Tryz.func30 (by kernel_rfl) (by kernel_rfl) (by kernel_rfl)
  (ll 0 (by kernel_rfl) trivial) (λx=>by kernel_rfl)
def qhq:Plan:=⟨[],[],0,0⟩
def zt1 (t0:PV .str)(t1:PV .str):Option (PVs [.str,.bool]×PVs []):=
 (zgb t0 t1).bind λr4=>
   bif (!r4.1.1) then
    some ((t0,false,()),())
   else
    bif cutB (t1.length:Int) (t0.length:Int) t0.length then
     some (((cutL (t1.length:Int) (t0.length:Int) t0),true,()),())
    else
     none
def zzh:Ct:=⟨[(.bor,.str),(.bor,.str)],[(.str,.b),(.bool,.b)],λx=>zt1 x.1 x.2.1⟩
def qhr:Cx:=⟨tab,arrs,[(255,zo6)],[],gl,[]⟩
theorem qhs:FnOk gl Tryz.prog 260 zzh:=
 fo qhr qhq 0 (oz ⟨zt0,trivial⟩ trivial) Tryz.func260 (by kernel_rfl) (by kernel_rfl) (by kernel_rfl)
  (ll 0 (by kernel_rfl) trivial) (λx=>by kernel_rfl)
def qjd:Plan:=⟨[],[],0,0⟩
def zl5 (t0:PV .str)(t1:PV .str):Option (PVs [.str,.bool]×PVs []):=
 (zt1 t0 t1).bind λr1=>
   some ((r1.1.1,r1.1.2.1,()),())
def zt6:Ct:=⟨[(.bor,.str),(.bor,.str)],[(.str,.b),(.bool,.b)],λx=>zl5 x.1 x.2.1⟩
def qje:Cx:=⟨tab,arrs,[(260,zzh)],[],gl,[]⟩
theorem zz2:FnOk gl Tryz.prog 218 zt6:=
 fo qje qjd 0 (oz ⟨qhs,trivial⟩ trivial) Tryz.func218 (by kernel_rfl) (by kernel_rfl) (by kernel_rfl)
  (ll 0 (by kernel_rfl) trivial) (λx=>by kernel_rfl)
def qht:Plan:=⟨[],[],0,0⟩
def zt2 (t0:PV .str)(t1:PV .str):Option (PVs [.str,.bool]×PVs []):=
 (zhk t0 t1).bind λr4=>
   bif (!r4.1.1) then
    some ((t0,false,()),())
   else
    bif cutB 0 (IntKind.wrap .i64 ((t0.length:Int) -(t1.length:Int))) t0.length then
     some (((cutL 0 (IntKind.wrap .i64 ((t0.length:Int) -(t1.length:Int))) t0),true,()),())
    else
     none
def zzi:Ct:=⟨[(.bor,.str),(.bor,.str)],[(.str,.b),(.bool,.b)],λx=>zt2 x.1 x.2.1⟩
def qhu:Cx:=⟨tab,arrs,[(265,zo5)],[],gl,[]⟩
theorem qhv:FnOk gl Tryz.prog 261 zzi:=
 fo qhu qht 0 (oz ⟨ztz,trivial⟩ trivial) Tryz.func261 (by kernel_rfl) (by kernel_rfl) (by kernel_rfl)
  (ll 0 (by kernel_rfl) trivial) (λx=>by kernel_rfl)
def qjf:Plan:=⟨[],[],0,0⟩
def zl6 (t0:PV .str)(t1:PV .str):Option (PVs [.str,.bool]×PVs []):=
 (zt2 t0 t1).bind λr1=>
   some ((r1.1.1,r1.1.2.1,()),())
def zt7:Ct:=⟨[(.bor,.str),(.bor,.str)],[(.str,.b),(.bool,.b)],λx=>zl6 x.1 x.2.1⟩
def qjg:Cx:=⟨tab,arrs,[(261,zzi)],[],gl,[]⟩
theorem zz3:FnOk gl Tryz.prog 219 zt7:=
 fo qjg qjf 0 (oz ⟨qhv,trivial⟩ trivial) Tryz.func219 (by kernel_rfl) (by kernel_rfl) (by kernel_rfl)
  (ll 0 (by kernel_rfl) trivial) (λx=>by kernel_rfl)
def qxr:Plan:=⟨[],[],0,0⟩
def zqc (t0:PV (.int .i64))(t1:PV (.int .i64)):Option (PVs [.bool]×PVs []):=
 (zcd t0 0 999).bind λr1=>
   bif r1.1.1 then
    (zcd t1 0 999).bind λr2=>
      some ((r2.1.1,()),())
   else
    some ((false,()),())
def z7k:Ct:=⟨[(.bor,(.int .i64)),(.bor,(.int .i64))],[(.bool,.b)],λx=>zqc x.1 x.2.1⟩
def qxs:Cx:=⟨tab,arrs,[(131,zlj)],[],gl,[]⟩
theorem qxt:FnOk gl Tryz.prog 262 z7k:=
 fo qxs qxr 0 (oz ⟨zoi,trivial⟩ trivial) Tryz.func262 (by kernel_rfl) (by kernel_rfl) (by kernel_rfl)
  (ll 0 (by kernel_rfl) trivial) (λx=>by kernel_rfl)
def qo3:List Out:=[⟨.normal,⟨[],[5,6,8,25,26,27,28],[]⟩,mkSh 32 [(5,.val (.int .i64) .b),(6,.val (.int .i64) .b),(8,.val .bool .b)]⟩]
def qo4:List Out:=[⟨.normal,⟨[],[5,6,8,25,26,27,28],[]⟩,mkSh 32 [(5,.val (.int .i64) .b),(6,.val (.int .i64) .b),(8,.val .bool .b)]⟩]
def qo5:List Out:=[⟨.normal,⟨[],[5,6,29],[]⟩,mkSh 32 [(5,.val (.int .i64) .b),(6,.val (.int .i64) .b),(29,.val .bool .b)]⟩]
def qq3:Plan:=⟨[(4,qo3),(6,qo4),(7,qo5)],[],0,0⟩
def zml (t0:PV .str):Option (PVs [(.int .i64),(.int .i64),.bool]×PVs []):=
 (zef t0).bind λr2=>
   ((
     bif (!r2.1.2.2.1) then
      some (r2.1.1,1,r2.1.2.2.2.1,())
     else
      some (r2.1.1,r2.1.2.1,r2.1.2.2.2.1,()):Option ((PV (.int .i64)×PV (.int .i64)×PV .bool×Unit)))).bind λj3=>
     ((
       bif (decide (j3.2.1>0)) then
        some ((IntKind.wrap .i64 (j3.1 -1)),j3.2.1,j3.2.2.1,())
       else
        some (j3.1,j3.2.1,j3.2.2.1,()):Option ((PV (.int .i64)×PV (.int .i64)×PV .bool×Unit)))).bind λj4=>
       ((
         bif (!j4.2.2.1) then
          some (j4.1,j4.2.1,true,())
         else
          (zqc j4.1 j4.2.1).bind λr8=>
            some (j4.1,j4.2.1,(!r8.1.1),()):Option ((PV (.int .i64)×PV (.int .i64)×PV .bool×Unit)))).bind λj9=>
         bif j9.2.2.1 then
          some ((0,0,false,()),())
         else
          some ((j9.1,j9.2.1,true,()),())
def z4a:Ct:=⟨[(.bor,.str)],[((.int .i64),.b),((.int .i64),.b),(.bool,.b)],λx=>zml x.1⟩
def qq4:Cx:=⟨tab,arrs,[(143,zmv),(262,z7k)],[],gl,[]⟩
theorem qq5:FnOk gl Tryz.prog 220 z4a:=
 fo qq4 qq3 0 (oz ⟨zpy,qxt,trivial⟩ trivial) Tryz.func220 (by kernel_rfl) (by kernel_rfl) (by kernel_rfl)
  (ll 0 (by kernel_rfl) trivial) (λx=>by kernel_rfl)
def qjh:Plan:=⟨[],[],0,0⟩
def zpa (t0:PV .str)(t1:PV (.int .u8)):Option (PVs [(.int .i64)]×PVs []):=
 (zt3 t0 t1).bind λr1=>
   some ((r1.1.1,()),())
def zz4:Ct:=⟨[(.bor,.str),(.bor,(.int .u8))],[((.int .i64),.b)],λx=>zpa x.1 x.2.1⟩
def qji:Cx:=⟨tab,arrs,[(263,zzg)],[],gl,[]⟩
theorem qjj:FnOk gl Tryz.prog 221 zz4:=
 fo qji qjh 0 (oz ⟨qhl,trivial⟩ trivial) Tryz.func221 (by kernel_rfl) (by kernel_rfl) (by kernel_rfl)
  (ll 0 (by kernel_rfl) trivial) (λx=>by kernel_rfl)
def quc:Plan:=⟨[],[],0,0⟩
def zmr (t0:PV .str)(t1:PV .str):Option (PVs [.str]×PVs []):=
 bif decide ([64,64,32,45].length+t0.length<=1099511627776) then
  bif decide (([64,64,32,45]++t0).length+[32,43].length<=1099511627776) then
   bif decide ((([64,64,32,45]++t0)++[32,43]).length+t1.length<=1099511627776) then
    bif decide (((([64,64,32,45]++t0)++[32,43])++t1).length+[32,64,64,10].length<=1099511627776) then
     some (((((([64,64,32,45]++t0)++[32,43])++t1)++[32,64,64,10]),()),())
    else
     none
   else
    none
  else
   none
 else
  none
def z5r:Ct:=⟨[(.bor,.str),(.bor,.str)],[(.str,.b)],λx=>zmr x.1 x.2.1⟩
def qud:Cx:=⟨tab,arrs,[],[],gl,[]⟩
theorem que:FnOk gl Tryz.prog 190 z5r:=
 fo qud quc 0 (oz trivial trivial) Tryz.func190 (by kernel_rfl) (by kernel_rfl) (by kernel_rfl)
  (ll 0 (by kernel_rfl) trivial) (λx=>by kernel_rfl)
def quf:Plan:=⟨[],[],0,0⟩
def zh8 (t0:PV zo):Option (PVs [.str]×PVs []):=
 bif cutB t0.1 (IntKind.wrap .i64 (t0.1+1)) [63,32,45,43].length then
  some (((cutL t0.1 (IntKind.wrap .i64 (t0.1+1)) [63,32,45,43]),()),())
 else
  none
def zuy:Ct:=⟨[(.bor,zo)],[(.str,.b)],λx=>zh8 x.1⟩
def qug:Cx:=⟨tab,arrs,[],[],gl,[]⟩
theorem z4m:FnOk gl Tryz.prog 182 zuy:=
 fo qug quf 0 (oz trivial trivial) Tryz.func182 (by kernel_rfl) (by kernel_rfl) (by kernel_rfl)
  (ll 0 (by kernel_rfl) trivial) (λx=>by kernel_rfl)
def qo6:List Sh:=mkSh 21 [(3,.val .str .b),(6,.val zi .b),(7,.val (.int .i64) .b),(8,.val (.int .i64) .b)]
def qq6:List Out:=[⟨.exit 0,⟨[],[3],[]⟩,mkSh 21 [(3,.val .str .b)]⟩]
def zhv (t3:PV .str)(t6:PV zi)(t7:PV (.int .i64))(t8:PV (.int .i64)):Option ((PV .str×PV zi×PV (.int .i64)×PV (.int .i64)×Unit)⊕((PV .str×Unit))):=
 bif (decide (t8<t7)) then
  bif inB t8 t6.length then
   (zh8 (t6.getD t8.toNat (dflt zo))).bind λr3=>
     (zcs r3.1.1 (((t6.getD t8.toNat (dflt zo)).2).1)).bind λr4=>
       bif decide (t3.length+r4.1.1.length<=1099511627776) then
        some (.inl ((t3++r4.1.1),t6,t7,(IntKind.wrap .i64 (t8+1)),()))
       else
        none
  else
   none
 else
  some (.inr (t3,()))
def z2z:PV .str×PV zi×PV (.int .i64)×PV (.int .i64)×Unit->Option ((PV .str×Unit)):=fix λd=>zhv d.1 d.2.1 d.2.2.1 d.2.2.2.1
def z2v:Lp:=⟨⟨[],[3,6,7,8],[]⟩,qo6,qq6,λd=>zhv d.1 d.2.1 d.2.2.1 d.2.2.2.1⟩
def quh:Plan:=⟨[],[(3,z2v)],0,0⟩
def zms (t0:PV zi):Option (PVs [.str]×PVs []):=
 (z2z ([],t0,(t0.length:Int),0,())).bind λl6=>
   some ((l6.1,()),())
def z5s:Ct:=⟨[(.bor,zi)],[(.str,.b)],λx=>zms x.1⟩
def qui:Cx:=⟨tab,arrs,[(181,zre),(182,zuy)],[],gl,[]⟩
theorem quj:FnOk gl Tryz.prog 192 z5s:=
 fo qui quh 0 (oz ⟨zv9,z4m,trivial⟩ trivial) Tryz.func192 (by kernel_rfl) (by kernel_rfl) (by kernel_rfl)
  (ll 1 (by kernel_rfl) (lc z2v (by kernel_rfl) (λd=>by kernel_rfl) trivial)) (λx=>by kernel_rfl)
def qo7:List Out:=[⟨.normal,⟨[],[0,2,8,11,13,14,15,69,76,77,103,104,105,106,142,143],[]⟩,mkSh 145 [(0,.val zf .b),(2,.var zh (.pr .b (.pr .b (.pr (.row (.pr .b (.pr .b .b))) .b)))),(8,.val .str .b),(11,.val .str .b),(13,.var zh (.pr .b (.pr .b (.pr (.row (.pr .b (.pr .b .b))) .b)))),(14,.val (.int .i64) .b),(15,.val (.int .i64) .b),(69,.val .bool .b)]⟩]
def qmz:List Out:=[⟨.exit 0,⟨[],[0,2,8,11,13,14,15,142,143],[]⟩,mkSh 145 [(0,.val zf .b),(2,.var zh (.pr .b (.pr .b (.pr (.row (.pr .b (.pr .b .b))) .b)))),(8,.val .str .b),(11,.val .str .b),(13,.var zh (.pr .b (.pr .b (.pr (.row (.pr .b (.pr .b .b))) .b)))),(14,.val (.int .i64) .b),(15,.val (.int .i64) .b)]⟩,⟨.normal,⟨[],[0,2,8,11,13,14,15,103,104,105,106,142,143],[]⟩,mkSh 145 [(0,.val zf .b),(2,.var zh (.pr .b (.pr .b (.pr (.row (.pr .b (.pr .b .b))) .b)))),(8,.val .str .b),(11,.val .str .b),(13,.var zh (.pr .b (.pr .b (.pr (.row (.pr .b (.pr .b .b))) .b)))),(14,.val (.int .i64) .b),(15,.val (.int .i64) .b)]⟩]
def qm0:List Out:=[⟨.normal,⟨[],[0,2,8,11,13,14,15,18,76,77,107,142,143],[]⟩,mkSh 145 [(0,.val zf .b),(2,.var zh (.pr .b (.pr .b (.pr (.row (.pr .b (.pr .b .b))) .b)))),(8,.val .str .b),(11,.val .str .b),(13,.var zh (.pr .b (.pr .b (.pr (.row (.pr .b (.pr .b .b))) .b)))),(14,.val (.int .i64) .b),(15,.val (.int .i64) .b),(18,.var zo .b),(107,.val .bool .b)]⟩]
def qm1:List Out:=[⟨.normal,⟨[(18,.b)],[0,2,8,11,13,14,15,18,76,77,103,104,105,106,142,143],[]⟩,mkSh 145 [(0,.val zf .b),(2,.var zh (.pr .b (.pr .b (.pr (.row (.pr .b (.pr .b .b))) .b)))),(8,.val .str .b),(11,.val .str .b),(13,.var zh (.pr .b (.pr .b (.pr (.row (.pr .b (.pr .b .b))) .b)))),(14,.val (.int .i64) .b),(15,.val (.int .i64) .b),(18,.var zo .b)]⟩]
def qm2:List Out:=[⟨.normal,⟨[],[0,2,8,11,13,14,15,18,76,77,103,104,105,106,142,143],[]⟩,mkSh 145 [(0,.val zf .b),(2,.var zh (.pr .b (.pr .b (.pr (.row (.pr .b (.pr .b .b))) .b)))),(8,.val .str .b),(11,.val .str .b),(13,.var zh (.pr .b (.pr .b (.pr (.row (.pr .b (.pr .b .b))) .b)))),(14,.val (.int .i64) .b),(15,.val (.int .i64) .b),(18,.var zo .b)]⟩]
def qm3:List Out:=[⟨.normal,⟨[],[0,2,8,11,13,14,15,18,76,77,103,104,105,106,142,143],[]⟩,mkSh 145 [(0,.val zf .b),(2,.var zh (.pr .b (.pr .b (.pr (.row (.pr .b (.pr .b .b))) .b)))),(8,.val .str .b),(11,.val .str .b),(13,.var zh (.pr .b (.pr .b (.pr (.row (.pr .b (.pr .b .b))) .b)))),(14,.val (.int .i64) .b),(15,.val (.int .i64) .b),(18,.var zo .b)]⟩]
def qll:List Sh:=mkSh 145 [(0,.val zf .b),(2,.var zh (.pr .b (.pr .b (.pr (.row (.pr .b (.pr .b .b))) .b)))),(8,.val .str .b),(11,.val .str .b),(13,.var zh (.pr .b (.pr .b (.pr (.row (.pr .b (.pr .b .b))) .b)))),(14,.val (.int .i64) .b),(15,.val (.int .i64) .b)]
def qm4:List Out:=[⟨.exit 0,⟨[],[0,2,8,11,13,14,15,142,143],[]⟩,mkSh 145 [(0,.val zf .b),(2,.var zh (.pr .b (.pr .b (.pr (.row (.pr .b (.pr .b .b))) .b)))),(8,.val .str .b),(11,.val .str .b),(13,.var zh (.pr .b (.pr .b (.pr (.row (.pr .b (.pr .b .b))) .b)))),(14,.val (.int .i64) .b),(15,.val (.int .i64) .b)]⟩,⟨.ret,⟨[],[2,3,4,5],[]⟩,mkSh 145 [(2,.var zh (.pr .b (.pr .b (.pr (.row (.pr .b (.pr .b .b))) .b)))),(3,.val .str .b),(4,.val zf (.row .b)),(5,.val .bool .b)]⟩]
def zgg (t0:PV zf)(t2:PV zh)(t8:PV .str)(t11:PV .str)(t13:PV zh)(t14:PV (.int .i64))(t15:PV (.int .i64)):Option ((PV zf×PV zh×PV .str×PV .str×PV zh×PV (.int .i64)×PV (.int .i64)×Unit)⊕((PV zf×PV zh×PV .str×PV .str×PV zh×PV (.int .i64)×PV (.int .i64)×Unit)⊕(PV zh×PV .str×PV zf×PV .bool×Unit))):=
 ((
   bif (decide (t14>0)) then
    some (.inr (t0,t2,t8,t11,t13,t14,t15,()))
   else
    bif (decide (t15>0)) then
     some (.inr (t0,t2,t8,t11,t13,t14,t15,()))
    else
     some (.inl (t0,t2,t8,t11,t13,t14,t15,())):Option ((PV zf×PV zh×PV .str×PV .str×PV zh×PV (.int .i64)×PV (.int .i64)×Unit)⊕(PV zf×PV zh×PV .str×PV .str×PV zh×PV (.int .i64)×PV (.int .i64)×Unit)))).bind λx28=>
   match x28 with
   | .inl j13=>
     some (.inr (.inl (j13.1,j13.2.1,j13.2.2.1,j13.2.2.2.1,j13.2.2.2.2.1,j13.2.2.2.2.2.1,j13.2.2.2.2.2.2.1,())))
   | .inr j14=>
     bif ((j14.1.length:Int)==0) then
      some (.inr (.inr ((0,(0,(([]:PV zi),()))),[],[],false,())))
     else
      bif inB 0 j14.1.length then
       bif inB 0 (j14.1.getD ((0:Int).toNat) []).length then
        (zpa [63,32,45,43] (((j14.1.getD ((0:Int).toNat) []).getD (0:Int).toNat 0).toNat:Int)).bind λr16=>
          bif inB 0 j14.1.length then
           bif cutB 1 ((j14.1.getD ((0:Int).toNat) []).length:Int) (j14.1.getD ((0:Int).toNat) []).length then
            bif cutB 1 (j14.1.length:Int) j14.1.length then
             bif (decide (r16.1.1<1)) then
              some (.inr (.inr ((0,(0,(([]:PV zi),()))),[],[],false,())))
             else
              ((
                ((
                  bif (decide (((cutL 1 (j14.1.length:Int) j14.1).length:Int)>0)) then
                   bif inB 0 (cutL 1 (j14.1.length:Int) j14.1).length then
                    some ((cutL 1 (j14.1.length:Int) j14.1),j14.2.1,j14.2.2.1,j14.2.2.2.1,j14.2.2.2.2.1,j14.2.2.2.2.2.1,j14.2.2.2.2.2.2.1,(r16.1.1,((cutL 1 ((j14.1.getD ((0:Int).toNat) []).length:Int) (j14.1.getD ((0:Int).toNat) [])),())),(((cutL 1 (j14.1.length:Int) j14.1).getD ((0:Int).toNat) [])==[92,32,110,111,110,101,10]),())
                   else
                    none
                  else
                   some ((cutL 1 (j14.1.length:Int) j14.1),j14.2.1,j14.2.2.1,j14.2.2.2.1,j14.2.2.2.2.1,j14.2.2.2.2.2.1,j14.2.2.2.2.2.2.1,(r16.1.1,((cutL 1 ((j14.1.getD ((0:Int).toNat) []).length:Int) (j14.1.getD ((0:Int).toNat) [])),())),false,()):Option ((PV zf×PV zh×PV .str×PV .str×PV zh×PV (.int .i64)×PV (.int .i64)×PV zo×PV .bool×Unit)))).bind λj17=>
                  bif j17.2.2.2.2.2.2.2.2.1 then
                   (zf0 j17.2.2.2.2.2.2.2.1.2.1).bind λr18=>
                     bif cutB 1 (j17.1.length:Int) j17.1.length then
                      some ((cutL 1 (j17.1.length:Int) j17.1),j17.2.1,j17.2.2.1,j17.2.2.2.1,j17.2.2.2.2.1,j17.2.2.2.2.2.1,j17.2.2.2.2.2.2.1,(j17.2.2.2.2.2.2.2.1.1,(r18.1.1,j17.2.2.2.2.2.2.2.1.2.2)),())
                     else
                      none
                  else
                   some (j17.1,j17.2.1,j17.2.2.1,j17.2.2.2.1,j17.2.2.2.2.1,j17.2.2.2.2.2.1,j17.2.2.2.2.2.2.1,j17.2.2.2.2.2.2.2.1,()):Option ((PV zf×PV zh×PV .str×PV .str×PV zh×PV (.int .i64)×PV (.int .i64)×PV zo×Unit)))).bind λj19=>
                ((
                  bif (!(j19.2.2.2.2.2.2.2.1.1==3)) then
                   some (j19.1,j19.2.1,j19.2.2.1,j19.2.2.2.1,j19.2.2.2.2.1,(IntKind.wrap .i64 (j19.2.2.2.2.2.1 -1)),j19.2.2.2.2.2.2.1,j19.2.2.2.2.2.2.2.1,())
                  else
                   some (j19.1,j19.2.1,j19.2.2.1,j19.2.2.2.1,j19.2.2.2.2.1,j19.2.2.2.2.2.1,j19.2.2.2.2.2.2.1,j19.2.2.2.2.2.2.2.1,()):Option ((PV zf×PV zh×PV .str×PV .str×PV zh×PV (.int .i64)×PV (.int .i64)×PV zo×Unit)))).bind λj20=>
                  ((
                    bif (!(j20.2.2.2.2.2.2.2.1.1==2)) then
                     some (j20.1,j20.2.1,j20.2.2.1,j20.2.2.2.1,j20.2.2.2.2.1,j20.2.2.2.2.2.1,(IntKind.wrap .i64 (j20.2.2.2.2.2.2.1 -1)),j20.2.2.2.2.2.2.2.1,())
                    else
                     some (j20.1,j20.2.1,j20.2.2.1,j20.2.2.2.1,j20.2.2.2.2.1,j20.2.2.2.2.2.1,j20.2.2.2.2.2.2.1,j20.2.2.2.2.2.2.2.1,()):Option ((PV zf×PV zh×PV .str×PV .str×PV zh×PV (.int .i64)×PV (.int .i64)×PV zo×Unit)))).bind λj21=>
                    bif qw (j21.2.2.2.2.1.2.2.1.length+[j21.2.2.2.2.2.2.2.1].length) then
                     some (.inl (j21.1,j21.2.1,j21.2.2.1,j21.2.2.2.1,(j21.2.2.2.2.1.1,(j21.2.2.2.2.1.2.1,((j21.2.2.2.2.1.2.2.1++[j21.2.2.2.2.2.2.2.1]),j21.2.2.2.2.1.2.2.2))),j21.2.2.2.2.2.1,j21.2.2.2.2.2.2.1,()))
                    else
                     none
            else
             none
           else
            none
          else
           none
       else
        none
      else
       none
def zfa:PV zf×PV zh×PV .str×PV .str×PV zh×PV (.int .i64)×PV (.int .i64)×Unit->Option ((PV zf×PV zh×PV .str×PV .str×PV zh×PV (.int .i64)×PV (.int .i64)×Unit)⊕(PV zh×PV .str×PV zf×PV .bool×Unit)):=fix λd=>zgg d.1 d.2.1 d.2.2.1 d.2.2.2.1 d.2.2.2.2.1 d.2.2.2.2.2.1 d.2.2.2.2.2.2.1
def z1a:Lp:=⟨⟨[],[0,2,8,11,13,14,15,76,77,103,104,105,106,142,143],[]⟩,qll,qm4,λd=>zgg d.1 d.2.1 d.2.2.1 d.2.2.2.1 d.2.2.2.2.1 d.2.2.2.2.2.1 d.2.2.2.2.2.2.1⟩
def qq7:Plan:=⟨[(8,qo7),(11,qmz),(18,qm0),(19,qm1),(21,qm2),(23,qm3)],[(10,z1a)],0,0⟩
def zc7 (t0:PV zf):Option (PVs [zh,.str,zf,.bool]×PVs []):=
 bif inB 0 t0.length then
  (zl5 (t0.getD ((0:Int).toNat) []) [64,64,32,45]).bind λr2=>
    (zdu r2.1.1 [32,43]).bind λr4=>
      (zl6 r4.1.2.1 [32,64,64,10]).bind λr6=>
        (zml r4.1.1).bind λr8=>
          (zml r6.1.1).bind λr10=>
            ((
              bif (!r2.1.2.1) then
               some (t0,(0,(0,(([]:PV zi),()))),r4.1.1,r6.1.1,(r8.1.1,(r10.1.1,(([]:PV zi),()))),r8.1.2.1,r10.1.2.1,true,())
              else
               bif (!r4.1.2.2.1) then
                some (t0,(0,(0,(([]:PV zi),()))),r4.1.1,r6.1.1,(r8.1.1,(r10.1.1,(([]:PV zi),()))),r8.1.2.1,r10.1.2.1,true,())
               else
                bif (!r6.1.2.1) then
                 some (t0,(0,(0,(([]:PV zi),()))),r4.1.1,r6.1.1,(r8.1.1,(r10.1.1,(([]:PV zi),()))),r8.1.2.1,r10.1.2.1,true,())
                else
                 bif (!r8.1.2.2.1) then
                  some (t0,(0,(0,(([]:PV zi),()))),r4.1.1,r6.1.1,(r8.1.1,(r10.1.1,(([]:PV zi),()))),r8.1.2.1,r10.1.2.1,true,())
                 else
                  some (t0,(0,(0,(([]:PV zi),()))),r4.1.1,r6.1.1,(r8.1.1,(r10.1.1,(([]:PV zi),()))),r8.1.2.1,r10.1.2.1,(!r10.1.2.2.1),()):Option ((PV zf×PV zh×PV .str×PV .str×PV zh×PV (.int .i64)×PV (.int .i64)×PV .bool×Unit)))).bind λj12=>
              bif j12.2.2.2.2.2.2.2.1 then
               some (((0,(0,(([]:PV zi),()))),[],[],false,()),())
              else
               bif cutB 1 (j12.1.length:Int) j12.1.length then
                (zfa ((cutL 1 (j12.1.length:Int) j12.1),j12.2.1,j12.2.2.1,j12.2.2.2.1,j12.2.2.2.2.1,j12.2.2.2.2.2.1,j12.2.2.2.2.2.2.1,())).bind λx29=>
                  match x29 with
                  | .inl l24=>
                    (zmr l24.2.2.1 l24.2.2.2.1).bind λr25=>
                      (zms l24.2.2.2.2.1.2.2.1).bind λr26=>
                        bif decide (r25.1.1.length+r26.1.1.length<=1099511627776) then
                         bif (l24.2.2.2.2.2.1==0) then
                          some ((l24.2.2.2.2.1,(r25.1.1++r26.1.1),l24.1,(l24.2.2.2.2.2.2.1==0),()),())
                         else
                          some ((l24.2.2.2.2.1,(r25.1.1++r26.1.1),l24.1,false,()),())
                        else
                         none
                  | .inr l27=>
                    some ((l27.1,l27.2.1,l27.2.2.1,l27.2.2.2.1,()),())
               else
                none
 else
  none
def z4b:Ct:=⟨[(.bor,zf)],[(zh,(.pr .b (.pr .b (.pr (.row (.pr .b (.pr .b .b))) .b)))),(.str,.b),(zf,.b),(.bool,.b)],λx=>zc7 x.1⟩
def qq8:Cx:=⟨tab,arrs,[(141,zkm),(190,z5r),(192,z5s),(211,zuq),(218,zt6),(219,zt7),(220,z4a),(221,zz4)],[],gl,[]⟩
theorem qq9:FnOk gl Tryz.prog 149 z4b:=
 fo qq8 qq7 0 (oz ⟨znd,que,quj,z3u,zz2,zz3,qq5,qjj,trivial⟩ trivial) Tryz.func149 (by kernel_rfl) (by kernel_rfl) (by kernel_rfl)
  (ll 1 (by kernel_rfl) (lc z1a (by kernel_rfl) (λd=>by kernel_rfl) trivial)) (λx=>by kernel_rfl)
def qlm:List Out:=[⟨.normal,⟨[],[5,6,7,8,9,28],[]⟩,mkSh 39 [(5,.val zl (.row (.pr .b (.pr .b (.pr (.row (.pr .b (.pr .b .b))) .b))))),(6,.val .str .b),(7,.var zh (.pr .b (.pr .b (.pr (.row (.pr .b (.pr .b .b))) .b)))),(8,.val .str .b),(9,.val zf .b),(28,.val .bool .b)]⟩]
def qkk:List Sh:=mkSh 39 [(0,.val zf .b),(5,.val zl (.row (.pr .b (.pr .b (.pr (.row (.pr .b (.pr .b .b))) .b))))),(6,.val .str .b)]
def qln:List Out:=[⟨.exit 0,⟨[],[5,6],[]⟩,mkSh 39 [(5,.val zl (.row (.pr .b (.pr .b (.pr (.row (.pr .b (.pr .b .b))) .b))))),(6,.val .str .b)]⟩,⟨.ret,⟨[],[2,3,4],[]⟩,mkSh 39 [(2,.val zl (.row (.pr .b (.pr .b (.pr (.row (.pr .b (.pr .b .b))) .b))))),(3,.val .str .b),(4,.val .bool .b)]⟩]
def zgf (t0:PV zf)(t5:PV zl)(t6:PV .str):Option ((PV zf×PV zl×PV .str×Unit)⊕((PV zl×PV .str×Unit)⊕(PV zl×PV .str×PV .bool×Unit))):=
 bif (decide ((t0.length:Int)>0)) then
  (zc7 t0).bind λr2=>
    ((
      bif (!r2.1.2.2.2.1) then
       some (t5,t6,r2.1.1,r2.1.2.1,r2.1.2.2.1,true,())
      else
       some (t5,t6,r2.1.1,r2.1.2.1,r2.1.2.2.1,((t5.length:Int)==20),()):Option ((PV zl×PV .str×PV zh×PV .str×PV zf×PV .bool×Unit)))).bind λj4=>
      bif j4.2.2.2.2.2.1 then
       some (.inr (.inr ([],[],false,())))
      else
       bif qw (j4.1.length+[j4.2.2.1].length) then
        bif decide (j4.2.1.length+j4.2.2.2.1.length<=1099511627776) then
         some (.inl (j4.2.2.2.2.1,(j4.1++[j4.2.2.1]),(j4.2.1++j4.2.2.2.1),()))
        else
         none
       else
        none
 else
  some (.inr (.inl (t5,t6,())))
def zl8:PV zf×PV zl×PV .str×Unit->Option ((PV zl×PV .str×Unit)⊕(PV zl×PV .str×PV .bool×Unit)):=fix λd=>zgf d.1 d.2.1 d.2.2.1
def z0n:Lp:=⟨⟨[],[0,5,6,25,26,27],[]⟩,qkk,qln,λd=>zgf d.1 d.2.1 d.2.2.1⟩
def qm5:Plan:=⟨[(5,qlm)],[(2,z0n)],0,0⟩
def zuj (t0:PV zf):Option (PVs [zl,.str,.bool]×PVs []):=
 (zl8 (t0,([]:PV zl),[],())).bind λx9=>
   match x9 with
   | .inl l7=>
     some ((l7.1,l7.2.1,true,()),())
   | .inr l8=>
     some ((l8.1,l8.2.1,l8.2.2.1,()),())
def z1r:Ct:=⟨[(.bor,zf)],[(zl,(.row (.pr .b (.pr .b (.pr (.row (.pr .b (.pr .b .b))) .b))))),(.str,.b),(.bool,.b)],λx=>zuj x.1⟩
def qm6:Cx:=⟨tab,arrs,[(149,z4b)],[],gl,[]⟩
theorem qm7:FnOk gl Tryz.prog 85 z1r:=
 fo qm6 qm5 0 (oz ⟨qq9,trivial⟩ trivial) Tryz.func85 (by kernel_rfl) (by kernel_rfl) (by kernel_rfl)
  (ll 1 (by kernel_rfl) (lc z0n (by kernel_rfl) (λd=>by kernel_rfl) trivial)) (λx=>by kernel_rfl)
def qxu:List Out:=[⟨.normal,⟨[],[1,5,9,10,11],[]⟩,mkSh 26 [(1,.val (.int .i64) .b),(5,.val zf (.row .b)),(9,.val zi .b),(10,.val (.int .i64) .b),(11,.val (.int .i64) .b)]⟩]
def quk:List Sh:=mkSh 26 [(1,.val (.int .i64) .b),(5,.val zf (.row .b)),(9,.val zi .b),(10,.val (.int .i64) .b),(11,.val (.int .i64) .b)]
def qxv:List Out:=[⟨.exit 0,⟨[],[5],[]⟩,mkSh 26 [(5,.val zf (.row .b))]⟩]
def zh7 (t1:PV (.int .i64))(t5:PV zf)(t9:PV zi)(t10:PV (.int .i64))(t11:PV (.int .i64)):Option ((PV (.int .i64)×PV zf×PV zi×PV (.int .i64)×PV (.int .i64)×Unit)⊕((PV zf×Unit))):=
 bif (decide (t11<t10)) then
  ((
    bif inB t11 t9.length then
     bif (!(((t9.getD t11.toNat (dflt zo)).1)==t1)) then
      bif qw (t5.length+[((t9.getD t11.toNat (dflt zo)).2).1].length) then
       some (t1,(t5++[((t9.getD t11.toNat (dflt zo)).2).1]),t9,t10,t11,())
      else
       none
     else
      some (t1,t5,t9,t10,t11,())
    else
     none:Option ((PV (.int .i64)×PV zf×PV zi×PV (.int .i64)×PV (.int .i64)×Unit)))).bind λj1=>
    some (.inl (j1.1,j1.2.1,j1.2.2.1,j1.2.2.2.1,(IntKind.wrap .i64 (j1.2.2.2.2.1+1)),()))
 else
  some (.inr (t5,()))
def z6k:PV (.int .i64)×PV zf×PV zi×PV (.int .i64)×PV (.int .i64)×Unit->Option ((PV zf×Unit)):=fix λd=>zh7 d.1 d.2.1 d.2.2.1 d.2.2.2.1 d.2.2.2.2.1
def z5t:Lp:=⟨⟨[],[1,5,9,10,11],[]⟩,quk,qxv,λd=>zh7 d.1 d.2.1 d.2.2.1 d.2.2.2.1 d.2.2.2.2.1⟩
def q2j:Plan:=⟨[(7,qxu)],[(3,z5t)],0,0⟩
def zm5 (t0:PV zi)(t1:PV (.int .i64)):Option (PVs [zf]×PVs []):=
 (z6k (t1,([]:PV zf),t0,(t0.length:Int),0,())).bind λl3=>
   some ((l3.1,()),())
def zvw:Ct:=⟨[(.bor,zi),(.bor,(.int .i64))],[(zf,(.row .b))],λx=>zm5 x.1 x.2.1⟩
def q2k:Cx:=⟨tab,arrs,[],[],gl,[]⟩
theorem z9j:FnOk gl Tryz.prog 222 zvw:=
 fo q2k q2j 0 (oz trivial trivial) Tryz.func222 (by kernel_rfl) (by kernel_rfl) (by kernel_rfl)
  (ll 1 (by kernel_rfl) (lc z5t (by kernel_rfl) (λd=>by kernel_rfl) trivial)) (λx=>by kernel_rfl)
def qra:Plan:=⟨[],[],0,0⟩
def zhz (t0:PV zh):Option (PVs [zf]×PVs []):=
 (zm5 t0.2.2.1 3).bind λr1=>
   some ((r1.1.1,()),())
def zpm:Ct:=⟨[(.bor,zh)],[(zf,(.row .b))],λx=>zhz x.1⟩
def qrb:Cx:=⟨tab,arrs,[(222,zvw)],[],gl,[]⟩
theorem zuo:FnOk gl Tryz.prog 150 zpm:=
 fo qrb qra 0 (oz ⟨z9j,trivial⟩ trivial) Tryz.func150 (by kernel_rfl) (by kernel_rfl) (by kernel_rfl)
  (ll 0 (by kernel_rfl) trivial) (λx=>by kernel_rfl)
def qm8:Plan:=⟨[],[],0,0⟩
def zhp (t0:PV zh):Option (PVs [zf]×PVs []):=
 (zm5 t0.2.2.1 2).bind λr1=>
   some ((r1.1.1,()),())
def zpe:Ct:=⟨[(.bor,zh)],[(zf,(.row .b))],λx=>zhp x.1⟩
def qm9:Cx:=⟨tab,arrs,[(222,zvw)],[],gl,[]⟩
theorem zui:FnOk gl Tryz.prog 151 zpe:=
 fo qm9 qm8 0 (oz ⟨z9j,trivial⟩ trivial) Tryz.func151 (by kernel_rfl) (by kernel_rfl) (by kernel_rfl)
  (ll 0 (by kernel_rfl) trivial) (λx=>by kernel_rfl)
def qo8:List Out:=[⟨.normal,⟨[],[1,24,38,39,40,41,44,45,46,47,48,49,50,51,52,53,54,55,56,57,58,59,60,64,65,66,75,76,79,80,83,84,85,86,87,88,91,92,93,94,95,96],[]⟩,mkSh 98 [(1,.var zh .b),(24,.val .bool .b)]⟩]
def qo9:List Out:=[⟨.normal,⟨[],[1,3,5,26,27,28,61,64,65,66,75,76,79,80,83,84,85,86,87,88,91,92,93,94,95,96],[]⟩,mkSh 98 [(1,.var zh .b),(3,.val .bool .b),(5,.var zo .b),(26,.val zi .b),(27,.val (.int .i64) .b),(28,.val (.int .i64) .b),(61,.val .bool .b)]⟩]
def qna:List Out:=[⟨.normal,⟨[],[1,3,5,26,27,28,38,39,40,41,44,45,46,47,48,49,50,51,52,53,54,55,56,57,58,59,60,75,76,79,80,83,84,85,86,87,88,91,92,93,94,95,96],[]⟩,mkSh 98 [(1,.var zh .b),(3,.val .bool .b),(5,.var zo .b),(26,.val zi .b),(27,.val (.int .i64) .b),(28,.val (.int .i64) .b)]⟩,⟨.ret,⟨[],[2],[]⟩,mkSh 98 [(2,.val .bool .b)]⟩]
def qnb:List Sh:=mkSh 98 [(1,.var zh .b),(3,.val .bool .b),(26,.val zi .b),(27,.val (.int .i64) .b),(28,.val (.int .i64) .b)]
def qpa:List Out:=[⟨.exit 0,⟨[],[1,3,75,76,79,80,83,84,85,86,87,88,91,92,93,94,95,96],[]⟩,mkSh 98 [(1,.var zh .b),(3,.val .bool .b)]⟩,⟨.ret,⟨[],[2],[]⟩,mkSh 98 [(2,.val .bool .b)]⟩]
def zfe (t1:PV zh)(t3:PV .bool)(t26:PV zi)(t27:PV (.int .i64))(t28:PV (.int .i64)):Option ((PV zh×PV .bool×PV zi×PV (.int .i64)×PV (.int .i64)×Unit)⊕((PV zh×PV .bool×Unit)⊕(PV .bool×Unit))):=
 bif (decide (t28<t27)) then
  ((
    bif inB t28 t26.length then
     ((
       (zcd ((t26.getD t28.toNat (dflt zo)).1) 1 3).bind λr15=>
         bif (!r15.1.1) then
          some (t1,t3,(t26.getD t28.toNat (dflt zo)),t26,t27,t28,true,())
         else
          (zke (((t26.getD t28.toNat (dflt zo)).2).1)).bind λr16=>
            bif (!r16.1.1) then
             some (t1,t3,(t26.getD t28.toNat (dflt zo)),t26,t27,t28,true,())
            else
             bif (decide (t28>0)) then
              bif (((t26.getD t28.toNat (dflt zo)).1)==2) then
               bif inB (IntKind.wrap .i64 (t28 -1)) t1.2.2.1.length then
                some (t1,t3,(t26.getD t28.toNat (dflt zo)),t26,t27,t28,(((t1.2.2.1.getD ((IntKind.wrap .i64 (t28 -1)).toNat) (dflt zo)).1)==3),())
               else
                none
              else
               some (t1,t3,(t26.getD t28.toNat (dflt zo)),t26,t27,t28,false,())
             else
              some (t1,t3,(t26.getD t28.toNat (dflt zo)),t26,t27,t28,false,()):Option ((PV zh×PV .bool×PV zo×PV zi×PV (.int .i64)×PV (.int .i64)×PV .bool×Unit)))).bind λj17=>
       bif j17.2.2.2.2.2.2.1 then
        some (.inr (false,()))
       else
        bif j17.2.1 then
         some (.inl (j17.1,true,j17.2.2.1,j17.2.2.2.1,j17.2.2.2.2.1,j17.2.2.2.2.2.1,()))
        else
         some (.inl (j17.1,(!(j17.2.2.1.1==1)),j17.2.2.1,j17.2.2.2.1,j17.2.2.2.2.1,j17.2.2.2.2.2.1,()))
    else
     none:Option ((PV zh×PV .bool×PV zo×PV zi×PV (.int .i64)×PV (.int .i64)×Unit)⊕(PV .bool×Unit)))).bind λx30=>
    match x30 with
    | .inl j18=>
      some (.inl (j18.1,j18.2.1,j18.2.2.2.1,j18.2.2.2.2.1,(IntKind.wrap .i64 (j18.2.2.2.2.2.1+1)),()))
    | .inr j19=>
      some (.inr (.inr (j19.1,())))
 else
  some (.inr (.inl (t1,t3,())))
def z1z:PV zh×PV .bool×PV zi×PV (.int .i64)×PV (.int .i64)×Unit->Option ((PV zh×PV .bool×Unit)⊕(PV .bool×Unit)):=fix λd=>zfe d.1 d.2.1 d.2.2.1 d.2.2.2.1 d.2.2.2.2.1
def z1s:Lp:=⟨⟨[],[1,3,26,27,28,38,39,40,41,44,45,46,47,48,49,50,51,52,53,54,55,56,57,58,59,60,64,65,66,75,76,79,80,83,84,85,86,87,88,91,92,93,94,95,96],[]⟩,qnb,qpa,λd=>zfe d.1 d.2.1 d.2.2.1 d.2.2.2.1 d.2.2.2.2.1⟩
def qrc:Plan:=⟨[(2,qo8),(8,qo9),(10,qna)],[(5,z1s)],0,0⟩
def zpn (t0:PV zh):Option (PVs [.bool]×PVs []):=
 ((
   (zcd t0.1 0 999).bind λr8=>
     bif (!r8.1.1) then
      some (t0,true,())
     else
      (zcd t0.2.1 0 999).bind λr9=>
        bif (!r9.1.1) then
         some (t0,true,())
        else
         (zcd (t0.2.2.1.length:Int) 1 80).bind λr10=>
           some (t0,(!r10.1.1),()):Option ((PV zh×PV .bool×Unit)))).bind λj11=>
   bif j11.2.1 then
    some ((false,()),())
   else
    (z1z (j11.1,false,j11.1.2.2.1,(j11.1.2.2.1.length:Int),0,())).bind λx31=>
      match x31 with
      | .inl l22=>
        (zhz l22.1).bind λr25=>
          (zhp l22.1).bind λr26=>
            bif l22.2.1 then
             (zjw r25.1.1).bind λr27=>
               bif r27.1.1 then
                (zjw r26.1.1).bind λr28=>
                  bif r28.1.1 then
                   bif (decide ((IntKind.wrap .i64 (l22.1.1+(r25.1.1.length:Int)))<=1000)) then
                    some (((decide ((IntKind.wrap .i64 (l22.1.2.1+(r26.1.1.length:Int)))<=1000)),()),())
                   else
                    some ((false,()),())
                  else
                   some ((false,()),())
               else
                some ((false,()),())
            else
             some ((false,()),())
      | .inr l29=>
        some ((l29.1,()),())
def z4c:Ct:=⟨[(.bor,zh)],[(.bool,.b)],λx=>zpn x.1⟩
def qrd:Cx:=⟨tab,arrs,[(88,zur),(131,zlj),(150,zpm),(151,zpe),(179,zqi)],[],gl,[]⟩
theorem qre:FnOk gl Tryz.prog 106 z4c:=
 fo qrd qrc 0 (oz ⟨z3x,zoi,zuo,zui,zvr,trivial⟩ trivial) Tryz.func106 (by kernel_rfl) (by kernel_rfl) (by kernel_rfl)
  (ll 1 (by kernel_rfl) (lc z1s (by kernel_rfl) (λd=>by kernel_rfl) trivial)) (λx=>by kernel_rfl)
def qnc:List Out:=[⟨.normal,⟨[],[0,4,8,9,10,57],[]⟩,mkSh 59 [(0,.val zl .b),(4,.var zh .b),(8,.val zl .b),(9,.val (.int .i64) .b),(10,.val (.int .i64) .b),(57,.val .bool .b)]⟩]
def qlo:List Sh:=mkSh 59 [(0,.val zl .b),(8,.val zl .b),(9,.val (.int .i64) .b),(10,.val (.int .i64) .b)]
def qnd:List Out:=[⟨.exit 0,⟨[],[],[]⟩,mkSh 59 []⟩,⟨.ret,⟨[],[2],[]⟩,mkSh 59 [(2,.val .bool .b)]⟩]
def ze9 (t0:PV zl)(t8:PV zl)(t9:PV (.int .i64))(t10:PV (.int .i64)):Option ((PV zl×PV zl×PV (.int .i64)×PV (.int .i64)×Unit)⊕((Unit)⊕(PV .bool×Unit))):=
 bif (decide (t10<t9)) then
  bif inB t10 t8.length then
   (zpn (t8.getD t10.toNat (dflt zh))).bind λr11=>
     bif (!r11.1.1) then
      some (.inr (.inr (false,())))
     else
      ((
        bif (decide (t10>0)) then
         bif inB (IntKind.wrap .i64 (t10 -1)) t0.length then
          bif inB (IntKind.wrap .i64 (t10 -1)) t0.length then
           (zhz (t0.getD ((IntKind.wrap .i64 (t10 -1)).toNat) (dflt zh))).bind λr12=>
             bif (decide (((t8.getD t10.toNat (dflt zh)).1)<(IntKind.wrap .i64 (((t0.getD ((IntKind.wrap .i64 (t10 -1)).toNat) (dflt zh)).1)+(r12.1.1.length:Int))))) then
              some (t0,(t8.getD t10.toNat (dflt zh)),t8,t9,t10,true,())
             else
              bif inB (IntKind.wrap .i64 (t10 -1)) t0.length then
               bif inB (IntKind.wrap .i64 (t10 -1)) t0.length then
                (zhp (t0.getD ((IntKind.wrap .i64 (t10 -1)).toNat) (dflt zh))).bind λr13=>
                  some (t0,(t8.getD t10.toNat (dflt zh)),t8,t9,t10,(decide ((((t8.getD t10.toNat (dflt zh)).2).1)<(IntKind.wrap .i64 ((((t0.getD ((IntKind.wrap .i64 (t10 -1)).toNat) (dflt zh)).2).1)+(r13.1.1.length:Int))))),())
               else
                none
              else
               none
          else
           none
         else
          none
        else
         some (t0,(t8.getD t10.toNat (dflt zh)),t8,t9,t10,false,()):Option ((PV zl×PV zh×PV zl×PV (.int .i64)×PV (.int .i64)×PV .bool×Unit)))).bind λj14=>
        bif j14.2.2.2.2.2.1 then
         some (.inr (.inr (false,())))
        else
         some (.inl (j14.1,j14.2.2.1,j14.2.2.2.1,(IntKind.wrap .i64 (j14.2.2.2.2.1+1)),()))
  else
   none
 else
  some (.inr (.inl ()))
def z1c:PV zl×PV zl×PV (.int .i64)×PV (.int .i64)×Unit->Option ((Unit)⊕(PV .bool×Unit)):=fix λd=>ze9 d.1 d.2.1 d.2.2.1 d.2.2.2.1
def z1b:Lp:=⟨⟨[],[0,8,9,10,21,22,23,24,25,26,27,28,29,30,31,32,33,34,35,36,37,38,39,40,41,42,43,44,45,46,47,48,49,50,51,52,53,54,55,56],[]⟩,qlo,qnd,λd=>ze9 d.1 d.2.1 d.2.2.1 d.2.2.2.1⟩
def qpb:Plan:=⟨[(9,qnc)],[(4,z1b)],0,0⟩
def zmd (t0:PV zl):Option (PVs [.bool]×PVs []):=
 bif (decide ((t0.length:Int)>20)) then
  some ((false,()),())
 else
  (z1c (t0,t0,(t0.length:Int),0,())).bind λx19=>
    match x19 with
    | .inl l17=>
      some ((true,()),())
    | .inr l18=>
      some ((l18.1,()),())
def zul:Ct:=⟨[(.bor,zl)],[(.bool,.b)],λx=>zmd x.1⟩
def qpc:Cx:=⟨tab,arrs,[(106,z4c),(150,zpm),(151,zpe)],[],gl,[]⟩
theorem z2e:FnOk gl Tryz.prog 86 zul:=
 fo qpc qpb 0 (oz ⟨qre,zuo,zui,trivial⟩ trivial) Tryz.func86 (by kernel_rfl) (by kernel_rfl) (by kernel_rfl)
  (ll 1 (by kernel_rfl) (lc z1b (by kernel_rfl) (λd=>by kernel_rfl) trivial)) (λx=>by kernel_rfl)
def qlp:List Out:=[⟨.normal,⟨[],[5,27],[]⟩,mkSh 29 [(5,.val zl (.row (.pr .b (.pr .b (.pr (.row (.pr .b (.pr .b .b))) .b))))),(27,.val .bool .b)]⟩]
def qlq:List Out:=[⟨.normal,⟨[],[],[]⟩,mkSh 29 []⟩,⟨.ret,⟨[],[2,3,4],[]⟩,mkSh 29 [(2,.val zl (.row (.pr .b (.pr .b (.pr (.row (.pr .b (.pr .b .b))) .b))))),(3,.val (.int .i64) .b),(4,.val .bool .b)]⟩]
def qne:Plan:=⟨[(4,qlp),(5,qlq)],[],0,0⟩
def zmb (t0:PV .str):Option (PVs [zl,(.int .i64),.bool]×PVs []):=
 ((
   bif (decide ((t0.length:Int)<=3000)) then
    (zin t0).bind λr10=>
      (zuj r10.1.1).bind λr11=>
        ((
          bif r11.1.2.2.1 then
           bif (r11.1.2.1==t0) then
            (zmd r11.1.1).bind λr12=>
              some (r11.1.1,r12.1.1,())
           else
            some (r11.1.1,false,())
          else
           some (r11.1.1,false,()):Option ((PV zl×PV .bool×Unit)))).bind λj13=>
          bif j13.2.1 then
           some (.inr (j13.1,0,true,()))
          else
           some (.inl ())
   else
    some (.inl ()):Option ((Unit)⊕(PV zl×PV (.int .i64)×PV .bool×Unit)))).bind λx16=>
   match x16 with
   | .inl j14=>
     some (([],1,false,()),())
   | .inr j15=>
     some ((j15.1,j15.2.1,j15.2.2.1,()),())
def z1h:Ct:=⟨[(.bor,.str)],[(zl,(.row (.pr .b (.pr .b (.pr (.row (.pr .b (.pr .b .b))) .b))))),((.int .i64),.b),(.bool,.b)],λx=>zmb x.1⟩
def qnf:Cx:=⟨tab,arrs,[(75,zmu),(85,z1r),(86,zul)],[],gl,[]⟩
theorem ql8:FnOk gl Tryz.prog 36 z1h:=
 fo qnf qne 0 (oz ⟨zpx,qm7,z2e,trivial⟩ trivial) Tryz.func36 (by kernel_rfl) (by kernel_rfl) (by kernel_rfl)
  (ll 0 (by kernel_rfl) trivial) (λx=>by kernel_rfl)
def qrf:List Out:=[⟨.normal,⟨[],[7,8,35],[]⟩,mkSh 38 [(7,.val (.int .i64) .b),(8,.val (.int .i64) .b),(35,.val .bool .b)]⟩]
def qul:Plan:=⟨[(3,qrf)],[],0,0⟩
def zu7 (t0:PV .str)(t1:PV (.int .i64)):Option (PVs [(.int .i64),(.int .i64),.bool]×PVs []):=
 (zef t0).bind λr2=>
   ((
     bif (!r2.1.2.2.2.1) then
      some (r2.1.1,r2.1.2.1,true,())
     else
      bif (decide ((bif decide (r2.1.2.1>r2.1.1) then r2.1.2.1 else r2.1.1)>1000)) then
       some (r2.1.1,r2.1.2.1,true,())
      else
       bif r2.1.2.2.1 then
        some (r2.1.1,r2.1.2.1,(decide (r2.1.1>(IntKind.wrap .i64 (r2.1.2.1+t1)))),())
       else
        some (r2.1.1,r2.1.2.1,false,()):Option ((PV (.int .i64)×PV (.int .i64)×PV .bool×Unit)))).bind λj4=>
     bif j4.2.2.1 then
      some ((0,0,false,()),())
     else
      some ((j4.1,j4.2.1,true,()),())
def z5u:Ct:=⟨[(.bor,.str),(.bor,(.int .i64))],[((.int .i64),.b),((.int .i64),.b),(.bool,.b)],λx=>zu7 x.1 x.2.1⟩
def qum:Cx:=⟨tab,arrs,[(143,zmv)],[],gl,[]⟩
theorem qun:FnOk gl Tryz.prog 267 z5u:=
 fo qum qul 0 (oz ⟨zpy,trivial⟩ trivial) Tryz.func267 (by kernel_rfl) (by kernel_rfl) (by kernel_rfl)
  (ll 0 (by kernel_rfl) trivial) (λx=>by kernel_rfl)
def qxw:Plan:=⟨[],[],0,0⟩
def zqb (t0:PV .str):Option (PVs [(.int .i64),(.int .i64),.bool]×PVs []):=
 (zu7 t0 1).bind λr1=>
   some ((r1.1.1,r1.1.2.1,r1.1.2.2.1,()),())
def z7l:Ct:=⟨[(.bor,.str)],[((.int .i64),.b),((.int .i64),.b),(.bool,.b)],λx=>zqb x.1⟩
def qxx:Cx:=⟨tab,arrs,[(267,z5u)],[],gl,[]⟩
theorem qxy:FnOk gl Tryz.prog 232 z7l:=
 fo qxx qxw 0 (oz ⟨qun,trivial⟩ trivial) Tryz.func232 (by kernel_rfl) (by kernel_rfl) (by kernel_rfl)
  (ll 0 (by kernel_rfl) trivial) (λx=>by kernel_rfl)
def qup:Plan:=⟨[],[],0,0⟩
def zj3 (t0:PV zf)(t1:PV .str)(t2:PV .str):Option (PVs [(.int .i64),zf,.bool]×PVs []):=
 bif ((t0.length:Int)==0) then
  some ((0,[],false,()),())
 else
  bif inB 0 t0.length then
   (zl5 (t0.getD ((0:Int).toNat) []) t1).bind λr2=>
     (zl6 r2.1.1 t2).bind λr4=>
       (zqb r4.1.1).bind λr6=>
         bif cutB 1 (t0.length:Int) t0.length then
          bif r2.1.2.1 then
           bif r4.1.2.1 then
            some ((r6.1.1,(cutL 1 (t0.length:Int) t0),r6.1.2.2.1,()),())
           else
            some ((r6.1.1,(cutL 1 (t0.length:Int) t0),false,()),())
          else
           some ((r6.1.1,(cutL 1 (t0.length:Int) t0),false,()),())
         else
          none
  else
   none
def z5v:Ct:=⟨[(.bor,zf),(.bor,.str),(.bor,.str)],[((.int .i64),.b),(zf,.b),(.bool,.b)],λx=>zj3 x.1 x.2.1 x.2.2.1⟩
def quq:Cx:=⟨tab,arrs,[(218,zt6),(219,zt7),(232,z7l)],[],gl,[]⟩
theorem qur:FnOk gl Tryz.prog 170 z5v:=
 fo quq qup 0 (oz ⟨zz2,zz3,qxy,trivial⟩ trivial) Tryz.func170 (by kernel_rfl) (by kernel_rfl) (by kernel_rfl)
  (ll 0 (by kernel_rfl) trivial) (λx=>by kernel_rfl)
def qrg:List Out:=[⟨.normal,⟨[(9,.b)],[0,1,2,8,9,15,16,17,18,19,22,23,24,25,26,29,30,31,32,33,34,35,55,56,57,58],[]⟩,mkSh 72 [(0,.val zf .b),(1,.val .str .b),(2,.val (.int .i64) .b),(8,.val zi (.row (.pr .b (.pr .b .b)))),(9,.var zo .b),(15,.val zf .b),(16,.bad .str),(17,.val .str .b),(18,.val (.int .i64) .b),(19,.val .bool .b),(22,.val zf .b),(23,.bad .str),(24,.val .str .b),(25,.val (.int .u8) .b),(26,.val .bool .b),(29,.val .str .b),(30,.val .str .b),(31,.val zf .b),(32,.bad .str),(33,.val .str .b),(34,.val .str .b),(35,.val .bool .b)]⟩]
def qrh:List Out:=[⟨.normal,⟨[],[0,1,2,8,9,15,16,17,18,19,22,23,24,25,26,29,30,31,32,33,34,35,59],[]⟩,mkSh 72 [(0,.val zf .b),(1,.val .str .b),(2,.val (.int .i64) .b),(8,.val zi (.row (.pr .b (.pr .b .b)))),(9,.var zo .b),(15,.val zf .b),(16,.bad .str),(17,.val .str .b),(18,.val (.int .i64) .b),(19,.val .bool .b),(22,.val zf .b),(23,.bad .str),(24,.val .str .b),(25,.val (.int .u8) .b),(26,.val .bool .b),(29,.val .str .b),(30,.val .str .b),(31,.val zf .b),(32,.bad .str),(33,.val .str .b),(34,.val .str .b),(35,.val .bool .b),(59,.val .bool .b)]⟩]
def qri:List Out:=[⟨.normal,⟨[(9,.b)],[0,1,2,8,9,15,16,17,18,19,22,23,24,25,26,29,30,31,32,33,34,35,55,56,57,58],[]⟩,mkSh 72 [(0,.val zf .b),(1,.val .str .b),(2,.val (.int .i64) .b),(8,.val zi (.row (.pr .b (.pr .b .b)))),(9,.var zo .b),(15,.val zf .b),(16,.bad .str),(17,.val .str .b),(18,.val (.int .i64) .b),(19,.val .bool .b),(22,.val zf .b),(23,.bad .str),(24,.val .str .b),(25,.val (.int .u8) .b),(26,.val .bool .b),(29,.val .str .b),(30,.val .str .b),(31,.val zf .b),(32,.bad .str),(33,.val .str .b),(34,.val .str .b),(35,.val .bool .b)]⟩]
def qpd:List Sh:=mkSh 72 [(0,.val zf .b),(1,.val .str .b),(2,.val (.int .i64) .b),(8,.val zi (.row (.pr .b (.pr .b .b))))]
def qrj:List Out:=[⟨.exit 0,⟨[],[0,8],[]⟩,mkSh 72 [(0,.val zf .b),(8,.val zi (.row (.pr .b (.pr .b .b))))]⟩]
def zhu (t0:PV zf)(t1:PV .str)(t2:PV (.int .i64))(t8:PV zi):Option ((PV zf×PV .str×PV (.int .i64)×PV zi×Unit)⊕((PV zf×PV zi×Unit))):=
 bif (decide ((t0.length:Int)>0)) then
  bif inB 0 t0.length then
   bif (decide (((t0.getD ((0:Int).toNat) []).length:Int)>1)) then
    bif inB 0 t0.length then
     bif inB 1 (t0.getD ((0:Int).toNat) []).length then
      bif ((((t0.getD ((0:Int).toNat) []).getD (1:Int).toNat 0).toNat:Int)==32) then
       bif decide ([32,33].length+t1.length<=1099511627776) then
        bif inB 0 t0.length then
         bif cutB 0 1 (t0.getD ((0:Int).toNat) []).length then
          (zl7 ([32,33]++t1) (cutL 0 1 (t0.getD ((0:Int).toNat) []))).bind λr10=>
            bif r10.1.1 then
             bif inB 0 t0.length then
              bif cutB 2 ((t0.getD ((0:Int).toNat) []).length:Int) (t0.getD ((0:Int).toNat) []).length then
               ((
                 bif inB 0 t0.length then
                  bif inB 0 (t0.getD ((0:Int).toNat) []).length then
                   bif ((((t0.getD ((0:Int).toNat) []).getD (0:Int).toNat 0).toNat:Int)==32) then
                    some (t0,t1,t2,t8,(1,((cutL 2 ((t0.getD ((0:Int).toNat) []).length:Int) (t0.getD ((0:Int).toNat) [])),())),t0,(t0.getD ((0:Int).toNat) []),(t0.getD ((0:Int).toNat) []),((t0.getD ((0:Int).toNat) []).length:Int),(decide (((t0.getD ((0:Int).toNat) []).length:Int)>1)),t0,(t0.getD ((0:Int).toNat) []),(t0.getD ((0:Int).toNat) []),(((t0.getD ((0:Int).toNat) []).getD (1:Int).toNat 0).toNat:Int),((((t0.getD ((0:Int).toNat) []).getD (1:Int).toNat 0).toNat:Int)==32),t1,([32,33]++t1),t0,(t0.getD ((0:Int).toNat) []),(t0.getD ((0:Int).toNat) []),(cutL 0 1 (t0.getD ((0:Int).toNat) [])),r10.1.1,())
                   else
                    some (t0,t1,t2,t8,(t2,((cutL 2 ((t0.getD ((0:Int).toNat) []).length:Int) (t0.getD ((0:Int).toNat) [])),())),t0,(t0.getD ((0:Int).toNat) []),(t0.getD ((0:Int).toNat) []),((t0.getD ((0:Int).toNat) []).length:Int),(decide (((t0.getD ((0:Int).toNat) []).length:Int)>1)),t0,(t0.getD ((0:Int).toNat) []),(t0.getD ((0:Int).toNat) []),(((t0.getD ((0:Int).toNat) []).getD (1:Int).toNat 0).toNat:Int),((((t0.getD ((0:Int).toNat) []).getD (1:Int).toNat 0).toNat:Int)==32),t1,([32,33]++t1),t0,(t0.getD ((0:Int).toNat) []),(t0.getD ((0:Int).toNat) []),(cutL 0 1 (t0.getD ((0:Int).toNat) [])),r10.1.1,())
                  else
                   none
                 else
                  none:Option ((PV zf×PV .str×PV (.int .i64)×PV zi×PV zo×PV zf×PV .str×PV .str×PV (.int .i64)×PV .bool×PV zf×PV .str×PV .str×PV (.int .u8)×PV .bool×PV .str×PV .str×PV zf×PV .str×PV .str×PV .str×PV .bool×Unit)))).bind λj11=>
                 bif cutB 1 (j11.1.length:Int) j11.1.length then
                  ((
                    ((
                      bif (decide (((cutL 1 (j11.1.length:Int) j11.1).length:Int)>0)) then
                       bif inB 0 (cutL 1 (j11.1.length:Int) j11.1).length then
                        some ((cutL 1 (j11.1.length:Int) j11.1),j11.2.1,j11.2.2.1,j11.2.2.2.1,j11.2.2.2.2.1,j11.2.2.2.2.2.1,j11.2.2.2.2.2.2.1,j11.2.2.2.2.2.2.2.1,j11.2.2.2.2.2.2.2.2.1,j11.2.2.2.2.2.2.2.2.2.1,j11.2.2.2.2.2.2.2.2.2.2.1,j11.2.2.2.2.2.2.2.2.2.2.2.1,j11.2.2.2.2.2.2.2.2.2.2.2.2.1,j11.2.2.2.2.2.2.2.2.2.2.2.2.2.1,j11.2.2.2.2.2.2.2.2.2.2.2.2.2.2.1,j11.2.2.2.2.2.2.2.2.2.2.2.2.2.2.2.1,j11.2.2.2.2.2.2.2.2.2.2.2.2.2.2.2.2.1,j11.2.2.2.2.2.2.2.2.2.2.2.2.2.2.2.2.2.1,j11.2.2.2.2.2.2.2.2.2.2.2.2.2.2.2.2.2.2.1,j11.2.2.2.2.2.2.2.2.2.2.2.2.2.2.2.2.2.2.2.1,j11.2.2.2.2.2.2.2.2.2.2.2.2.2.2.2.2.2.2.2.2.1,j11.2.2.2.2.2.2.2.2.2.2.2.2.2.2.2.2.2.2.2.2.2.1,(((cutL 1 (j11.1.length:Int) j11.1).getD ((0:Int).toNat) [])==[92,32,110,111,110,101,10]),())
                       else
                        none
                      else
                       some ((cutL 1 (j11.1.length:Int) j11.1),j11.2.1,j11.2.2.1,j11.2.2.2.1,j11.2.2.2.2.1,j11.2.2.2.2.2.1,j11.2.2.2.2.2.2.1,j11.2.2.2.2.2.2.2.1,j11.2.2.2.2.2.2.2.2.1,j11.2.2.2.2.2.2.2.2.2.1,j11.2.2.2.2.2.2.2.2.2.2.1,j11.2.2.2.2.2.2.2.2.2.2.2.1,j11.2.2.2.2.2.2.2.2.2.2.2.2.1,j11.2.2.2.2.2.2.2.2.2.2.2.2.2.1,j11.2.2.2.2.2.2.2.2.2.2.2.2.2.2.1,j11.2.2.2.2.2.2.2.2.2.2.2.2.2.2.2.1,j11.2.2.2.2.2.2.2.2.2.2.2.2.2.2.2.2.1,j11.2.2.2.2.2.2.2.2.2.2.2.2.2.2.2.2.2.1,j11.2.2.2.2.2.2.2.2.2.2.2.2.2.2.2.2.2.2.1,j11.2.2.2.2.2.2.2.2.2.2.2.2.2.2.2.2.2.2.2.1,j11.2.2.2.2.2.2.2.2.2.2.2.2.2.2.2.2.2.2.2.2.1,j11.2.2.2.2.2.2.2.2.2.2.2.2.2.2.2.2.2.2.2.2.2.1,false,()):Option ((PV zf×PV .str×PV (.int .i64)×PV zi×PV zo×PV zf×PV .str×PV .str×PV (.int .i64)×PV .bool×PV zf×PV .str×PV .str×PV (.int .u8)×PV .bool×PV .str×PV .str×PV zf×PV .str×PV .str×PV .str×PV .bool×PV .bool×Unit)))).bind λj12=>
                      bif j12.2.2.2.2.2.2.2.2.2.2.2.2.2.2.2.2.2.2.2.2.2.2.1 then
                       (zf0 j12.2.2.2.2.1.2.1).bind λr13=>
                         bif cutB 1 (j12.1.length:Int) j12.1.length then
                          some ((cutL 1 (j12.1.length:Int) j12.1),j12.2.1,j12.2.2.1,j12.2.2.2.1,(j12.2.2.2.2.1.1,(r13.1.1,j12.2.2.2.2.1.2.2)),j12.2.2.2.2.2.1,j12.2.2.2.2.2.2.1,j12.2.2.2.2.2.2.2.1,j12.2.2.2.2.2.2.2.2.1,j12.2.2.2.2.2.2.2.2.2.1,j12.2.2.2.2.2.2.2.2.2.2.1,j12.2.2.2.2.2.2.2.2.2.2.2.1,j12.2.2.2.2.2.2.2.2.2.2.2.2.1,j12.2.2.2.2.2.2.2.2.2.2.2.2.2.1,j12.2.2.2.2.2.2.2.2.2.2.2.2.2.2.1,j12.2.2.2.2.2.2.2.2.2.2.2.2.2.2.2.1,j12.2.2.2.2.2.2.2.2.2.2.2.2.2.2.2.2.1,j12.2.2.2.2.2.2.2.2.2.2.2.2.2.2.2.2.2.1,j12.2.2.2.2.2.2.2.2.2.2.2.2.2.2.2.2.2.2.1,j12.2.2.2.2.2.2.2.2.2.2.2.2.2.2.2.2.2.2.2.1,j12.2.2.2.2.2.2.2.2.2.2.2.2.2.2.2.2.2.2.2.2.1,j12.2.2.2.2.2.2.2.2.2.2.2.2.2.2.2.2.2.2.2.2.2.1,())
                         else
                          none
                      else
                       some (j12.1,j12.2.1,j12.2.2.1,j12.2.2.2.1,j12.2.2.2.2.1,j12.2.2.2.2.2.1,j12.2.2.2.2.2.2.1,j12.2.2.2.2.2.2.2.1,j12.2.2.2.2.2.2.2.2.1,j12.2.2.2.2.2.2.2.2.2.1,j12.2.2.2.2.2.2.2.2.2.2.1,j12.2.2.2.2.2.2.2.2.2.2.2.1,j12.2.2.2.2.2.2.2.2.2.2.2.2.1,j12.2.2.2.2.2.2.2.2.2.2.2.2.2.1,j12.2.2.2.2.2.2.2.2.2.2.2.2.2.2.1,j12.2.2.2.2.2.2.2.2.2.2.2.2.2.2.2.1,j12.2.2.2.2.2.2.2.2.2.2.2.2.2.2.2.2.1,j12.2.2.2.2.2.2.2.2.2.2.2.2.2.2.2.2.2.1,j12.2.2.2.2.2.2.2.2.2.2.2.2.2.2.2.2.2.2.1,j12.2.2.2.2.2.2.2.2.2.2.2.2.2.2.2.2.2.2.2.1,j12.2.2.2.2.2.2.2.2.2.2.2.2.2.2.2.2.2.2.2.2.1,j12.2.2.2.2.2.2.2.2.2.2.2.2.2.2.2.2.2.2.2.2.2.1,()):Option ((PV zf×PV .str×PV (.int .i64)×PV zi×PV zo×PV zf×PV .str×PV .str×PV (.int .i64)×PV .bool×PV zf×PV .str×PV .str×PV (.int .u8)×PV .bool×PV .str×PV .str×PV zf×PV .str×PV .str×PV .str×PV .bool×Unit)))).bind λj14=>
                    bif qw (j14.2.2.2.1.length+[j14.2.2.2.2.1].length) then
                     some (.inl (j14.1,j14.2.1,j14.2.2.1,(j14.2.2.2.1++[j14.2.2.2.2.1]),()))
                    else
                     none
                 else
                  none
              else
               none
             else
              none
            else
             some (.inr (t0,t8,()))
         else
          none
        else
         none
       else
        none
      else
       some (.inr (t0,t8,()))
     else
      none
    else
     none
   else
    some (.inr (t0,t8,()))
  else
   none
 else
  some (.inr (t0,t8,()))
def z2y:PV zf×PV .str×PV (.int .i64)×PV zi×Unit->Option ((PV zf×PV zi×Unit)):=fix λd=>zhu d.1 d.2.1 d.2.2.1 d.2.2.2.1
def z2w:Lp:=⟨⟨[],[0,1,2,8,55,56,57,58],[]⟩,qpd,qrj,λd=>zhu d.1 d.2.1 d.2.2.1 d.2.2.2.1⟩
def qus:Plan:=⟨[(6,qrg),(8,qrh),(9,qri)],[(2,z2w)],0,0⟩
def zmo (t0:PV zf)(t1:PV .str)(t2:PV (.int .i64)):Option (PVs [zi,zf]×PVs []):=
 (z2y (t0,t1,t2,([]:PV zi),())).bind λl16=>
   some ((l16.2.1,l16.1,()),())
def z5w:Ct:=⟨[(.bor,zf),(.bor,.str),(.bor,(.int .i64))],[(zi,(.row (.pr .b (.pr .b .b)))),(zf,.b)],λx=>zmo x.1 x.2.1 x.2.2.1⟩
def qut:Cx:=⟨tab,arrs,[(141,zkm),(233,zua)],[],gl,[]⟩
theorem quu:FnOk gl Tryz.prog 171 z5w:=
 fo qut qus 0 (oz ⟨znd,z0d,trivial⟩ trivial) Tryz.func171 (by kernel_rfl) (by kernel_rfl) (by kernel_rfl)
  (ll 1 (by kernel_rfl) (lc z2w (by kernel_rfl) (λd=>by kernel_rfl) trivial)) (λx=>by kernel_rfl)
def qxz:List Out:=[⟨.normal,⟨[],[0,1,5,13,37,38,39,40,41,56,57,58],[]⟩,mkSh 71 [(0,.val zi .b),(1,.val zi .b),(5,.val zi (.row (.pr .b (.pr .b .b)))),(13,.val .bool .b)]⟩]
def qx0:List Out:=[⟨.normal,⟨[],[0,1,5,18,19,20,21,22,32,56,57,58],[]⟩,mkSh 71 [(0,.val zi .b),(1,.val zi .b),(5,.val zi (.row (.pr .b (.pr .b .b)))),(32,.val .bool .b)]⟩]
def qx1:List Out:=[⟨.normal,⟨[],[0,1,5,18,19,20,21,22,37,38,39,40,41,51],[]⟩,mkSh 71 [(0,.val zi .b),(1,.val zi .b),(5,.val zi (.row (.pr .b (.pr .b .b)))),(51,.val .bool .b)]⟩]
def quv:List Sh:=mkSh 71 [(0,.val zi .b),(1,.val zi .b),(5,.val zi (.row (.pr .b (.pr .b .b))))]
def qx2:List Out:=[⟨.exit 0,⟨[],[5],[]⟩,mkSh 71 [(5,.val zi (.row (.pr .b (.pr .b .b))))]⟩,⟨.ret,⟨[],[4],[]⟩,mkSh 71 [(4,.val zi (.row (.pr .b (.pr .b .b))))]⟩]
def zbz (t0:PV zi)(t1:PV zi)(t5:PV zi):Option ((PV zi×PV zi×PV zi×Unit)⊕((PV zi×Unit)⊕(PV zi×Unit))):=
 bif (decide ((IntKind.wrap .i64 ((t0.length:Int)+(t1.length:Int)))>0)) then
  ((
    bif (decide ((t0.length:Int)>0)) then
     bif inB 0 t0.length then
      some (t0,t1,t5,(!(((t0.getD ((0:Int).toNat) (dflt zo)).1)==1)),())
     else
      none
    else
     some (t0,t1,t5,false,()):Option ((PV zi×PV zi×PV zi×PV .bool×Unit)))).bind λj1=>
    bif j1.2.2.2.1 then
     bif inB 0 j1.1.length then
      bif qw (j1.2.2.1.length+[(j1.1.getD ((0:Int).toNat) (dflt zo))].length) then
       bif cutB 1 (j1.1.length:Int) j1.1.length then
        some (.inl ((cutL 1 (j1.1.length:Int) j1.1),j1.2.1,(j1.2.2.1++[(j1.1.getD ((0:Int).toNat) (dflt zo))]),()))
       else
        none
      else
       none
     else
      none
    else
     ((
       bif (decide ((j1.2.1.length:Int)>0)) then
        bif inB 0 j1.2.1.length then
         some (j1.1,j1.2.1,j1.2.2.1,(!(((j1.2.1.getD ((0:Int).toNat) (dflt zo)).1)==1)),())
        else
         none
       else
        some (j1.1,j1.2.1,j1.2.2.1,false,()):Option ((PV zi×PV zi×PV zi×PV .bool×Unit)))).bind λj2=>
       bif j2.2.2.2.1 then
        bif inB 0 j2.2.1.length then
         bif qw (j2.2.2.1.length+[(j2.2.1.getD ((0:Int).toNat) (dflt zo))].length) then
          bif cutB 1 (j2.2.1.length:Int) j2.2.1.length then
           some (.inl (j2.1,(cutL 1 (j2.2.1.length:Int) j2.2.1),(j2.2.2.1++[(j2.2.1.getD ((0:Int).toNat) (dflt zo))]),()))
          else
           none
         else
          none
        else
         none
       else
        ((
          bif (decide ((j2.1.length:Int)>0)) then
           some (j2.1,j2.2.1,j2.2.2.1,(decide ((j2.2.1.length:Int)>0)),())
          else
           some (j2.1,j2.2.1,j2.2.2.1,false,()):Option ((PV zi×PV zi×PV zi×PV .bool×Unit)))).bind λj3=>
          bif j3.2.2.2.1 then
           bif inB 0 j3.1.length then
            bif qw (j3.2.2.1.length+[(j3.1.getD ((0:Int).toNat) (dflt zo))].length) then
             bif cutB 1 (j3.1.length:Int) j3.1.length then
              bif cutB 1 (j3.2.1.length:Int) j3.2.1.length then
               some (.inl ((cutL 1 (j3.1.length:Int) j3.1),(cutL 1 (j3.2.1.length:Int) j3.2.1),(j3.2.2.1++[(j3.1.getD ((0:Int).toNat) (dflt zo))]),()))
              else
               none
             else
              none
            else
             none
           else
            none
          else
           some (.inr (.inr ([],())))
 else
  some (.inr (.inl (t5,())))
def zmp:PV zi×PV zi×PV zi×Unit->Option ((PV zi×Unit)⊕(PV zi×Unit)):=fix λd=>zbz d.1 d.2.1 d.2.2.1
def z5x:Lp:=⟨⟨[],[0,1,5,18,19,20,21,22,37,38,39,40,41,56,57,58],[]⟩,quv,qx2,λd=>zbz d.1 d.2.1 d.2.2.1⟩
def q2l:Plan:=⟨[(5,qxz),(7,qx0),(9,qx1)],[(2,z5x)],0,0⟩
def zm7 (t0:PV zi)(t1:PV zi):Option (PVs [zi]×PVs []):=
 (zmp (t0,t1,([]:PV zi),())).bind λx8=>
   match x8 with
   | .inl l6=>
     some ((l6.1,()),())
   | .inr l7=>
     some ((l7.1,()),())
def z9k:Ct:=⟨[(.bor,zi),(.bor,zi)],[(zi,(.row (.pr .b (.pr .b .b))))],λx=>zm7 x.1 x.2.1⟩
def q2m:Cx:=⟨tab,arrs,[],[],gl,[]⟩
theorem q2n:FnOk gl Tryz.prog 173 z9k:=
 fo q2m q2l 0 (oz trivial trivial) Tryz.func173 (by kernel_rfl) (by kernel_rfl) (by kernel_rfl)
  (ll 1 (by kernel_rfl) (lc z5x (by kernel_rfl) (λd=>by kernel_rfl) trivial)) (λx=>by kernel_rfl)
def qpe:List Out:=[⟨.normal,⟨[],[0,4,24],[]⟩,mkSh 90 [(0,.val zf .b),(4,.val zl (.row (.pr .b (.pr .b (.pr (.row (.pr .b (.pr .b .b))) .b))))),(24,.val .bool .b)]⟩]
def qng:List Out:=[⟨.normal,⟨[],[4,5,6,8,9,10,21,22,23],[]⟩,mkSh 90 [(4,.val zl (.row (.pr .b (.pr .b (.pr (.row (.pr .b (.pr .b .b))) .b))))),(5,.val (.int .i64) .b),(6,.val zf .b),(8,.val zi (.row (.pr .b (.pr .b .b)))),(9,.val (.int .i64) .b),(10,.val zi (.row (.pr .b (.pr .b .b))))]⟩]
def qnh:List Out:=[⟨.normal,⟨[],[4,6,10,11,21,22,23],[]⟩,mkSh 90 [(4,.val zl (.row (.pr .b (.pr .b (.pr (.row (.pr .b (.pr .b .b))) .b))))),(6,.val zf .b),(10,.val zi (.row (.pr .b (.pr .b .b)))),(11,.var zh (.pr .b (.pr .b (.pr (.row (.pr .b (.pr .b .b))) .b))))]⟩]
def qni:List Out:=[⟨.normal,⟨[],[4,6,11,21,22,23],[]⟩,mkSh 90 [(4,.val zl (.row (.pr .b (.pr .b (.pr (.row (.pr .b (.pr .b .b))) .b))))),(6,.val zf .b),(11,.var zh (.pr .b (.pr .b (.pr (.row (.pr .b (.pr .b .b))) .b))))]⟩]
def qnj:List Sh:=mkSh 90 [(0,.val zf .b),(4,.val zl (.row (.pr .b (.pr .b (.pr (.row (.pr .b (.pr .b .b))) .b)))))]
def qpf:List Out:=[⟨.exit 0,⟨[],[4],[]⟩,mkSh 90 [(4,.val zl (.row (.pr .b (.pr .b (.pr (.row (.pr .b (.pr .b .b))) .b)))))]⟩,⟨.ret,⟨[],[2,3],[]⟩,mkSh 90 [(2,.val zl (.row (.pr .b (.pr .b (.pr (.row (.pr .b (.pr .b .b))) .b))))),(3,.val .bool .b)]⟩]
def zbr (t0:PV zf)(t4:PV zl):Option ((PV zf×PV zl×Unit)⊕((PV zl×Unit)⊕(PV zl×PV .bool×Unit))):=
 bif (decide ((t0.length:Int)>0)) then
  ((
    bif inB 0 t0.length then
     bif (!((t0.getD ((0:Int).toNat) [])==[42,42,42,42,42,42,42,42,42,42,42,42,42,42,42,10])) then
      some (t0,t4,true,())
     else
      some (t0,t4,((t4.length:Int)==20),())
    else
     none:Option ((PV zf×PV zl×PV .bool×Unit)))).bind λj2=>
    bif j2.2.2.1 then
     some (.inr (.inr ([],false,())))
    else
     bif cutB 1 (j2.1.length:Int) j2.1.length then
      (zj3 (cutL 1 (j2.1.length:Int) j2.1) [42,42,42,32] [32,42,42,42,42,10]).bind λr4=>
        bif (!r4.1.2.2.1) then
         some (.inr (.inr ([],false,())))
        else
         (zmo r4.1.2.1 [45] 2).bind λr6=>
           (zj3 r6.1.2.1 [45,45,45,32] [32,45,45,45,45,10]).bind λr8=>
             bif (!r8.1.2.2.1) then
              some (.inr (.inr ([],false,())))
             else
              (zmo r8.1.2.1 [43] 3).bind λr10=>
                ((
                  bif ((r6.1.1.length:Int)==0) then
                   (znq r10.1.1).bind λr11=>
                     some (j2.2.1,r4.1.1,r10.1.2.1,r11.1.1,r8.1.1,r10.1.1,())
                  else
                   bif ((r10.1.1.length:Int)==0) then
                    (znq r6.1.1).bind λr12=>
                      some (j2.2.1,r4.1.1,r10.1.2.1,r6.1.1,r8.1.1,r12.1.1,())
                   else
                    some (j2.2.1,r4.1.1,r10.1.2.1,r6.1.1,r8.1.1,r10.1.1,()):Option ((PV zl×PV (.int .i64)×PV zf×PV zi×PV (.int .i64)×PV zi×Unit)))).bind λj13=>
                  (zm7 j13.2.2.2.1 j13.2.2.2.2.2.1).bind λr15=>
                    ((
                      bif (decide ((j13.2.2.2.1.length:Int)>0)) then
                       some (j13.1,j13.2.2.1,j13.2.2.2.2.2.1,((IntKind.wrap .i64 (j13.2.1 -1)),(j13.2.2.2.2.1,(r15.1.1,()))),())
                      else
                       some (j13.1,j13.2.2.1,j13.2.2.2.2.2.1,(j13.2.1,(j13.2.2.2.2.1,(r15.1.1,()))),()):Option ((PV zl×PV zf×PV zi×PV zh×Unit)))).bind λj16=>
                      ((
                        bif (decide ((j16.2.2.1.length:Int)>0)) then
                         some (j16.1,j16.2.1,(j16.2.2.2.1.1,((IntKind.wrap .i64 (j16.2.2.2.1.2.1 -1)),j16.2.2.2.1.2.2)),())
                        else
                         some (j16.1,j16.2.1,j16.2.2.2.1,()):Option ((PV zl×PV zf×PV zh×Unit)))).bind λj17=>
                        bif qw (j17.1.length+[j17.2.2.1].length) then
                         some (.inl (j17.2.1,(j17.1++[j17.2.2.1]),()))
                        else
                         none
     else
      none
 else
  some (.inr (.inl (t4,())))
def zhr:PV zf×PV zl×Unit->Option ((PV zl×Unit)⊕(PV zl×PV .bool×Unit)):=fix λd=>zbr d.1 d.2.1
def z1t:Lp:=⟨⟨[],[0,4,21,22,23],[]⟩,qnj,qpf,λd=>zbr d.1 d.2.1⟩
def qrk:Plan:=⟨[(4,qpe),(17,qng),(20,qnh),(22,qni)],[(2,z1t)],0,0⟩
def zjy (t0:PV zf):Option (PVs [zl,.bool]×PVs []):=
 (zhr (t0,([]:PV zl),())).bind λx22=>
   match x22 with
   | .inl l20=>
     some ((l20.1,true,()),())
   | .inr l21=>
     some ((l21.1,l21.2.1,()),())
def z3e:Ct:=⟨[(.bor,zf)],[(zl,(.row (.pr .b (.pr .b (.pr (.row (.pr .b (.pr .b .b))) .b))))),(.bool,.b)],λx=>zjy x.1⟩
def qrl:Cx:=⟨tab,arrs,[(170,z5v),(171,z5w),(172,qaw),(173,z9k)],[],gl,[]⟩
theorem qpv:FnOk gl Tryz.prog 101 z3e:=
 fo qrl qrk 0 (oz ⟨qur,quu,q4c,q2n,trivial⟩ trivial) Tryz.func101 (by kernel_rfl) (by kernel_rfl) (by kernel_rfl)
  (ll 1 (by kernel_rfl) (lc z1t (by kernel_rfl) (λd=>by kernel_rfl) trivial)) (λx=>by kernel_rfl)
def quw:Plan:=⟨[],[],0,0⟩
def zj1 (t0:PV (.int .i64))(t1:PV (.int .i64)):Option (PVs [(.int .i64)]×PVs []):=
 bif (decide (t1>0)) then
  some (((IntKind.wrap .i64 (t0+1)),()),())
 else
  some ((t0,()),())
def z4n:Ct:=⟨[(.bor,(.int .i64)),(.bor,(.int .i64))],[((.int .i64),.b)],λx=>zj1 x.1 x.2.1⟩
def quy:Cx:=⟨tab,arrs,[],[],gl,[]⟩
theorem qr2:FnOk gl Tryz.prog 165 z4n:=
 fo quy quw 0 (oz trivial trivial) Tryz.func165 (by kernel_rfl) (by kernel_rfl) (by kernel_rfl)
  (ll 0 (by kernel_rfl) trivial) (λx=>by kernel_rfl)
def q4y:Plan:=⟨[],[],0,0⟩
def zkt (t0:PV (.int .i64))(t1:PV (.int .i64)):Option (PVs [(.int .i64)]×PVs []):=
 some (((IntKind.wrap .i64 (t0+t1)),()),())
def qav:Ct:=⟨[(.bor,(.int .i64)),(.bor,(.int .i64))],[((.int .i64),.b)],λx=>zkt x.1 x.2.1⟩
def q5a:Cx:=⟨tab,arrs,[],[],gl,[]⟩
theorem q4a:FnOk gl Tryz.prog 166 qav:=
 fo q5a q4y 0 (oz trivial trivial) Tryz.func166 (by kernel_rfl) (by kernel_rfl) (by kernel_rfl)
  (ll 0 (by kernel_rfl) trivial) (λx=>by kernel_rfl)
def qkl:Plan:=⟨[],[],2,9⟩
def qjk:List Sh:=mkSh 37 [(0,.val zh .b),(1,.val (.int .i64) .b),(2,.var zh .b),(3,.var (.int .i64) .b),(4,.val .bool .b),(5,.addr ⟨2,[.r,.r,.l],0,0⟩),(6,.val zi .b),(7,.fn 231 [⟨3,[],0,0⟩]),(9,.val zi .b),(10,.fn 231 [⟨3,[],0,0⟩]),(13,.val .bool .b),(14,.val zi .b),(15,.fn 231 [⟨3,[],0,0⟩]),(18,.val zi .b),(19,.fn 231 [⟨3,[],0,0⟩]),(25,.val (.int .i64) .b),(26,.val (.int .i64) .b)]
def qjy:List Out:=[⟨.exit 0,⟨[],[],[]⟩,mkSh 37 [(0,.val zh .b),(1,.val (.int .i64) .b),(2,.var zh .b),(3,.var (.int .i64) .b),(4,.val .bool .b),(5,.addr ⟨2,[.r,.r,.l],0,0⟩),(6,.val zi .b),(7,.fn 231 [⟨3,[],0,0⟩]),(9,.val zi .b),(10,.fn 231 [⟨3,[],0,0⟩]),(13,.val .bool .b),(14,.val zi .b),(15,.fn 231 [⟨3,[],0,0⟩])]⟩,⟨.ret,⟨[],[4],[]⟩,mkSh 37 [(0,.val zh .b),(1,.val (.int .i64) .b),(2,.var zh .b),(3,.var (.int .i64) .b),(4,.val .bool .b),(5,.addr ⟨2,[.r,.r,.l],0,0⟩),(6,.val zi .b),(7,.fn 231 [⟨3,[],0,0⟩]),(9,.val zi .b),(10,.fn 231 [⟨3,[],0,0⟩]),(13,.val .bool .b),(14,.val zi .b),(15,.fn 231 [⟨3,[],0,0⟩]),(22,.val (.int .i64) .b)]⟩]
def ze1 (t0:PV zh)(t1:PV (.int .i64))(t2:PV zh)(t3:PV (.int .i64))(t4:PV .bool)(t6:PV zi)(t9:PV zi)(t13:PV .bool)(t14:PV zi)(t18:PV zi)(t25:PV (.int .i64))(t26:PV (.int .i64)):Option ((PV zh×PV (.int .i64)×PV zh×PV (.int .i64)×PV .bool×PV zi×PV zi×PV .bool×PV zi×PV zi×PV (.int .i64)×PV (.int .i64)×Unit)⊕((PV zh×PV (.int .i64)×PV zh×PV (.int .i64)×PV .bool×PV zi×PV zi×PV .bool×PV zi×Unit)⊕(PV zh×PV (.int .i64)×PV zh×PV (.int .i64)×PV .bool×PV zi×PV zi×PV .bool×PV zi×PV (.int .i64)×Unit))):=
 bif (decide (t26<t25)) then
  bif inB t26 t18.length then
   bif (((t18.getD t26.toNat (dflt zo)).1)==t3) then
    some (.inr (.inr (t0,t1,t2,t3,t4,t6,t9,t13,t14,t26,())))
   else
    some (.inl (t0,t1,t2,t3,t4,t6,t9,t13,t14,t18,t25,(IntKind.wrap .i64 (t26+1)),()))
  else
   none
 else
  some (.inr (.inl (t0,t1,t2,t3,t4,t6,t9,t13,t14,())))
def zz6:PV zh×PV (.int .i64)×PV zh×PV (.int .i64)×PV .bool×PV zi×PV zi×PV .bool×PV zi×PV zi×PV (.int .i64)×PV (.int .i64)×Unit->Option ((PV zh×PV (.int .i64)×PV zh×PV (.int .i64)×PV .bool×PV zi×PV zi×PV .bool×PV zi×Unit)⊕(PV zh×PV (.int .i64)×PV zh×PV (.int .i64)×PV .bool×PV zi×PV zi×PV .bool×PV zi×PV (.int .i64)×Unit)):=fix λd=>ze1 d.1 d.2.1 d.2.2.1 d.2.2.2.1 d.2.2.2.2.1 d.2.2.2.2.2.1 d.2.2.2.2.2.2.1 d.2.2.2.2.2.2.2.1 d.2.2.2.2.2.2.2.2.1 d.2.2.2.2.2.2.2.2.2.1 d.2.2.2.2.2.2.2.2.2.2.1 d.2.2.2.2.2.2.2.2.2.2.2.1
def zz5:Lp:=⟨⟨[],[0,1,7,8],[]⟩,qjk,qjy,λd=>ze1 d.1 d.2.1 d.2.2.1 d.2.2.2.1 d.2.2.2.2.1 d.2.2.2.2.2.1 d.2.2.2.2.2.2.1 d.2.2.2.2.2.2.2.1 d.2.2.2.2.2.2.2.2.1 d.2.2.2.2.2.2.2.2.2.1 d.2.2.2.2.2.2.2.2.2.2.1 d.2.2.2.2.2.2.2.2.2.2.2.1⟩
def qkm:Plan:=⟨[],[(2,zz5)],1,18⟩
def qkn:Plan:=⟨[],[],0,37⟩
def qrm:Plan:=⟨[],[],3,0⟩
def zjx (t0:PV zh)(t1:PV (.int .i64)):Option (PVs [.bool]×PVs []):=
 (zz6 (t0,t1,t0,t1,false,t0.2.2.1,t0.2.2.1,false,t0.2.2.1,t0.2.2.1,(t0.2.2.1.length:Int),0,())).bind λx5=>
   match x5 with
   | .inl l3=>
     some (((decide ((-1)>=0)),()),())
   | .inr l4=>
     some (((decide (l4.2.2.2.2.2.2.2.2.2.1>=0)),()),())
def z3c:Ct:=⟨[(.bor,zh),(.bor,(.int .i64))],[(.bool,.b)],λx=>zjx x.1 x.2.1⟩
def qrn:Cx:=⟨tab,arrs,[],[(230,Tryz.f230,qkl),(266,Tryz.f266,qkm),(231,Tryz.f231,qkn)],gl,[]⟩
theorem qpr:FnOk gl Tryz.prog 167 z3c:=
 fo qrn qrm 3 (oz trivial ⟨⟨Tryz.func230,by kernel_rfl,(ll 0 (by kernel_rfl) trivial)⟩,⟨Tryz.func266,by kernel_rfl,(ll 1 (by kernel_rfl) (lc zz5 (by kernel_rfl) (λd=>by kernel_rfl) trivial))⟩,⟨Tryz.func231,by kernel_rfl,(ll 0 (by kernel_rfl) trivial)⟩,trivial⟩) Tryz.func167 (by kernel_rfl) (by kernel_rfl) (by kernel_rfl)
  (ll 0 (by kernel_rfl) trivial) (λx=>by kernel_rfl)
end
end R
