/- Parts of the proof: PbOa Va1 Va2 Va3 Vb5 Vb6 Vb7 Vb8 Vc1 Vc2 Vc3 Vc4 Vc5 Ve5 Ve6 Ve8 Ve9 Vf1 Vf2 Vf3 Vf4 Vf5 Vf6. -/
import Derived.Test.YtgcdpcjeamjgfaaGreatDoorPaOa
import Derived.Test.YtgcdpcjeamjgfaaGreatDoorL3
import Derived.Lib.ItoaLen
section
/- Plain laws of the helpers. -/
open Go Go.Dn
namespace R
set_option linter.unusedVariables false
end R
end

section
/- Lines: both sides' tests of lines answer the same. -/
open Go Go.Dn
namespace R
set_option linter.unusedVariables false
theorem in_I (a b c:Int):f_I_in a b c=some ((decide (a≥b)&&decide (a≤c),()),()):=by
 unfold f_I_in
 cases decide (a≥b)<;>rfl
theorem in_S (a b c:Int):f_S_l1In a b c=some ((decide (a≥b)&&decide (a≤c),()),()):=by
 unfold f_S_l1In
 cases decide (a≥b)<;>rfl
def inI (a b c:Int):Bool:=decide (a≥b)&&decide (a≤c)
def hasEnd (s:List UInt8):Bool:=(s.take (s.length -1)).contains 10
def lineP (s:List UInt8):Bool:=inI (s.length:Int) 1 30&& !hasEnd s
def endP (s:List UInt8):Bool:=s.drop (s.length -1)==[10]
theorem line_len {s:List UInt8}(h:lineP s=true):1≤s.length∧s.length≤30:=by
 unfold lineP inI at h
 simp only[Bool.and_eq_true,decide_eq_true_eq] at h
 omega
theorem line_S (s:List UInt8)(hs:s.length≤4611686018427387904):f_S_l1Line s=some ((lineP s,()),()):=by
 unfold f_S_l1Line
 have hw:IntKind.wrap .i64 ((s.length:Int) -1)=(s.length:Int) -1:=wrap64 (by omega) (by omega)
 rw[show w_S_l1Line_2 (s,0,())=_ from fix_anyN (B:=fun d=>b_S_l1Line_2 d.1 d.2.1) (s.length -1) (fun i=>s.getD i 0==10) (fun i=>(s,(i:Int),())) (fun _=>.inr (false,())) (.inl (s,()))
  (fun i hi hq=>by
    show b_S_l1Line_2 s i=_
    unfold b_S_l1Line_2
    rw[hw,decide_eq_true (by omega:(i:Int)<(s.length:Int) -1),cond_true,inB_lt (by omega),cond_true,toNat_cast]
    rw[show((((s.getD i 0:UInt8).toNat:Nat):Int)==10)=(s.getD i 0==10) from byte_eq (n:=10) (by omega),hq,cond_false,wrap64 (by omega) (by omega)]
    simp)
  (fun i hi hq=>by
    show b_S_l1Line_2 s i=_
    unfold b_S_l1Line_2
    rw[hw,decide_eq_true (by omega:(i:Int)<(s.length:Int) -1),cond_true,inB_lt (by omega),cond_true,toNat_cast]
    rw[show((((s.getD i 0:UInt8).toNat:Nat):Int)==10)=(s.getD i 0==10) from byte_eq (n:=10) (by omega),hq,cond_true])
  (by
    show b_S_l1Line_2 s ((s.length -1:Nat):Int)=_
    unfold b_S_l1Line_2
    rw[hw,decide_eq_false (by omega:¬(((s.length -1:Nat):Int)<(s.length:Int) -1)),cond_false])]
 rw[contains_take (by omega)]
 unfold lineP hasEnd
 cases(s.take (s.length -1)).contains 10
 ·simp only[Bool.false_eq_true,if_false,Option.bind_some,in_S];simp[inI]
 ·simp
theorem ends_S (s:List UInt8)(h1:1≤s.length)(hs:s.length≤4611686018427387904):f_S_l1Ends s=some ((endP s,()),()):=by
 unfold f_S_l1Ends
 have hw:IntKind.wrap .i64 ((s.length:Int) -1)=((s.length -1:Nat):Int):=by rw[wrap64 (by omega) (by omega)];omega
 rw[hw,inB_lt (by omega),cond_true,toNat_cast]
 rw[show((((s.getD (s.length -1) 0:UInt8).toNat:Nat):Int)==10)=(s.getD (s.length -1) 0==10) from byte_eq (n:=10) (by omega)]
 unfold endP
 rw[List.drop_eq_getElem_cons (by omega:s.length -1<s.length),List.drop_of_length_le (by omega),getD_of (by omega)]
 simp
theorem line_I (s:List UInt8)(hs:s.length≤4611686018427387904):f_I_isLine s=some ((lineP s,()),()):=by
 unfold f_I_isLine
 rw[in_I,Option.bind_some]
 dsimp only
 unfold lineP
 cases h:inI (s.length:Int) 1 30
 ·unfold inI at h;rw[h];rfl
 ·have h':=h
  unfold inI at h'
  rw[h',cond_true]
  simp only[Bool.and_eq_true,decide_eq_true_eq] at h'
  rw[wrap64 (by omega) (by omega)]
  rw[show cutB 0 ((s.length:Int) -1) s.length=true from by unfold cutB;simp;omega,cond_true]
  unfold f_strings_Contains containsF
  rw[Option.bind_some]
  unfold hasEnd cutL
  rw[show((s.length:Int) -1).toNat=s.length -1 from by omega]
  simp
theorem ends_I (s:List UInt8)(hs:s.length≤4611686018427387904):f_I_isEnded s=some ((endP s,()),()):=by
 unfold f_I_isEnded f_strings_HasSuffix f_internal_stringslite_HasSuffix endP
 by_cases h:1≤s.length
 ·rw[decide_eq_true (by simp;omega:(s.length:Int)≥(([10]:List UInt8).length:Int)),cond_true]
  have hw:IntKind.wrap .i64 ((s.length:Int) -(([10]:List UInt8).length:Int))=((s.length -1:Nat):Int):=by
   rw[show((([10]:List UInt8).length:Nat):Int)=1 from rfl,wrap64 (by omega) (by omega)];omega
  rw[hw,show cutB ((s.length -1:Nat):Int) (s.length:Int) s.length=true from by unfold cutB;simp,cond_true]
  unfold cutL
  simp
 ·have:s=[]:=List.eq_nil_of_length_eq_zero (by omega)
  subst this
  rfl
def linesP (l:List (List UInt8)):Bool:=decide (l.length≤40)&& !(l.any fun s=> !lineP s)
def endsP (l:List (List UInt8)):Bool:= !(anyN l.length fun k=>decide ((k:Int)<(l.length:Int) -1)&& !(endP (l.getD k [])))
def goodP (l:List (List UInt8)):Bool:=linesP l&&endsP l
def Sm (l:List (List UInt8)):Prop:=l.length≤4611686018427387904∧∀s∈l,s.length≤4611686018427387904
theorem Sm.len {l:List (List UInt8)}(h:Sm l):l.length≤4611686018427387904:=h.1
theorem Sm.mem {l:List (List UInt8)}(h:Sm l){i:Nat}(hi:i<l.length):(l[i]).length≤4611686018427387904:=h.2 _ (List.getElem_mem hi)
theorem Sm.of {l:List (List UInt8)}{n:Nat}(h:tot (.slice 9 .str) l≤n)(hn:n≤4611686018427387904):Sm l:=by
 refine⟨?_,fun s hs=> ?_⟩
 ·have h':=h
  rw[tot_slice] at h'
  omega
 ·obtain⟨i,hi,rfl⟩:=List.mem_iff_getElem.1 hs
  have:=Nat.le_trans (tot_mem (e:=9) (t:=.str) (xs:=l) hi) h
  rw[tot_str] at this
  omega
end R
end

section
/- Good orders: both sides answer the same. -/
open Go Go.Dn
namespace R
set_option linter.unusedVariables false
def badO (s:List UInt8):Bool:= !lineP s||(!endP s||s==[46,10])
def freshP (l:List (List UInt8)):Bool:=inI (l.length:Int) 1 40&& !(l.any badO)
def orderP (x:PV Y_impl_Order):Bool:=
 (inI x.2.1 0 1000&&inI x.2.2.1 x.2.1 1000)&&
   bif x.1==1 then(x.2.2.1==x.2.1)&&freshP x.2.2.2.1
   else bif x.1==2 then(x.2.2.1==x.2.1)&&(decide (x.2.1≥1)&&freshP x.2.2.2.1)
   else bif x.1==3 then decide (x.2.1≥1)&&freshP x.2.2.2.1
   else bif x.1==4 then decide (x.2.1≥1)&&((List.length x.2.2.2.1:Int)==0)
   else bif x.1==5 then decide (x.2.1≥1)&&((x.2.2.1==x.2.1)&&((List.length x.2.2.2.1:Int)==0))
   else false
def ordersP (l:List (PV Y_impl_Order)):Bool:=decide (l.length≤60)&& !(l.any fun x=> !orderP x)
theorem bad_I (s:List UInt8)(hs:s.length≤4611686018427387904):f_I_goodOrder_1 s=some ((badO s,()),()):=by
 unfold f_I_goodOrder_1 badO
 rw[line_I s hs,ends_I s hs,Option.bind_some,Option.bind_some]
 dsimp only
 cases lineP s<;>cases endP s<;>rfl
theorem fresh_S (t0:List (List UInt8))(hs:Sm t0):f_S_l9Lines t0=some ((freshP t0,()),()):=by
 have hl:=hs.len
 unfold f_S_l9Lines
 have hr:∀i,i<t0.length→(((f_S_l1Line (t0.getD i [])).bind fun r4=>bif !r4.1.1 then some (t0,t0,(t0.length:Int),(i:Int),true,()) else
  (f_S_l1Ends (t0.getD i [])).bind fun r5=>bif !r5.1.1 then some (t0,t0,(t0.length:Int),(i:Int),true,()) else some (t0,t0,(t0.length:Int),(i:Int),(t0.getD i [])==[46,10],())):Option (PV S_string×PV S_string×Int×Int×Bool×Unit))=
  some (t0,t0,(t0.length:Int),(i:Int),badO (t0.getD i []),()):=by
  intro i hi
  unfold badO
  rw[getD_of hi,line_S _ (hs.mem hi),Option.bind_some]
  dsimp only
  cases hL:lineP t0[i]
  ·rfl
  ·rw[Bool.not_true,cond_false,Bool.false_or,ends_S _ (line_len hL).1 (hs.mem hi),Option.bind_some]
   dsimp only
   cases endP t0[i]<;>rfl
 rw[show w_S_l9Lines_2 (t0,t0,(t0.length:Int),0,())=_ from fix_anyN (B:=fun d=>b_S_l9Lines_2 d.1 d.2.1 d.2.2.1 d.2.2.2.1) t0.length (fun k=>badO (t0.getD k []))
    (fun i=>(t0,t0,(t0.length:Int),(i:Int),())) (fun _=>.inr (false,())) (.inl (t0,()))
    (fun i hi hq=>by
      show b_S_l9Lines_2 t0 t0 t0.length i=_
      unfold b_S_l9Lines_2
      rw[decide_eq_true (by omega:(i:Int)<(t0.length:Int)),cond_true,inB_lt hi,cond_true,toNat_cast,hr i hi,hq,Option.bind_some]
      dsimp only
      rw[cond_false,wrap64 (by omega) (by omega)];rfl)
    (fun i hi hq=>by
      show b_S_l9Lines_2 t0 t0 t0.length i=_
      unfold b_S_l9Lines_2
      rw[decide_eq_true (by omega:(i:Int)<(t0.length:Int)),cond_true,inB_lt hi,cond_true,toNat_cast,hr i hi,hq,Option.bind_some]
      rfl)
    (by
      show b_S_l9Lines_2 t0 t0 t0.length t0.length=_
      unfold b_S_l9Lines_2
      rw[decide_eq_false (Int.lt_irrefl _),cond_false])]
 rw[anyN_list (f:=badO)]
 unfold freshP
 cases t0.any badO
 ·simp only[Bool.false_eq_true,if_false,Option.bind_some,in_S];simp[inI]
 ·simp
theorem order_S (x:PV Y_impl_Order)(hs:Sm x.2.2.2.1):f_S_l9Order x=some ((orderP x,()),()):=by
 unfold f_S_l9Order orderP
 rw[in_S,in_S,Option.bind_some,Option.bind_some]
 dsimp only
 unfold inI
 cases decide (x.2.1≥0)&&decide (x.2.1≤1000)
 ·rfl
 ·rw[Bool.not_true,cond_false,Option.bind_some]
  dsimp only
  cases decide (x.2.2.1≥x.2.1)&&decide (x.2.2.1≤1000)
  ·rfl
  ·rw[Bool.not_true,cond_false,fresh_S _ hs]
   simp only[Option.bind_some,Bool.true_and]
   cases x.1==1<;>cases x.1==2<;>cases x.1==3<;>cases x.1==4<;>cases x.1==5<;>cases x.2.2.1==x.2.1<;>cases decide (x.2.1≥1)<;>rfl
theorem loop_I (x:PV Y_impl_Order)(a:Bool)(l:List (List UInt8))(b:Bool)(hs:Sm l):
 w_I_goodOrder_103_2 (x,a,l,(l.length:Int),b,true,l,l,false,l,l,(l.length:Int),0,())=some (if l.any badO then .inr (x,a,l,(l.length:Int),b,true,l,l,false,l,((l.findIdx badO:Nat):Int),()) else .inl (x,a,l,(l.length:Int),b,true,l,l,false,l,())):=by
 have hl:=hs.len
 exact fix_any (B:=fun d=>b_I_goodOrder_103_2 d.1 d.2.1 d.2.2.1 d.2.2.2.1 d.2.2.2.2.1 d.2.2.2.2.2.1 d.2.2.2.2.2.2.1 d.2.2.2.2.2.2.2.1 d.2.2.2.2.2.2.2.2.1 d.2.2.2.2.2.2.2.2.2.1 d.2.2.2.2.2.2.2.2.2.2.1 d.2.2.2.2.2.2.2.2.2.2.2.1 d.2.2.2.2.2.2.2.2.2.2.2.2.1) l badO
  (fun i=>(x,a,l,(l.length:Int),b,true,l,l,false,l,l,(l.length:Int),(i:Int),())) (fun i=>.inr (x,a,l,(l.length:Int),b,true,l,l,false,l,(i:Int),())) (.inl (x,a,l,(l.length:Int),b,true,l,l,false,l,()))
  (fun i hi hq=>by
    show b_I_goodOrder_103_2 _ _ _ _ _ _ _ _ _ _ l l.length i=_
    unfold b_I_goodOrder_103_2
    rw[decide_eq_true (by omega:(i:Int)<(l.length:Int)),cond_true,inB_lt hi,cond_true,toNat_cast,getD_of hi,bad_I _ (hs.mem hi),Option.bind_some]
    dsimp only
    rw[hq,cond_false,wrap64 (by omega) (by omega)];rfl)
  (fun i hi hq=>by
    show b_I_goodOrder_103_2 _ _ _ _ _ _ _ _ _ _ l l.length i=_
    unfold b_I_goodOrder_103_2
    rw[decide_eq_true (by omega:(i:Int)<(l.length:Int)),cond_true,inB_lt hi,cond_true,toNat_cast,getD_of hi,bad_I _ (hs.mem hi),Option.bind_some]
    dsimp only
    rw[hq,cond_true])
  (by
    show b_I_goodOrder_103_2 _ _ _ _ _ _ _ _ _ _ l l.length l.length=_
    unfold b_I_goodOrder_103_2
    rw[decide_eq_false (Int.lt_irrefl _),cond_false])
theorem order_I (x:PV Y_impl_Order)(hs:Sm x.2.2.2.1):f_I_goodOrder x=some ((orderP x,()),()):=by
 unfold f_I_goodOrder orderP
 rw[in_I,in_I,Option.bind_some,Option.bind_some]
 dsimp only
 unfold inI
 cases decide (x.2.1≥0)&&decide (x.2.1≤1000)
 ·rfl
 ·rw[Bool.not_true,cond_false,Option.bind_some]
  dsimp only
  cases decide (x.2.2.1≥x.2.1)&&decide (x.2.2.1≤1000)
  ·rfl
  ·rw[Bool.not_true,cond_false,in_I,Option.bind_some]
   dsimp only
   unfold freshP inI
   generalize hb:(decide ((List.length x.2.2.2.1:Int)≥1)&&decide ((List.length x.2.2.2.1:Int)≤40))=b
   cases b
   ·rw[cond_false,Option.bind_some]
    dsimp only
    simp only[Bool.true_and]
    cases x.1==1<;>cases x.1==2<;>cases x.1==3<;>cases x.1==4<;>cases x.1==5<;>cases x.2.2.1==x.2.1<;>cases decide (x.2.1≥1)<;>cases((List.length x.2.2.2.1:Int)==0)<;>rfl
   ·rw[cond_true,loop_I x _ _ _ hs]
    cases List.any x.2.2.2.1 badO
    ·rw[if_neg (by simp),Option.bind_some]
     dsimp only
     rw[cond_true,Option.bind_some]
     dsimp only
     simp only[Bool.true_and]
     cases x.1==1<;>cases x.1==2<;>cases x.1==3<;>cases x.1==4<;>cases x.1==5<;>cases x.2.2.1==x.2.1<;>cases decide (x.2.1≥1)<;>cases((List.length x.2.2.2.1:Int)==0)<;>rfl
    ·rw[if_pos rfl,Option.bind_some]
     dsimp only
     rw[cond_true,decide_eq_true (by omega:((List.findIdx badO x.2.2.2.1:Nat):Int)≥0),Option.bind_some]
     dsimp only
     simp only[Bool.true_and]
     cases x.1==1<;>cases x.1==2<;>cases x.1==3<;>cases x.1==4<;>cases x.1==5<;>cases x.2.2.1==x.2.1<;>cases decide (x.2.1≥1)<;>cases((List.length x.2.2.2.1:Int)==0)<;>rfl
theorem Sm.order {l:List (PV Y_impl_Order)}(hs:tot S_impl_Order l≤4611686018427387904){i:Nat}(hi:i<l.length):Sm l[i].2.2.2.1:=by
 have h:=Nat.le_trans (tot_mem (e:=103) (t:=Y_impl_Order) hi) hs
 refine Sm.of (n:=4611686018427387904) ?_ (Nat.le_refl _)
 simp only[tot] at h ⊢
 omega
theorem orders_S (t0:List (PV Y_impl_Order))(hs:tot S_impl_Order t0≤4611686018427387904):f_S_l9Good t0=some ((ordersP t0,()),()):=by
 have hl:t0.length≤4611686018427387904:=Nat.le_trans (Nat.le_add_right _ _) (tot_slice (e:=103) (t:=Y_impl_Order)▸hs)
 unfold f_S_l9Good
 rw[show w_S_l9Good_2 (t0,t0,(t0.length:Int),0,())=_ from fix_any (B:=fun d=>b_S_l9Good_2 d.1 d.2.1 d.2.2.1 d.2.2.2.1) t0 (fun x=> !orderP x) (fun i=>(t0,t0,(t0.length:Int),(i:Int),())) (fun _=>.inr (false,())) (.inl (t0,()))
  (fun i hi hq=>by
    show b_S_l9Good_2 t0 t0 t0.length i=_
    unfold b_S_l9Good_2
    rw[decide_eq_true (by omega:(i:Int)<(t0.length:Int)),cond_true,inB_lt hi,cond_true,toNat_cast,getD_of hi,order_S _ (Sm.order hs hi),Option.bind_some]
    dsimp only
    rw[hq,cond_false,wrap64 (by omega) (by omega)];rfl)
  (fun i hi hq=>by
    show b_S_l9Good_2 t0 t0 t0.length i=_
    unfold b_S_l9Good_2
    rw[decide_eq_true (by omega:(i:Int)<(t0.length:Int)),cond_true,inB_lt hi,cond_true,toNat_cast,getD_of hi,order_S _ (Sm.order hs hi),Option.bind_some]
    dsimp only
    rw[hq,cond_true])
  (by
    show b_S_l9Good_2 t0 t0 t0.length t0.length=_
    unfold b_S_l9Good_2
    rw[decide_eq_false (Int.lt_irrefl _),cond_false])]
 unfold ordersP
 cases h:t0.any fun x=> !orderP x
 ·simp;omega
 ·simp
theorem orders_I (t0:List (PV Y_impl_Order))(hs:tot S_impl_Order t0≤4611686018427387904):f_I_goodOrders t0=some ((ordersP t0,()),()):=by
 unfold f_I_goodOrders ordersP
 by_cases hl:t0.length≤60
 ·rw[decide_eq_true (by omega:(t0.length:Int)≤60),cond_true,decide_eq_true hl,Bool.true_and]
  rw[show w_I_goodOrders_76_2 (t0,false,t0,(t0.length:Int),true,true,t0,t0,false,t0,t0,(t0.length:Int),0,())=_ from
   fix_any (B:=fun d=>b_I_goodOrders_76_2 d.1 d.2.1 d.2.2.1 d.2.2.2.1 d.2.2.2.2.1 d.2.2.2.2.2.1 d.2.2.2.2.2.2.1 d.2.2.2.2.2.2.2.1 d.2.2.2.2.2.2.2.2.1 d.2.2.2.2.2.2.2.2.2.1 d.2.2.2.2.2.2.2.2.2.2.1 d.2.2.2.2.2.2.2.2.2.2.2.1 d.2.2.2.2.2.2.2.2.2.2.2.2.1) t0 (fun x=> !orderP x)
   (fun i=>(t0,false,t0,(t0.length:Int),true,true,t0,t0,false,t0,t0,(t0.length:Int),(i:Int),())) (fun i=>.inr (t0,false,t0,(t0.length:Int),true,true,t0,t0,false,t0,(i:Int),())) (.inl (t0,false,t0,(t0.length:Int),true,true,t0,t0,false,t0,()))
   (fun i hi hq=>by
     show b_I_goodOrders_76_2 _ _ _ _ _ _ _ _ _ _ t0 t0.length i=_
     unfold b_I_goodOrders_76_2 f_I_goodOrders_1
     rw[decide_eq_true (by omega:(i:Int)<(t0.length:Int)),cond_true,inB_lt hi,cond_true,toNat_cast,getD_of hi,order_I _ (Sm.order hs hi),Option.bind_some,Option.bind_some]
     dsimp only
     rw[hq,cond_false,wrap64 (by omega) (by omega)];rfl)
   (fun i hi hq=>by
     show b_I_goodOrders_76_2 _ _ _ _ _ _ _ _ _ _ t0 t0.length i=_
     unfold b_I_goodOrders_76_2 f_I_goodOrders_1
     rw[decide_eq_true (by omega:(i:Int)<(t0.length:Int)),cond_true,inB_lt hi,cond_true,toNat_cast,getD_of hi,order_I _ (Sm.order hs hi),Option.bind_some,Option.bind_some]
     dsimp only
     rw[hq,cond_true])
   (by
     show b_I_goodOrders_76_2 _ _ _ _ _ _ _ _ _ _ t0 t0.length t0.length=_
     unfold b_I_goodOrders_76_2
     rw[decide_eq_false (Int.lt_irrefl _),cond_false])]
  cases h:t0.any fun x=> !orderP x
  ·rfl
  ·simp
 ·rw[decide_eq_false (by omega:¬(t0.length:Int)≤60),cond_false,decide_eq_false hl];rfl
end R
end

section
/- Orders as texts: both sides write the same. -/
open Go Go.Dn
namespace R
set_option linter.unusedVariables false
theorem wrap8 {x:Int}(h1:0≤x)(h2:x≤255):IntKind.wrap .u8 x=x:=by
 simp[IntKind.wrap,IntKind.signed,IntKind.bits]
 omega
abbrev dec (n:Nat):List UInt8:=Lib.decDigits n
abbrev TX:=List (List UInt8)
theorem dec_len (n:Nat)(h:n≤1000000):(dec n).length≤21:=by
 have:=Lib.itoa_length_le (n:Int) (by omega) (by omega)
 rwa [Lib.itoa_nonneg] at this
theorem dig_one {n:Nat}(h:n<10):bytesOfInts [IntKind.wrap .u8 (IntKind.wrap .i64 (48+(n:Int)))]=[UInt8.ofNat (48+n)]:=by
 rw[wrap64 (by omega) (by omega),wrap8 (by omega) (by omega)]
 show[UInt8.ofNat ((48+(n:Int)).toNat)]=_
 congr 2
theorem num_n:∀(f n:Nat),n<f→n≤1000000→fn_S_l1Num f (n:Int)=some ((dec n,()),())
 |0,n,h,_=>by omega
 |f+1,n,h,hb=>by
  show fr_S_l1Num (fn_S_l1Num f) (n:Int)=_
  unfold fr_S_l1Num
  by_cases hn:n<10
  ·rw[decide_eq_true (by omega:(n:Int)<10),cond_true,dig_one hn,show dec n=_ from Lib.decDigits_one hn]
  ·rw[decide_eq_false (by omega:¬(n:Int)<10),cond_false,show((10:Nat)==0)=false from rfl,cond_false]
   rw[show(n:Int).tdiv 10=((n/10:Nat):Int) from by rw[Int.tdiv_eq_ediv_of_nonneg (by omega)];omega,show(n:Int).tmod 10=((n%10:Nat):Int) from by rw[Int.tmod_eq_emod_of_nonneg (by omega)];omega]
   rw[wrap64 (x:=((n/10:Nat):Int)) (by omega) (by omega),num_n f (n/10) (by omega) (by omega),Option.bind_some,cond_false]
   have hl:=dec_len (n/10) (by omega)
   rw[dig_one (by omega)]
   dsimp only
   rw[decide_eq_true (by simp only[List.length_cons,List.length_nil];omega),cond_true]
   rw[show dec n=dec (n/10)++[UInt8.ofNat (48+n%10)] from by
    show Lib.decDigits n=_
    rw[Lib.decDigits,dif_neg hn]]
theorem num_S (n:Nat)(h:n≤1000000):f_S_l1Num (n:Int)=some ((dec n,()),()):=by
 unfold f_S_l1Num
 exact num_n _ n (by simp) h
theorem num_I (n:Nat)(h:n≤1000000):f_strconv_Itoa (n:Int)=some ((dec n,()),()):=by
 unfold f_strconv_Itoa itoaF
 rw[decide_eq_true (by omega),decide_eq_true (by omega:(n:Int)≤9223372036854775807),Lib.itoa_nonneg]
 rfl
def pairT (a b:Nat):List UInt8:=if a=b then dec a else(dec a++[44])++dec b
theorem pairT_len {a b:Nat}(ha:a≤10000)(hb:b≤10000):(pairT a b).length≤43:=by
 have:=dec_len a (by omega)
 have:=dec_len b (by omega)
 unfold pairT
 split
 ·omega
 ·simp only[List.length_append,List.length_cons,List.length_nil];omega
theorem pair_I {a b:Nat}(ha:a≤10000)(hb:b≤10000):f_I_pairOf (a:Int) (b:Int)=some ((pairT a b,()),()):=by
 have h1:=dec_len a (by omega)
 have h2:=dec_len b (by omega)
 unfold f_I_pairOf pairT
 rw[num_I a (by omega),num_I b (by omega)]
 by_cases h:a=b
 ·rw[if_pos h,show((a:Int)==(b:Int))=true from by rw[h];exact beq_self_eq_true _];rfl
 ·rw[if_neg h,show((a:Int)==(b:Int))=false from beq_eq_false_iff_ne.2 (by omega),cond_false,Option.bind_some]
  dsimp only
  rw[decide_eq_true (by simp only[List.length_cons,List.length_nil];omega),cond_true,Option.bind_some]
  dsimp only
  rw[decide_eq_true (by simp only[List.length_append,List.length_cons,List.length_nil];omega),cond_true]
theorem pair_S {a b:Nat}(ha:a≤10000)(hb:b≤10000):f_S_l5Numbers (a:Int) (b:Int)=some ((pairT a b,()),()):=by
 have h1:=dec_len a (by omega)
 have h2:=dec_len b (by omega)
 unfold f_S_l5Numbers pairT
 rw[num_S a (by omega),num_S b (by omega)]
 by_cases h:a=b
 ·rw[if_pos h,show((a:Int)==(b:Int))=true from by rw[h];exact beq_self_eq_true _];rfl
 ·rw[if_neg h,show((a:Int)==(b:Int))=false from beq_eq_false_iff_ne.2 (by omega),cond_false,Option.bind_some]
  dsimp only
  rw[decide_eq_true (by simp only[List.length_cons,List.length_nil];omega),cond_true,Option.bind_some]
  dsimp only
  rw[decide_eq_true (by simp only[List.length_append,List.length_cons,List.length_nil];omega),cond_true]
theorem foldl_app {α:Type}(f:α→List UInt8):∀(l:List α) (a:List UInt8),l.foldl (fun a r=>a++f r) a=a++l.flatMap f
 |[],a=>by simp
 |x::l,a=>by rw[List.foldl_cons,foldl_app f l,List.flatMap_cons,List.append_assoc]
theorem join_empty:∀xs:TX,Go.Lib.join xs []=xs.flatten
 |[]=>rfl
 |x::r=>by
  rw[Go.Lib.join_cons]
  have:∀r:TX,Go.Lib.joinTail [] r=r.flatten:=fun r=>by
   unfold Go.Lib.joinTail
   rw[show(r.map fun s=>([]:List UInt8)++s)=r from by rw[show(fun s:List UInt8=>([]:List UInt8)++s)=id from funext fun s=>rfl,List.map_id]]
  rw[this,List.flatten_cons]
theorem lines_len:∀{l:TX},(∀s∈l,s.length≤30)→l.flatten.length≤30*l.length
 |[],_=>by simp
 |s::l,h=>by
  have h1:=h s (List.mem_cons_self ..)
  have h2:=lines_len (l:=l) fun y hy=>h y (List.mem_cons_of_mem _ hy)
  rw[List.flatten_cons,List.length_append,List.length_cons,Nat.mul_add]
  omega
theorem text_S (l:TX)(hl:l.length≤40)(h:∀s∈l,s.length≤30):f_S_l1Text l=some ((l.flatten,()),()):=by
 have hF:=fix_fold (B:=fun d=>b_S_l1Text_3 d.1 d.2.1 d.2.2.1 d.2.2.2.1) l (fun(o:List UInt8) s=>o++s) (fun o i=>(o,l,(l.length:Int),(i:Int),())) (fun o=>(o,())) (fun i o=>o.length≤30*i)
  (fun i hi o hI=>by
    have h0:=h _ (List.getElem_mem hi)
    refine⟨by rw[List.length_append];omega,?_⟩
    show b_S_l1Text_3 o l l.length i=_
    unfold b_S_l1Text_3
    rw[decide_eq_true (by omega:(i:Int)<(l.length:Int)),cond_true,inB_lt hi,cond_true,toNat_cast,getD_of hi,decide_eq_true (by omega),cond_true,wrap64 (by omega) (by omega)]
    rfl)
  (fun o hI=>by
    show b_S_l1Text_3 o l l.length l.length=_
    unfold b_S_l1Text_3
    rw[decide_eq_false (Int.lt_irrefl _),cond_false]) [] (Nat.zero_le _)
 unfold f_S_l1Text
 rw[show w_S_l1Text_3 ([],l,(l.length:Int),0,())=_ from hF.1,Option.bind_some]
 dsimp only
 have hm:∀(l:TX) (o:List UInt8),l.foldl (fun(o:List UInt8) s=>o++s) o=o++l.flatten:=by
  intro l
  induction l with
  |nil=>intro o;simp
  |cons s l ih=>intro o;rw[List.foldl_cons,ih,List.flatten_cons,List.append_assoc]
 rw[hm,List.nil_append]
theorem join_I (l:TX)(hl:l.length≤40)(h:∀s∈l,s.length≤30):f_strings_Join l []=some ((l.flatten,()),()):=by
 have:=lines_len h
 unfold f_strings_Join joinF
 rw[join_empty,decide_eq_true (by omega),decide_eq_true (by omega)]
 rfl
def wordT (k:Int):List UInt8:=gs0.getD k.toNat []
def newT (l:TX):List UInt8:=if 0<l.length then l.flatten++[46,10] else[]
def ordT (x:PV Y_impl_Order):List UInt8:=((pairT x.2.1.toNat x.2.2.1.toNat++wordT x.1)++[10])++newT x.2.2.2.1
theorem fresh_ok {l:TX}(h:freshP l=true):l.length≤40∧∀s∈l,s.length≤30:=by
 unfold freshP inI at h
 simp only[Bool.and_eq_true,decide_eq_true_eq,Bool.not_eq_true'] at h
 refine⟨by omega,fun s hs=> ?_⟩
 have h1:=List.any_eq_false.1 h.2 s hs
 unfold badO at h1
 cases hl:lineP s with
 |false=>rw[hl] at h1;exact absurd rfl h1
 |true=>exact(line_len hl).2
theorem kinds {k:Int}{e g f z:Bool}(h:(bif k==1 then e&&f else bif k==2 then e&&(g&&f) else bif k==3 then g&&f else bif k==4 then g&&z else bif k==5 then g&&(e&&z) else false)=true):(1≤k∧k≤5)∧(f=true∨z=true):=by
 by_cases k1:k=1
 ·subst k1;cases e<;>cases g<;>cases f<;>cases z<;>simp_all
 by_cases k2:k=2
 ·subst k2;cases e<;>cases g<;>cases f<;>cases z<;>simp_all
 by_cases k3:k=3
 ·subst k3;cases e<;>cases g<;>cases f<;>cases z<;>simp_all
 by_cases k4:k=4
 ·subst k4;cases e<;>cases g<;>cases f<;>cases z<;>simp_all
 by_cases k5:k=5
 ·subst k5;cases e<;>cases g<;>cases f<;>cases z<;>simp_all
 ·simp[k1,k2,k3,k4,k5] at h
theorem order_ok {x:PV Y_impl_Order}(h:orderP x=true):(∃a:Nat,x.2.1=(a:Int)∧a≤1000)∧(∃b:Nat,x.2.2.1=(b:Int)∧b≤1000)∧(1≤x.1∧x.1≤5)∧List.length x.2.2.2.1≤40∧∀s∈(x.2.2.2.1:TX),s.length≤30:=by
 unfold orderP inI at h
 rw[Bool.and_eq_true] at h
 obtain⟨h1,h2⟩:=h
 simp only[Bool.and_eq_true,decide_eq_true_eq] at h1
 have hk:(1≤x.1∧x.1≤5)∧(freshP x.2.2.2.1=true∨(List.length x.2.2.2.1:Int)=0):=by
  obtain⟨k1,k2⟩:=kinds (k:=x.1) h2
  exact⟨k1,k2.imp id fun h=>beq_iff_eq.1 h⟩
 refine⟨⟨x.2.1.toNat,(Int.toNat_of_nonneg (by omega)).symm,by omega⟩,⟨x.2.2.1.toNat,(Int.toNat_of_nonneg (by omega)).symm,by omega⟩,hk.1,?_⟩
 rcases hk.2 with hf|h0
 ·exact fresh_ok hf
 ·have:List.length x.2.2.2.1=0:=by omega
  exact⟨by omega,fun s hs=>by rw[List.eq_nil_of_length_eq_zero this] at hs;cases hs⟩
theorem word_len {k:Int}(h:1≤k∧k≤5):(wordT k).length≤5:=by
 have:k=1∨k=2∨k=3∨k=4∨k=5:=by omega
 rcases this with rfl|rfl|rfl|rfl|rfl<;>decide
theorem newT_len {l:TX}(hl:l.length≤40)(h:∀s∈l,s.length≤30):(newT l).length≤1202:=by
 have:=lines_len h
 unfold newT
 split
 ·simp only[List.length_append,List.length_cons,List.length_nil];omega
 ·exact Nat.zero_le _
theorem ordT_len {x:PV Y_impl_Order}(h:orderP x=true):(ordT x).length≤1300:=by
 obtain⟨⟨a,ea,ha⟩,⟨b,eb,hb⟩,hk,hl,hs⟩:=order_ok h
 have h1:=pairT_len (a:=a) (b:=b) (by omega) (by omega)
 have h2:=word_len hk
 have h3:=newT_len hl hs
 unfold ordT
 rw[ea,eb,toNat_cast,toNat_cast]
 simp only[List.length_append,List.length_cons,List.length_nil];omega
theorem in6 {k:Int}(h:1≤k∧k≤5):inB k 6=true:=by
 have:k=1∨k=2∨k=3∨k=4∨k=5:=by omega
 rcases this with rfl|rfl|rfl|rfl|rfl<;>decide
theorem step_I {x:PV Y_impl_Order}(h:orderP x=true){l:List (PV Y_impl_Order)}{i:Nat}(hi:i<l.length)(hx:l[i]=x)(hll:l.length≤60){o:List UInt8}(ho:o.length≤1300*i):
 b_I_OrdersText_5 o l (l.length:Int) (i:Int)=some (.inl (o++ordT x,l,(l.length:Int),((i+1:Nat):Int),())):=by
 obtain⟨⟨a,ea,ha⟩,⟨b,eb,hb⟩,hk,hl,hs⟩:=order_ok h
 have h1:=pairT_len (a:=a) (b:=b) (by omega) (by omega)
 have h2:=word_len hk
 have h3:=lines_len hs
 unfold b_I_OrdersText_5
 rw[decide_eq_true (by omega:(i:Int)<(l.length:Int)),cond_true,inB_lt hi,cond_true,toNat_cast,getD_of hi,hx,ea,eb,pair_I (by omega) (by omega),Option.bind_some]
 rw[show gs0.length=6 from rfl,in6 hk,cond_true,show gs0.getD x.1.toNat []=wordT x.1 from rfl]
 dsimp only
 rw[decide_eq_true (by omega),cond_true,decide_eq_true (by simp only[List.length_append,List.length_cons,List.length_nil];omega),cond_true,join_I _ hl hs,Option.bind_some]
 dsimp only
 rw[decide_eq_true (by simp only[List.length_append,List.length_cons,List.length_nil];omega),cond_true,decide_eq_true (by simp only[List.length_append,List.length_cons,List.length_nil];omega),cond_true]
 unfold ordT newT
 rw[ea,eb,toNat_cast,toNat_cast]
 by_cases h0:0<List.length x.2.2.2.1
 ·rw[decide_eq_true (by omega:(List.length x.2.2.2.1:Int)>0),cond_true,decide_eq_true (by simp only[List.length_append,List.length_cons,List.length_nil];omega),cond_true,if_pos h0,Option.bind_some]
  dsimp only
  rw[wrap64 (by omega) (by omega)]
  simp only[List.append_assoc,Int.natCast_add]
  rfl
 ·rw[decide_eq_false (by omega:¬(List.length x.2.2.2.1:Int)>0),cond_false,if_neg h0,Option.bind_some]
  dsimp only
  rw[wrap64 (by omega) (by omega)]
  rw[List.eq_nil_of_length_eq_zero (l:=x.2.2.2.1) (by omega)]
  simp only[List.append_assoc,List.flatten_nil,List.append_nil,Int.natCast_add]
  rfl
theorem step_S {x:PV Y_impl_Order}(h:orderP x=true){l:List (PV Y_impl_Order)}{i:Nat}(hi:i<l.length)(hx:l[i]=x)(hll:l.length≤60){o:List UInt8}(ho:o.length≤1300*i):
 b_S_l9Text_3 o l (l.length:Int) (i:Int)=some (.inl (o++ordT x,l,(l.length:Int),((i+1:Nat):Int),())):=by
 obtain⟨⟨a,ea,ha⟩,⟨b,eb,hb⟩,hk,hl,hs⟩:=order_ok h
 have h1:=pairT_len (a:=a) (b:=b) (by omega) (by omega)
 have h2:=word_len hk
 have h3:=lines_len hs
 unfold b_S_l9Text_3 f_S_l9Words
 rw[decide_eq_true (by omega:(i:Int)<(l.length:Int)),cond_true,inB_lt hi,cond_true,toNat_cast,getD_of hi,hx,ea,eb,pair_S (by omega) (by omega),Option.bind_some,Option.bind_some]
 dsimp only
 rw[show([[],[97],[105],[99],[100],[115,47,46,47,47]]:TX)=gs0 from rfl,show List.length gs0=6 from rfl,in6 hk,cond_true,show gs0.getD x.1.toNat []=wordT x.1 from rfl]
 rw[decide_eq_true (by omega),cond_true,decide_eq_true (by simp only[List.length_append,List.length_cons,List.length_nil];omega),cond_true,decide_eq_true (by simp only[List.length_append,List.length_cons,List.length_nil];omega),cond_true]
 unfold ordT newT
 rw[ea,eb,toNat_cast,toNat_cast]
 by_cases h0:0<List.length x.2.2.2.1
 ·rw[decide_eq_true (by omega:(List.length x.2.2.2.1:Int)>0),cond_true,text_S _ hl hs,Option.bind_some]
  dsimp only
  rw[decide_eq_true (by simp only[List.length_cons,List.length_nil];omega),cond_true,decide_eq_true (by simp only[List.length_append,List.length_cons,List.length_nil];omega),cond_true,if_pos h0,Option.bind_some]
  dsimp only
  rw[wrap64 (by omega) (by omega)]
  simp only[List.append_assoc,Int.natCast_add]
  rfl
 ·rw[decide_eq_false (by omega:¬(List.length x.2.2.2.1:Int)>0),cond_false,if_neg h0,Option.bind_some]
  dsimp only
  rw[wrap64 (by omega) (by omega)]
  simp only[List.append_assoc,List.append_nil,Int.natCast_add]
  rfl
def textO (l:List (PV Y_impl_Order)):List UInt8:=l.flatMap ordT
theorem good_at {l:List (PV Y_impl_Order)}(h:ordersP l=true):l.length≤60∧∀x∈l,orderP x=true:=by
 unfold ordersP at h
 rw[Bool.and_eq_true,decide_eq_true_eq,Bool.not_eq_true'] at h
 exact⟨h.1,fun x hx=>by simpa using List.any_eq_false.1 h.2 x hx⟩
theorem loop_IT {l:List (PV Y_impl_Order)}(h:ordersP l=true):w_I_OrdersText_5 ([],l,(l.length:Int),0,())=some (textO l,()):=by
 obtain⟨hl,hg⟩:=good_at h
 have hF:=fix_fold (B:=fun d=>b_I_OrdersText_5 d.1 d.2.1 d.2.2.1 d.2.2.2.1) l (fun(o:List UInt8) x=>o++ordT x) (fun o i=>(o,l,(l.length:Int),(i:Int),())) (fun o=>(o,())) (fun i o=>o.length≤1300*i)
  (fun i hi o hI=>by
    have hx:=hg _ (List.getElem_mem hi)
    have:=ordT_len hx
    exact⟨by rw[List.length_append];omega,step_I hx hi rfl hl hI⟩)
  (fun o hI=>by
    show b_I_OrdersText_5 o l l.length l.length=_
    unfold b_I_OrdersText_5
    rw[decide_eq_false (Int.lt_irrefl _),cond_false]) [] (Nat.zero_le _)
 rw[show w_I_OrdersText_5 ([],l,(l.length:Int),0,())=_ from hF.1,foldl_app]
 rfl
theorem loop_ST {l:List (PV Y_impl_Order)}(h:ordersP l=true):w_S_l9Text_3 ([],l,(l.length:Int),0,())=some (textO l,()):=by
 obtain⟨hl,hg⟩:=good_at h
 have hF:=fix_fold (B:=fun d=>b_S_l9Text_3 d.1 d.2.1 d.2.2.1 d.2.2.2.1) l (fun(o:List UInt8) x=>o++ordT x) (fun o i=>(o,l,(l.length:Int),(i:Int),())) (fun o=>(o,())) (fun i o=>o.length≤1300*i)
  (fun i hi o hI=>by
    have hx:=hg _ (List.getElem_mem hi)
    have:=ordT_len hx
    exact⟨by rw[List.length_append];omega,step_S hx hi rfl hl hI⟩)
  (fun o hI=>by
    show b_S_l9Text_3 o l l.length l.length=_
    unfold b_S_l9Text_3
    rw[decide_eq_false (Int.lt_irrefl _),cond_false]) [] (Nat.zero_le _)
 rw[show w_S_l9Text_3 ([],l,(l.length:Int),0,())=_ from hF.1,foldl_app]
 rfl
def oOk (l:List (PV Y_impl_Order)):Bool:=ordersP l&&decide ((textO l).length≤3000)
def oR (l:List (PV Y_impl_Order)):List UInt8:=if oOk l=true then textO l else[]
theorem text_I {l:List (PV Y_impl_Order)}(hs:tot S_impl_Order l≤4611686018427387904):f_I_OrdersText l=some ((oR l,oOk l,()),()):=by
 unfold f_I_OrdersText oR oOk f_I_short
 rw[orders_I l hs,Option.bind_some]
 dsimp only
 cases hg:ordersP l
 ·rfl
 ·rw[Bool.not_true,cond_false,loop_IT hg,Option.bind_some]
  dsimp only
  by_cases h:(textO l).length≤3000
  ·rw[decide_eq_false (by omega:¬((textO l).length:Int)>3000),decide_eq_true h];rfl
  ·rw[decide_eq_true (by omega:((textO l).length:Int)>3000),decide_eq_false h];rfl
theorem text_ST {l:List (PV Y_impl_Order)}(hs:tot S_impl_Order l≤4611686018427387904):f_S_OrdersText l=some ((oR l,oOk l,()),()):=by
 unfold f_S_OrdersText oR oOk f_S_l9Text
 rw[orders_S l hs,Option.bind_some]
 dsimp only
 cases hg:ordersP l
 ·rfl
 ·rw[Bool.not_true,cond_false,loop_ST hg,Option.bind_some,Option.bind_some,Option.bind_some]
  dsimp only
  by_cases h:(textO l).length≤3000
  ·rw[decide_eq_false (by omega:¬((textO l).length:Int)>3000),decide_eq_true h,cond_false,loop_ST hg,Option.bind_some,Option.bind_some];rfl
  ·rw[decide_eq_true (by omega:((textO l).length:Int)>3000),decide_eq_false h];rfl
end R
end

section
/- Texts cut: what the leaves of both sides answer. -/
open Go Go.Dn
namespace R.V
set_option linter.unusedVariables false
theorem suffixG_I (s p:List UInt8)(hs:s.length≤100000)(hp:p.length≤100):f_internal_stringslite_HasSuffix s p=some ((s.drop (s.length -p.length)==p,()),()):=by
 unfold f_internal_stringslite_HasSuffix
 by_cases h:p.length≤s.length
 ·rw[decide_eq_true (by omega:(s.length:Int)≥(p.length:Int)),cond_true,wrap64 (by omega) (by omega),show(s.length:Int) -(p.length:Int)=((s.length -p.length:Nat):Int) by omega]
  rw[show cutB ((s.length -p.length:Nat):Int) (s.length:Int) s.length=true from by unfold cutB;simp,cond_true]
  unfold cutL
  simp
 ·rw[decide_eq_false (by omega:¬(s.length:Int)≥(p.length:Int)),cond_false]
  have:(s.drop (s.length -p.length)==p)=false:=beq_eq_false_iff_ne.2 fun e=>by
   have:=congrArg List.length e
   rw[List.length_drop] at this;omega
  rw[this]
def plainB (s:List UInt8):List UInt8:=bif endP s then s.take (s.length -1) else s
theorem plain_I (s:List UInt8)(hs:s.length≤100000):f_I_plain s=some ((plainB s,()),()):=by
 unfold f_I_plain f_strings_TrimSuffix f_internal_stringslite_TrimSuffix plainB
 rw[suffixG_I s [10] hs (by decide),Option.bind_some]
 dsimp only
 rw[show(s.drop (s.length -[(10:UInt8)].length)==[10])=endP s from rfl]
 cases h:endP s
 ·rfl
 ·have h1:1≤s.length:=by
   cases s with
   |nil=>cases h
   |cons a s=>simp
  rw[cond_true,cond_true,show(([(10:UInt8)].length:Nat):Int)=1 from rfl,wrap64 (by omega) (by omega),show(s.length:Int) -1=((s.length -1:Nat):Int) by omega]
  rw[show cutB 0 ((s.length -1:Nat):Int) s.length=true from by unfold cutB;simp,cond_true]
  unfold cutL
  simp
theorem cut_some {s sep:List UInt8}{i:Nat}(hs:s.length≤100000)(hp:sep.length≤100)(hi:i+sep.length≤s.length)(h:f_internal_stringslite_Index s sep=some (((i:Int),()),())):
 f_strings_Cut s sep=some ((s.take i,s.drop (i+sep.length),true,()),()):=by
 unfold f_strings_Cut f_internal_stringslite_Cut
 rw[h,Option.bind_some]
 dsimp only
 rw[decide_eq_true (by omega:(i:Int)≥0),cond_true,show cutB 0 (i:Int) s.length=true from by unfold cutB;simp;omega,cond_true,wrap64 (by omega) (by omega)]
 rw[show(i:Int)+(sep.length:Int)=((i+sep.length:Nat):Int) by omega,show cutB ((i+sep.length:Nat):Int) (s.length:Int) s.length=true from by unfold cutB;simp;omega,cond_true]
 show some (((s.take ((i:Nat):Int).toNat).drop 0,(s.take ((s.length:Nat):Int).toNat).drop (((i+sep.length:Nat):Int)).toNat,true,()),())=_
 rw[toNat_cast,toNat_cast,toNat_cast,List.take_length,List.drop_zero]
theorem cut_none {s sep:List UInt8}(h:f_internal_stringslite_Index s sep=some ((-1,()),())):f_strings_Cut s sep=some ((s,[],false,()),()):=by
 unfold f_strings_Cut f_internal_stringslite_Cut
 rw[h,Option.bind_some]
 rfl
theorem comma_I (s:List UInt8)(hs:s.length≤100000):f_strings_Cut s [44]=some ((match comma s with|none=>(s,[],false,())|some (a,b)=>(a,b,true,())),()):=by
 by_cases h:(44:UInt8)∈s
 ·obtain⟨t,r,rfl,ht⟩:=first_of h
  rw[comma_at r ht,cut_some (i:=t.length) hs (by decide) (by simp) (by unfold f_internal_stringslite_Index indexF;dsimp only;rw[indexByte_at 44 r ht])]
  dsimp only
  rw[List.take_left' rfl,show t.length+[(44:UInt8)].length=(t++[44]).length by simp,show t++(44:UInt8)::r=(t++[44])++r by simp,List.drop_left' rfl]
 ·rw[comma_no h,cut_none (by unfold f_internal_stringslite_Index indexF;dsimp only;rw[indexByte_not 44 h])]
end R.V
end

section
/- The lines of a text, and its pieces. -/
open Go Go.Dn
namespace R.V
set_option linter.unusedVariables false
abbrev TX:=List (List UInt8)
theorem linesOf_I (s:List UInt8)(hs:s.length≤100000):f_I_linesOf s=some ((cutP s,()),()):=by
 unfold f_I_linesOf
 by_cases h:s=[]
 ·subst h;rfl
 ·rw[show(s==[])=false from beq_eq_false_iff_ne.2 h,cond_false]
  have hsp:f_strings_SplitAfter s [10]=some ((spl s,()),()):=by
   unfold f_strings_SplitAfter f_strings_genSplit splitF
   dsimp only
   rw[show(([(10:UInt8)].length:Nat):Int)=1 from rfl,show((1:Int)==1)=true from rfl,show((-1:Int)==-1)=true from rfl,decide_eq_true (by omega),splitK_spl _ s rfl]
   rfl
  rw[hsp,Option.bind_some]
  dsimp only
  obtain⟨q,h1,h2⟩:=spl_lines h
  generalize hL:spl s=L at*
  generalize hx:L.getLastD []=x at*
  have hlen:L.length=q.length+1:=by rw[h1];simp
  have hll:q.length≤100000:=by
   have hc:=cutP_len s
   rw[←h2] at hc
   split at hc<;>omega
  rw[wrap64 (by omega) (by omega),show(L.length:Int) -1=((q.length:Nat):Int) by omega,inB_lt (by omega),cond_true,toNat_cast]
  have hg:L.getD q.length []=x:=by rw[h1];simp
  rw[hg]
  by_cases hx0:x=[]
  ·rw[show(x==[])=true from beq_iff_eq.2 hx0,cond_true,show cutB 0 ((q.length:Nat):Int) L.length=true from by unfold cutB;simp;omega,cond_true,Option.bind_some]
   rw[if_pos hx0] at h2
   rw[←h2]
   have:cutL 0 ((q.length:Nat):Int) L=q:=by
    show(L.take ((q.length:Nat):Int).toNat).drop 0=q
    rw[toNat_cast,List.drop_zero,h1,List.take_left' rfl]
   rw[this]
  ·rw[show(x==[])=false from beq_eq_false_iff_ne.2 hx0,cond_false,Option.bind_some]
   rw[if_neg hx0] at h2
   rw[←h2]
theorem cut_at {α:Type}(p c r:List α):cutL (p.length:Int) ((p.length+c.length:Nat):Int) (p++c++r)=c:=by
 unfold cutL
 rw[toNat_cast,toNat_cast,List.take_left' (by simp),List.drop_left' rfl]
theorem byte_eq (a b:UInt8):(((a.toNat:Nat):Int)==((b.toNat:Nat):Int))=(a==b):=by
 rw[Bool.eq_iff_iff,beq_iff_eq,beq_iff_eq]
 constructor
 ·intro h
  exact UInt8.toNat_inj.1 (by omega)
 ·rintro rfl;rfl
theorem l1Cut_go (s:List UInt8)(hs:s.length≤100000):∀(rest cur pre:List UInt8) (acc:TX),(10:UInt8)∉cur→s=pre++cur++rest→acc.length≤pre.length→
 (w_S_l1Cut_4 (s,acc,(pre.length:Int),((pre.length+cur.length:Nat):Int),())).bind (fun l3=>
 ((
   bif (decide (l3.2.2.1<(l3.1.length:Int))) then
    bif cutB l3.2.2.1 (l3.1.length:Int) l3.1.length then
     bif roomB (l3.2.1.length+[(cutL l3.2.2.1 (l3.1.length:Int) l3.1)].length) then
      some ((l3.2.1++[(cutL l3.2.2.1 (l3.1.length:Int) l3.1)]),())
     else
      none
    else
     none
   else
    some (l3.2.1,()):Option ((PV S_string×Unit)))).bind fun j4=>
   (some ((j4.1,()),()):Option (PVs [S_string]×PVs [])))=some ((acc++cutP (cur++rest),()),())
 |[],cur,pre,acc,hc,e,ha=>by
  have hl:s.length=pre.length+cur.length:=by rw[e];simp
  have:w_S_l1Cut_4 (s,acc,(pre.length:Int),((pre.length+cur.length:Nat):Int),())=some (s,acc,(pre.length:Int),()):=by
   refine fix_end ?_
   show b_S_l1Cut_4 s acc (pre.length:Int) ((pre.length+cur.length:Nat):Int)=_
   unfold b_S_l1Cut_4
   rw[decide_eq_false (by omega:¬((pre.length+cur.length:Nat):Int)<(s.length:Int)),cond_false]
  rw[this,Option.bind_some]
  dsimp only
  rw[List.append_nil] at e ⊢
  by_cases h0:cur=[]
  ·subst h0
   rw[decide_eq_false (by rw[List.length_nil] at hl;omega:¬(pre.length:Int)<(s.length:Int)),cond_false,Option.bind_some]
   simp[cutP]
  ·have h1:0<cur.length:=List.length_pos_iff.2 h0
   have hx:cutL (pre.length:Int) (s.length:Int) s=cur:=by
    have:=cut_at pre cur []
    rw[List.append_nil,←e,←hl] at this
    exact this
   rw[decide_eq_true (by omega:(pre.length:Int)<(s.length:Int)),cond_true,show cutB (pre.length:Int) (s.length:Int) s.length=true from by unfold cutB;simp;omega,cond_true,hx,roomB_ok (by simp;omega),cond_true,Option.bind_some]
   rw[cutP_rest hc h0]
 |b::rest,cur,pre,acc,hc,e,ha=>by
  have hl:s.length=pre.length+cur.length+rest.length+1:=by rw[e];simp;omega
  have hlt:pre.length+cur.length<s.length:=by omega
  have hb:s[pre.length+cur.length]=b:=by
   simp only[e]
   rw[List.getElem_append_right (by simp)]
   simp
  by_cases h10:b=10
  ·have hx:cutL (pre.length:Int) ((pre.length+cur.length+1:Nat):Int) s=cur++[10]:=by
    have:=cut_at pre (cur++[10]) rest
    rw[show pre++(cur++[10])++rest=s from by rw[e,h10];simp,show(cur++[(10:UInt8)]).length=cur.length+1 by simp] at this
    exact this
   have:w_S_l1Cut_4 (s,acc,(pre.length:Int),((pre.length+cur.length:Nat):Int),())=w_S_l1Cut_4 (s,acc++[cur++[10]],((pre.length+cur.length+1:Nat):Int),((pre.length+cur.length+1:Nat):Int),()):=by
    refine fix_go ?_
    show b_S_l1Cut_4 s acc (pre.length:Int) ((pre.length+cur.length:Nat):Int)=_
    unfold b_S_l1Cut_4
    rw[decide_eq_true (by omega:((pre.length+cur.length:Nat):Int)<(s.length:Int)),cond_true,inB_lt hlt,cond_true,toNat_cast,getD_of hlt,hb,h10,show((((10:UInt8).toNat:Nat):Int)==10)=true from rfl,cond_true,wrap64 (by omega) (by omega)]
    rw[show((pre.length+cur.length:Nat):Int)+1=((pre.length+cur.length+1:Nat):Int) from rfl,show cutB (pre.length:Int) ((pre.length+cur.length+1:Nat):Int) s.length=true from by unfold cutB;simp;omega,cond_true,hx,roomB_ok (by simp;omega),cond_true,Option.bind_some]
    dsimp only
    rw[wrap64 (by omega) (by omega)]
    rfl
   rw[this]
   have ih:=l1Cut_go s hs rest [] (pre++(cur++[10])) (acc++[cur++[10]]) (by simp) (by rw[e,h10];simp) (by simp;omega)
   rw[show(pre++(cur++[(10:UInt8)])).length=pre.length+cur.length+1 by simp;omega] at ih
   simp only[List.length_nil,Nat.add_zero,List.nil_append] at ih
   rw[ih,h10,cutP_line rest hc]
   simp
  ·have:w_S_l1Cut_4 (s,acc,(pre.length:Int),((pre.length+cur.length:Nat):Int),())=w_S_l1Cut_4 (s,acc,(pre.length:Int),((pre.length+(cur++[b]).length:Nat):Int),()):=by
    refine fix_go ?_
    show b_S_l1Cut_4 s acc (pre.length:Int) ((pre.length+cur.length:Nat):Int)=_
    unfold b_S_l1Cut_4
    have hne:(((b.toNat:Nat):Int)==10)=false:=by
     rw[show(10:Int)=(((10:UInt8).toNat:Nat):Int) from rfl,byte_eq]
     exact beq_eq_false_iff_ne.2 h10
    rw[decide_eq_true (by omega:((pre.length+cur.length:Nat):Int)<(s.length:Int)),cond_true,inB_lt hlt,cond_true,toNat_cast,getD_of hlt,hb,hne,cond_false,Option.bind_some]
    dsimp only
    rw[wrap64 (by omega) (by omega),List.length_append]
    rfl
   rw[this]
   have ih:=l1Cut_go s hs rest (cur++[b]) pre acc (by simp only[List.mem_append,List.mem_singleton,not_or];exact⟨hc,fun h=>h10 h.symm⟩) (by rw[e];simp) ha
   rw[ih]
   simp
theorem l1Cut_S (s:List UInt8)(hs:s.length≤100000):f_S_l1Cut s=some ((cutP s,()),()):=by
 unfold f_S_l1Cut
 exact l1Cut_go s hs s [] [] [] (by simp) (by simp) (Nat.le_refl _)
def splitC (c:UInt8):List UInt8→TX
 |[]=>[[]]
 |b::s=>if b=c then[]::splitC c s else match splitC c s with
  |[]=>[[b]]
  |h::t=>(b::h)::t
theorem splitC_go {c b:UInt8}(h:b≠c)(s:List UInt8):splitC c (b::s)=match splitC c s with
 |[]=>[[b]]
 |h::t=>(b::h)::t:=by simp[splitC,h]
theorem splitC_not {c:UInt8}:∀{t:List UInt8},c∉t→splitC c t=[t]
 |[],_=>rfl
 |b::t,h=>by
  rw[splitC_go (fun e=>h (by rw[e];exact List.mem_cons_self ..)),splitC_not (t:=t) fun m=>h (List.mem_cons_of_mem _ m)]
theorem splitC_at {c:UInt8}(r:List UInt8):∀{t:List UInt8},c∉t→splitC c (t++c::r)=t::splitC c r
 |[],_=>by simp[splitC]
 |b::t,h=>by
  rw[List.cons_append,splitC_go (fun e=>h (by rw[e];exact List.mem_cons_self ..)),splitC_at r (t:=t) fun m=>h (List.mem_cons_of_mem _ m)]
theorem splitC_ne (c:UInt8)(s:List UInt8):splitC c s≠[]:=by
 cases s with
 |nil=>simp[splitC]
 |cons b s=>
  unfold splitC
  split
  ·simp
  ·split<;>simp
theorem l1Split_go (s:List UInt8)(c:UInt8)(hs:s.length≤100000):∀(rest cur pre:List UInt8) (acc:TX),c∉cur→s=pre++cur++rest→acc.length≤pre.length→
 (w_S_l1Split_4 (s,(c.toNat:Int),acc,(pre.length:Int),((pre.length+cur.length:Nat):Int),())).bind (fun l3=>
 bif cutB l3.2.2.1 (l3.1.length:Int) l3.1.length then
  bif roomB (l3.2.1.length+[(cutL l3.2.2.1 (l3.1.length:Int) l3.1)].length) then
   (some (((l3.2.1++[(cutL l3.2.2.1 (l3.1.length:Int) l3.1)]),()),()):Option (PVs [S_string]×PVs []))
  else
   none
 else
  none)=some ((acc++splitC c (cur++rest),()),())
 |[],cur,pre,acc,hc,e,ha=>by
  have hl:s.length=pre.length+cur.length:=by rw[e];simp
  have:w_S_l1Split_4 (s,(c.toNat:Int),acc,(pre.length:Int),((pre.length+cur.length:Nat):Int),())=some (s,acc,(pre.length:Int),()):=by
   refine fix_end ?_
   show b_S_l1Split_4 s (c.toNat:Int) acc (pre.length:Int) ((pre.length+cur.length:Nat):Int)=_
   unfold b_S_l1Split_4
   rw[decide_eq_false (by omega:¬((pre.length+cur.length:Nat):Int)<(s.length:Int)),cond_false]
  rw[this,Option.bind_some]
  dsimp only
  rw[List.append_nil] at e ⊢
  have hx:cutL (pre.length:Int) (s.length:Int) s=cur:=by
   have:=cut_at pre cur []
   rw[List.append_nil,←e,←hl] at this
   exact this
  rw[show cutB (pre.length:Int) (s.length:Int) s.length=true from by unfold cutB;simp;omega,cond_true,hx,roomB_ok (by simp;omega),cond_true]
  rw[splitC_not hc]
 |b::rest,cur,pre,acc,hc,e,ha=>by
  have hl:s.length=pre.length+cur.length+rest.length+1:=by rw[e];simp;omega
  have hlt:pre.length+cur.length<s.length:=by omega
  have hb:s[pre.length+cur.length]=b:=by
   simp only[e]
   rw[List.getElem_append_right (by simp)]
   simp
  by_cases h10:b=c
  ·have hx:cutL (pre.length:Int) ((pre.length+cur.length:Nat):Int) s=cur:=by
    rw[e];exact cut_at pre cur (b::rest)
   have:w_S_l1Split_4 (s,(c.toNat:Int),acc,(pre.length:Int),((pre.length+cur.length:Nat):Int),())=w_S_l1Split_4 (s,(c.toNat:Int),acc++[cur],((pre.length+cur.length+1:Nat):Int),((pre.length+cur.length+1:Nat):Int),()):=by
    refine fix_go ?_
    show b_S_l1Split_4 s (c.toNat:Int) acc (pre.length:Int) ((pre.length+cur.length:Nat):Int)=_
    unfold b_S_l1Split_4
    rw[decide_eq_true (by omega:((pre.length+cur.length:Nat):Int)<(s.length:Int)),cond_true,inB_lt hlt,cond_true,toNat_cast,getD_of hlt,hb,byte_eq,beq_iff_eq.2 h10,cond_true]
    rw[show cutB (pre.length:Int) ((pre.length+cur.length:Nat):Int) s.length=true from by unfold cutB;simp;omega,cond_true,hx,roomB_ok (by simp;omega),cond_true,wrap64 (by omega) (by omega),Option.bind_some]
    dsimp only
    rw[wrap64 (by omega) (by omega)]
    rfl
   rw[this]
   have ih:=l1Split_go s c hs rest [] (pre++(cur++[b])) (acc++[cur]) (by simp) (by rw[e];simp) (by simp;omega)
   rw[show(pre++(cur++[b])).length=pre.length+cur.length+1 by simp;omega] at ih
   simp only[List.length_nil,Nat.add_zero,List.nil_append] at ih
   rw[ih,h10,splitC_at rest hc]
   simp
  ·have:w_S_l1Split_4 (s,(c.toNat:Int),acc,(pre.length:Int),((pre.length+cur.length:Nat):Int),())=w_S_l1Split_4 (s,(c.toNat:Int),acc,(pre.length:Int),((pre.length+(cur++[b]).length:Nat):Int),()):=by
    refine fix_go ?_
    show b_S_l1Split_4 s (c.toNat:Int) acc (pre.length:Int) ((pre.length+cur.length:Nat):Int)=_
    unfold b_S_l1Split_4
    rw[decide_eq_true (by omega:((pre.length+cur.length:Nat):Int)<(s.length:Int)),cond_true,inB_lt hlt,cond_true,toNat_cast,getD_of hlt,hb,byte_eq,beq_eq_false_iff_ne.2 h10,cond_false,Option.bind_some]
    dsimp only
    rw[wrap64 (by omega) (by omega),List.length_append]
    rfl
   rw[this]
   have ih:=l1Split_go s c hs rest (cur++[b]) pre acc (by simp only[List.mem_append,List.mem_singleton,not_or];exact⟨hc,fun h=>h10 h.symm⟩) (by rw[e];simp) ha
   rw[ih]
   simp
theorem l1Split_S (s:List UInt8)(c:UInt8)(hs:s.length≤100000):f_S_l1Split s (c.toNat:Int)=some ((splitC c s,()),()):=by
 unfold f_S_l1Split
 exact l1Split_go s c hs s [] [] [] (by simp) (by simp) (Nat.le_refl _)
end R.V
end

section
/- Numbers and counts, as both sides read them. -/
open Go Go.Dn
namespace R.V
set_option linter.unusedVariables false
def digG (n:Nat)(x:UInt8):Nat⊕Unit:=if isDg x=true then .inl (dstep n x) else .inr ()
theorem run_dig:∀(l:List UInt8) (n:Nat),run digG n l=if l.all isDg=true then .inl (l.foldl dstep n) else .inr ()
 |[],n=>rfl
 |x::l,n=>by
  unfold run digG
  by_cases h:isDg x=true
  ·rw[if_pos h]
   dsimp only
   rw[show run (fun n x=>if isDg x=true then Sum.inl (dstep n x) else Sum.inr ()) (dstep n x) l=run digG (dstep n x) l from rfl,run_dig l]
   rw[List.all_cons,h,Bool.true_and,List.foldl_cons]
  ·rw[if_neg h]
   dsimp only
   rw[List.all_cons,if_neg (by simp[h])]
theorem dig_test (x:UInt8):isDg x=(!(decide (((x.toNat:Nat):Int)<48))&& !(decide (((x.toNat:Nat):Int)>57))):=by
 unfold isDg
 rw[Bool.eq_iff_iff]
 simp only[Bool.and_eq_true,decide_eq_true_eq,Bool.not_eq_true',decide_eq_false_iff_not]
 omega
theorem read_loop {s:List UInt8}(hs:s.length≤6):w_S_l1Read_5 (s,0,0,())=some (match (if s.all isDg=true then .inl (dval s) else .inr ():Nat⊕Unit) with| .inl b=>.inl ((b:Int),())| .inr _=>.inr (-1,())):=by
 have hpow:∀i,i≤6→10^i≤1000000:=fun i hi=>Nat.le_trans (Nat.pow_le_pow_right (by omega) hi) (by decide)
 have h:=(fix_run (B:=fun d=>b_S_l1Read_5 d.1 d.2.1 d.2.2.1) s digG (fun(n:Nat) i=>(s,(n:Int),(i:Int),())) (fun b=>(.inl ((b:Int),()):(PV (.int .i64)×Unit)⊕(PV (.int .i64)×Unit))) (fun _=>.inr (-1,())) (fun i n=>n<10^i)
  (fun i hi a b hI hg=>by
    have hp:=hpow i (by omega)
    unfold digG at hg
    split at hg
    ·rename_i hd
     obtain rfl:=Sum.inl.inj hg
     have h10:=dig_lt hd
     have hd0:=hd
     unfold isDg at hd0
     rw[Bool.and_eq_true,decide_eq_true_eq,decide_eq_true_eq] at hd0
     rw[dig_test,Bool.and_eq_true,Bool.not_eq_true',Bool.not_eq_true'] at hd
     refine⟨by unfold dstep;rw[Nat.pow_succ];omega,?_⟩
     show b_S_l1Read_5 s (a:Int) (i:Int)=_
     unfold b_S_l1Read_5
     rw[decide_eq_true (by omega:(i:Int)<(s.length:Int)),cond_true,inB_lt hi,cond_true,toNat_cast,getD_of hi,hd.1,cond_false,cond_true,hd.2,Option.bind_some]
     dsimp only
     rw[cond_false,inB_lt hi,cond_true,toNat_cast,getD_of hi,wrap8 (by omega) (by omega),wrap64 (x:=10*(a:Int)) (by omega) (by omega),wrap64 (x:=((s[i].toNat:Nat):Int) -48) (by omega) (by omega),wrap64 (by omega) (by omega),wrap64 (by omega) (by omega)]
     unfold dstep
     rw[show 10*(a:Int)+(((s[i].toNat:Nat):Int) -48)=((10*a+(s[i].toNat -48):Nat):Int) by omega]
     rfl
    ·cases hg)
  (fun i hi a r hI hg=>by
    unfold digG at hg
    split at hg
    ·cases hg
    ·rename_i hd
     rw[dig_test] at hd
     show b_S_l1Read_5 s (a:Int) (i:Int)=_
     unfold b_S_l1Read_5
     rw[decide_eq_true (by omega:(i:Int)<(s.length:Int)),cond_true,inB_lt hi,cond_true,toNat_cast,getD_of hi,cond_true]
     cases h1:decide (((s[i].toNat:Nat):Int)<48)
     ·cases h2:decide (((s[i].toNat:Nat):Int)>57)
      ·rw[h1,h2] at hd;exact absurd rfl hd
      ·rfl
     ·rfl)
  (fun a hI=>by
    show b_S_l1Read_5 s (a:Int) (s.length:Int)=_
    unfold b_S_l1Read_5
    rw[decide_eq_false (Int.lt_irrefl _),cond_false]) 0 (by decide)).1
 rw[show w_S_l1Read_5 (s,0,0,())=_ from h,run_dig]
 unfold dval
 by_cases hd:s.all isDg=true
 ·rw[if_pos hd]
 ·rw[if_neg hd]
theorem number_S' (s:List UInt8)(hs:s.length≤100000):f_S_ReadNumber s=some ((if canon s=true then(dval s:Int) else 0,canon s,()),()):=by
 have hl:∀v:Int,f_S_l1Read s=some ((v,()),())→(canon s=true→v=(dval s:Int))→(canon s=false→s.length≤4→v<0)→f_S_ReadNumber s=some ((if canon s=true then(dval s:Int) else 0,canon s,()),()):=by
  intro v h h1 h2
  unfold f_S_ReadNumber
  rw[h,Option.bind_some]
  dsimp only
  cases hc:canon s with
  |true=>
   have h4:=(canon_at hc).1
   rw[h1 hc,decide_eq_false (by omega:¬(s.length:Int)>4),cond_false,Option.bind_some]
   dsimp only
   rw[decide_eq_false (by omega:¬(dval s:Int)<0),cond_false]
   rfl
  |false=>
   by_cases h4:s.length≤4
   ·have:=h2 hc h4
    rw[decide_eq_false (by omega:¬(s.length:Int)>4),cond_false,Option.bind_some]
    dsimp only
    rw[decide_eq_true this]
    rfl
   ·rw[decide_eq_true (by omega:(s.length:Int)>4)]
    rfl
 have hin:f_S_l1In (s.length:Int) 1 6=some ((decide ((s.length:Int)≥1)&&decide ((s.length:Int)≤6),()),()):=in_S _ _ _
 by_cases h16:1≤s.length∧s.length≤6
 ·have e16:(decide ((s.length:Int)≥1)&&decide ((s.length:Int)≤6))=true:=by
   rw[decide_eq_true (by omega),decide_eq_true (by omega)];rfl
  obtain⟨c,r,rfl⟩:∃c r,s=c::r:=by
   cases s with
   |nil=>simp at h16
   |cons c r=>exact⟨c,r,rfl⟩
  have hb:(((((c::r).getD (0:Int).toNat 0).toNat:Nat):Int)==48)=(c==48):=by
   show(((c.toNat:Nat):Int)==48)=_
   rw[show(48:Int)=(((48:UInt8).toNat:Nat):Int) from rfl,byte_eq]
  have hzero:c=48∧r≠[]→canon (c::r)=false:=by
   rintro⟨rfl,hr⟩
   obtain⟨d,q,rfl⟩:=List.exists_cons_of_ne_nil hr
   unfold canon lead
   simp
  by_cases hz:c=48∧r≠[]
  ·refine hl (-1) ?_ (fun h=>by rw[hzero hz] at h;cases h) fun _ _=>by omega
   unfold f_S_l1Read
   rw[hin,Option.bind_some,e16,show inB 0 (c::r).length=true from inB_lt (i:=0) (by simp),show(((((c::r).getD (0:Int).toNat 0).toNat:Nat):Int)==48)=true from by rw[hb,hz.1];rfl]
   have:0<r.length:=List.length_pos_iff.2 hz.2
   simp only[Bool.not_true,cond_false,cond_true]
   rw[decide_eq_true (by simp;omega:((c::r).length:Int)>1),Option.bind_some]
   rfl
  ·have hlead:lead (c::r)=true:=by
    cases r with
    |nil=>rfl
    |cons d q=>
     have:c≠48:=fun e=>hz ⟨e,by simp⟩
     simp[lead,this]
   have hgo:f_S_l1Read (c::r)=(w_S_l1Read_5 (c::r,0,0,())).bind fun x14=>
    match x14 with
    | .inl l12=>some ((l12.1,()),())
    | .inr l13=>some ((l13.1,()),()):=by
    unfold f_S_l1Read
    rw[hin,Option.bind_some,e16,show inB 0 (c::r).length=true from inB_lt (i:=0) (by simp),hb]
    simp only[Bool.not_true,cond_false,cond_true]
    cases hc48:c==48
    ·rw[cond_false,Option.bind_some];rfl
    ·have hr:r=[]:=Classical.byContradiction fun hn=>hz ⟨beq_iff_eq.1 hc48,hn⟩
     subst hr
     rfl
   rw[read_loop (by omega)] at hgo
   by_cases hd:(c::r).all isDg=true
   ·rw[if_pos hd] at hgo
    refine hl _ hgo (fun _=>rfl) fun hc h4=> ?_
    unfold canon at hc
    rw[hd,hlead,decide_eq_true h4] at hc
    cases hc
   ·rw[if_neg hd] at hgo
    refine hl _ hgo (fun hc=>absurd (canon_at hc).2.1 hd) fun _ _=>by show(-1:Int)<0;omega
 ·have e16:(decide ((s.length:Int)≥1)&&decide ((s.length:Int)≤6))=false:=by
   rw[Bool.and_eq_false_iff,decide_eq_false_iff_not,decide_eq_false_iff_not]
   omega
  refine hl (-1) ?_ (fun h=> ?_) fun _ _=>by omega
  ·unfold f_S_l1Read
   rw[hin,Option.bind_some,e16]
   rfl
  ·have h1:=(canon_at h).1
   have h2:=List.length_pos_iff.2 (canon_at h).2.2.2
   omega
theorem number_I' (s:List UInt8)(hs:s.length≤100000):f_I_readNumber s=some ((numV s,canon s,()),()):=by
 unfold f_I_readNumber numF
 rw[decide_eq_true (by omega:s.length≤1000000),cond_true,numB_canon]
end R.V
end

section
/- Ranges by their first and last line, as both sides read them. -/
open Go Go.Dn
namespace R.V
set_option linter.unusedVariables false
def twoN (s:List UInt8):Option (Nat×Nat×Bool):=match comma s with
 |none=>if canon s=true then some (dval s,dval s,false) else none
 |some (a,b)=>if canon a=true∧canon b=true then some (dval a,dval b,true) else none
def endR (less:Nat)(s:List UInt8):PVs [.int .i64,.int .i64,.bool]:=match twoN s with
 |none=>(0,0,false,())
 |some (n,m,two)=>bif decide (n≤1000)&&(decide (m≤1000)&& !(two&&decide (m+less<n))) then((n:Int),(m:Int),true,()) else(0,0,false,())
theorem twoN_one {s:List UInt8}{n m:Nat}(h:twoN s=some (n,m,false)):n=m:=by
 unfold twoN at h
 split at h
 ·split at h
  ·cases h;rfl
  ·cases h
 ·split at h
  ·cases h
  ·cases h
theorem comma_len {s a b:List UInt8}(hc:comma s=some (a,b)):a.length≤s.length∧b.length≤s.length:=by
 by_cases hm:(44:UInt8)∈s
 ·obtain⟨t,r,rfl,ht⟩:=first_of hm
  rw[comma_at r ht] at hc
  obtain⟨rfl,rfl⟩:=Prod.mk.inj (Option.some.inj hc)
  constructor<;>simp<;>omega
 ·rw[comma_no hm] at hc;cases hc
theorem readTwo_I (s:List UInt8)(hs:s.length≤100000):(∃n m t,twoN s=some (n,m,t)∧f_I_readTwo s=some (((n:Int),(m:Int),t,true,()),()))∨(twoN s=none∧∃n m t,f_I_readTwo s=some ((n,m,t,false,()),())):=by
 unfold f_I_readTwo twoN
 rw[comma_I s hs,Option.bind_some]
 cases hc:comma s with
 |none=>
  dsimp only
  rw[number_I' s hs,Option.bind_some,Bool.not_false,cond_true]
  cases hn:canon s with
  |false=>exact .inr ⟨by simp,_,_,_,rfl⟩
  |true=>exact .inl ⟨dval s,dval s,false,by simp,by rw[numV_canon hn]⟩
 |some p=>
  obtain⟨a,b⟩:=p
  obtain⟨h1,h2⟩:=comma_len hc
  dsimp only
  rw[number_I' a (by omega),Option.bind_some,Bool.not_true,cond_false,number_I' b (by omega),Option.bind_some]
  cases ha:canon a with
  |false=>exact .inr ⟨by simp,_,_,_,rfl⟩
  |true=>
   cases hb:canon b with
   |false=>exact .inr ⟨by simp,_,_,_,rfl⟩
   |true=>exact .inl ⟨dval a,dval b,true,by simp,by rw[numV_canon ha,numV_canon hb];rfl⟩
theorem readPair_S (s:List UInt8)(hs:s.length≤100000):f_S_ReadPair s=some (endR 0 s,()):=by
 have key:(∃n m t,twoN s=some (n,m,t)∧f_S_l4Two s=some ((bif decide (n≤1000)&&decide (m≤1000) then((n:Int),(m:Int),true,()) else(0,0,false,())),()))∨(twoN s=none∧f_S_l4Two s=some ((0,0,false,()),())):=by
  unfold f_S_l4Two twoN
  rw[show(44:Int)=(((44:UInt8).toNat:Nat):Int) from rfl,l1Split_S s 44 hs,Option.bind_some]
  dsimp only
  by_cases hm:(44:UInt8)∈s
  ·obtain⟨a,b,rfl,ht⟩:=first_of hm
   have hla:a.length≤100000:=by simp at hs;omega
   have hlb:b.length≤100000:=by simp at hs;omega
   rw[comma_at b ht,splitC_at b ht,show inB 0 (a::splitC 44 b).length=true from inB_lt (i:=0) (by simp),cond_true]
   rw[show(a::splitC 44 b).getD (0:Int).toNat []=a from rfl,number_S' a hla,Option.bind_some]
   dsimp only
   cases ha:canon a with
   |false=>exact .inr ⟨by simp,rfl⟩
   |true=>
    rw[Bool.not_true,cond_false,if_pos rfl]
    by_cases hb:(44:UInt8)∈b
    ·refine .inr ⟨?_,?_⟩
     ·rw[if_neg]
      intro h
      have:=canon_dg h.2 44 hb
      cases this
     ·obtain⟨b1,b2,rfl,hb1⟩:=first_of hb
      rw[splitC_at b2 hb1]
      have hlen:1≤(splitC 44 b2).length:=List.length_pos_iff.2 (splitC_ne 44 b2)
      rw[decide_eq_true (by simp;omega:((a::b1::splitC 44 b2).length:Int)>2)]
      rfl
    ·rw[splitC_not hb,show decide (((a::[b]).length:Int)>2)=false from rfl,cond_false]
     have h1:=canon_lt ha
     by_cases hn:dval a≤1000
     ·rw[decide_eq_false (by omega:¬(dval a:Int)>1000),Option.bind_some]
      dsimp only
      rw[cond_false,show(((a::[b]).length:Int)==1)=false from rfl,cond_false,show inB 1 (a::[b]).length=true from rfl,cond_true,show(a::[b]).getD (1:Int).toNat []=b from rfl,number_S' b hlb,Option.bind_some]
      dsimp only
      cases hbc:canon b with
      |false=>exact .inr ⟨by simp,rfl⟩
      |true=>
       have h2:=canon_lt hbc
       refine .inl ⟨dval a,dval b,true,by simp,?_⟩
       rw[Bool.not_true,cond_false,if_pos rfl,decide_eq_true hn,Bool.true_and]
       by_cases hmm:dval b≤1000
       ·rw[decide_eq_false (by omega:¬(dval b:Int)>1000),decide_eq_true hmm];rfl
       ·rw[decide_eq_true (by omega:(dval b:Int)>1000),decide_eq_false hmm];rfl
     ·rw[decide_eq_true (by omega:(dval a:Int)>1000),Option.bind_some]
      dsimp only
      rw[cond_true]
      cases hbc:canon b with
      |false=>exact .inr ⟨by simp,rfl⟩
      |true=>
       refine .inl ⟨dval a,dval b,true,by simp,?_⟩
       rw[decide_eq_false hn];rfl
  ·rw[comma_no hm,splitC_not hm,show inB 0 [s].length=true from rfl,cond_true,show[s].getD (0:Int).toNat []=s from rfl,number_S' s hs,Option.bind_some]
   dsimp only
   cases hn:canon s with
   |false=>exact .inr ⟨by simp,rfl⟩
   |true=>
    refine .inl ⟨dval s,dval s,false,by simp,?_⟩
    rw[Bool.not_true,cond_false,if_pos rfl,show decide (([s].length:Int)>2)=false from rfl,cond_false]
    by_cases h:dval s≤1000
    ·rw[decide_eq_false (by omega:¬(dval s:Int)>1000),decide_eq_true h];rfl
    ·rw[decide_eq_true (by omega:(dval s:Int)>1000),decide_eq_false h];rfl
 unfold f_S_ReadPair endR
 rcases key with⟨n,m,t,h1,h2⟩|⟨h1,h2⟩
 ·rw[h1,h2,Option.bind_some]
  dsimp only
  by_cases hm:n≤1000∧m≤1000
  ·rw[decide_eq_true hm.1,decide_eq_true hm.2]
   show((some ((n:Int),(m:Int),decide ((n:Int)>(m:Int)),()):Option ((PV (.int .i64)×PV (.int .i64)×PV .bool×Unit))).bind _)=some ((bif !(t&&decide (m+0<n)) then _ else _),())
   rw[Option.bind_some]
   dsimp only
   cases t with
   |false=>
    obtain rfl:=twoN_one h1
    rw[decide_eq_false (Int.lt_irrefl _)]
    rfl
   |true=>
    by_cases hlt:m+0<n
    ·rw[decide_eq_true (by omega:(n:Int)>(m:Int)),decide_eq_true hlt];rfl
    ·rw[decide_eq_false (by omega:¬(n:Int)>(m:Int)),decide_eq_false hlt];rfl
  ·have e1:(decide (n≤1000)&&decide (m≤1000))=false:=by
    rw[Bool.eq_false_iff];intro h;simp only[Bool.and_eq_true,decide_eq_true_eq] at h;exact hm h
   have e2:(decide (n≤1000)&&(decide (m≤1000)&& !(t&&decide (m+0<n))))=false:=by
    rw[←Bool.and_assoc,e1];rfl
   rw[e1,e2]
   rfl
 ·rw[h1,h2]
  rfl
theorem dec_no44 (n:Nat)(h:n<10000):(44:UInt8)∉dec n:=fun hm=>by
 have:=canon_dg (canon_dec h).1 44 hm
 cases this
end R.V
end

section
/- Orders, read: the leaves on both sides. -/
open Go Go.Dn
namespace R.V
set_option linter.unusedVariables false
theorem plain_S (s:List UInt8)(h1:1≤s.length)(hs:s.length≤100000):f_S_l1Plain s=some ((plainB s,()),()):=by
 unfold f_S_l1Plain plainB
 rw[ends_S s h1 (by omega),Option.bind_some]
 dsimp only
 cases h:endP s
 ·rfl
 ·rw[cond_true,cond_true,wrap64 (by omega) (by omega),show(s.length:Int) -1=((s.length -1:Nat):Int) by omega]
  rw[show cutB 0 ((s.length -1:Nat):Int) s.length=true from by unfold cutB;simp,cond_true]
  unfold cutL
  simp
theorem plainB_le (s:List UInt8):(plainB s).length≤s.length:=by
 unfold plainB
 cases endP s
 ·exact Nat.le_refl _
 ·rw[cond_true,List.length_take];omega
theorem plainB_end (t:List UInt8):plainB (t++[10])=t:=by
 unfold plainB endP
 simp
def sg5:List UInt8:=[97,105,99,100,115]
def dotL:List UInt8:=[46,10]
theorem iany_rng (ch:List UInt8):∀l:List UInt8,Lib.indexAny l ch= -1∨(0≤Lib.indexAny l ch∧Lib.indexAny l ch<(l.length:Int))
 |[]=>.inl rfl
 |b::l=>by
  have ih:=iany_rng ch l
  unfold Lib.indexAny
  split
  ·right;simp only[List.length_cons];omega
  ·split
   ·left;rfl
   ·rename_i h
    rcases ih with ih|ih
    ·rw[ih] at h;exact absurd rfl h
    ·right;simp only[List.length_cons];omega
theorem iany_at {ch:List UInt8}{c:UInt8}(r:List UInt8)(hc:ch.contains c=true):∀{p:List UInt8},(∀b∈p,ch.contains b=false)→Lib.indexAny (p++c::r) ch=(p.length:Int)
 |[],_=>by
  show Lib.indexAny (c::r) ch=0
  unfold Lib.indexAny
  rw[if_pos hc]
 |b::p,h=>by
  have ih:=iany_at (p:=p) r hc fun x hx=>h x (List.mem_cons_of_mem _ hx)
  show Lib.indexAny (b::(p++c::r)) ch=_
  unfold Lib.indexAny
  rw[h b (List.mem_cons_self ..),ih]
  have:¬((p.length:Int)==-1)=true:=by simp
  rw[if_neg (by simp),if_neg this,List.length_cons]
  omega
theorem any_I (s:List UInt8)(hs:s.length≤100000):f_strings_IndexAny s [97,105,99,100,115]=some ((Lib.indexAny s sg5,()),()):=by
 unfold f_strings_IndexAny indexAnyF
 rw[decide_eq_true (by omega:s.length≤4000000000)]
 rfl
def idx (xs:TX)(u:List UInt8):Int:=if xs.any (u==·)=true then(xs.findIdx (u==·):Nat) else -1
theorem idx_rng (xs:TX)(u:List UInt8):idx xs u= -1∨(0≤idx xs u∧idx xs u<(xs.length:Int)):=by
 unfold idx
 split
 ·rename_i h
  right
  have hlt:xs.findIdx (u==·)<xs.length:=List.findIdx_lt_length.2 (by simpa using h)
  omega
 ·exact .inl rfl
theorem idx_at {xs:TX}{u:List UInt8}(r:TX)(h:∀x∈xs,x≠u):idx (xs++u::r) u=(xs.length:Int):=by
 unfold idx
 rw[if_pos (by simp),List.findIdx_append,List.findIdx_cons]
 have:xs.findIdx (u==·)=xs.length:=by
  rw[List.findIdx_eq_length]
  intro x hx
  exact beq_eq_false_iff_ne.2 fun e=>h x hx e.symm
 rw[this]
 simp
theorem index_I (xs:TX)(u:List UInt8)(hx:xs.length≤100000):f_slices_Index_string xs u=some ((idx xs u,()),()):=by
 have hF:=fix_any (B:=fun d=>b_slices_Index_string_2 d.1 d.2.1 d.2.2.1 d.2.2.2.1) xs (u==·) (fun i=>(xs,u,(xs.length:Int),(i:Int),())) (fun i=>.inr ((i:Int),())) (.inl ())
  (fun i hi hq=>by
    show b_slices_Index_string_2 xs u xs.length i=_
    unfold b_slices_Index_string_2
    rw[decide_eq_true (by omega:(i:Int)<(xs.length:Int)),cond_true,inB_lt hi,cond_true,toNat_cast,getD_of hi,hq,cond_false,wrap64 (by omega) (by omega)]
    rfl)
  (fun i hi hq=>by
    show b_slices_Index_string_2 xs u xs.length i=_
    unfold b_slices_Index_string_2
    rw[decide_eq_true (by omega:(i:Int)<(xs.length:Int)),cond_true,inB_lt hi,cond_true,toNat_cast,getD_of hi,hq,cond_true])
  (by
    show b_slices_Index_string_2 xs u xs.length xs.length=_
    unfold b_slices_Index_string_2
    rw[decide_eq_false (Int.lt_irrefl _),cond_false])
 unfold f_slices_Index_string
 rw[show w_slices_Index_string_2 (xs,u,(xs.length:Int),0,())=_ from hF,Option.bind_some]
 unfold idx
 by_cases h:(List.any xs fun x=>u==x)=true
 ·rw[if_pos h,if_pos h]
 ·rw[if_neg h,if_neg h]
theorem cutB_drop {n j:Nat}(h:j≤n):cutB (j:Int) (n:Int) n=true:=by unfold cutB;simp;omega
theorem cutB_take {n j:Nat}(h:j≤n):cutB 0 (j:Int) n=true:=by unfold cutB;simp;omega
theorem cutL_drop {α:Type}(j:Nat)(l:List α):cutL (j:Int) (l.length:Int) l=l.drop j:=by unfold cutL;rw[toNat_cast,toNat_cast,List.take_length]
theorem cutL_take {α:Type}(j:Nat)(l:List α):cutL 0 (j:Int) l=l.take j:=by unfold cutL;rw[toNat_cast];rfl
theorem drop_one {α:Type}(l:α)(ls:List α):cutL 1 ((l::ls).length:Int) (l::ls)=ls:=by
 unfold cutL
 rw[toNat_cast,List.take_length]
 rfl
theorem drop_ok {α:Type}(l:α)(ls:List α):cutB 1 ((l::ls).length:Int) (l::ls).length=true:=by
 unfold cutB;simp;omega
end R.V
end

section
/- Orders, read: one order of a text, on both sides, whatever the lines are. -/
open Go Go.Dn
namespace R.V
set_option linter.unusedVariables false
abbrev OR:=List (PV Y_impl_Order)
def headI (l0:List UInt8):Option (Int×Nat×Nat):=
 if Lib.indexAny (plainB l0) sg5<0 then none else
  match twoN ((plainB l0).take (Lib.indexAny (plainB l0) sg5).toNat) with
  |none=>none
  |some (n,m,_)=>if idx gs0 ((plainB l0).drop (Lib.indexAny (plainB l0) sg5).toNat)<1 then none else some (idx gs0 ((plainB l0).drop (Lib.indexAny (plainB l0) sg5).toNat),n,m)
abbrev RI:=(PV S_string×PV S_impl_Order×Unit)⊕((PV S_impl_Order×Unit)⊕(PV S_impl_Order×PV .bool×Unit))
def failI:Option RI:=some (.inr (.inr ([],false,())))
def stepI (l0:List UInt8)(t:TX)(out:OR):Option RI:=
 if out.length=60 then failI else
  match headI l0 with
  |none=>failI
  |some (k,n,m)=>
   if k≤3 then(if idx t dotL<0 then failI else some (.inl (t.drop ((idx t dotL).toNat+1),out++[(k,(n:Int),(m:Int),t.take (idx t dotL).toNat,())],())))
   else some (.inl (t,out++[(k,(n:Int),(m:Int),[],())],()))
theorem step_I (l0:List UInt8)(t:TX)(out:OR)(h0:l0.length≤3000)(hn:t.length≤3000)(ho:out.length≤60):b_I_readOrders_2 (l0::t) out=stepI l0 t out:=by
 have hpl:=plainB_le l0
 unfold b_I_readOrders_2 stepI
 rw[decide_eq_true (by simp only[List.length_cons];omega:(((l0::t).length:Nat):Int)>0),cond_true,show inB 0 (l0::t).length=true from inB_lt (i:=0) (by simp),cond_true,show(l0::t).getD ((0:Int).toNat) []=l0 from rfl,plain_I l0 (by omega),Option.bind_some]
 dsimp only
 rw[drop_ok,cond_true,any_I _ (by omega),Option.bind_some]
 dsimp only
 rw[drop_one]
 rcases iany_rng sg5 (plainB l0) with hi|⟨hi1,hi2⟩
 ·rw[hi]
  have:headI l0=none:=by unfold headI;rw[hi];rfl
  rw[this]
  dsimp only
  split<;>rfl
 ·obtain⟨j,hj⟩:∃j:Nat,Lib.indexAny (plainB l0) sg5=(j:Int):=⟨_,(Int.toNat_of_nonneg hi1).symm⟩
  rw[hj] at hi2 ⊢
  have hjl:j≤(plainB l0).length:=by omega
  rw[decide_eq_false (by omega:¬(j:Int)<0),cond_false,Option.bind_some]
  dsimp only
  by_cases h60:out.length=60
  ·rw[if_pos h60,show((out.length:Int)==60)=true from by rw[h60];rfl]
   rfl
  ·rw[if_neg h60,show((out.length:Int)==60)=false from beq_eq_false_iff_ne.2 (by omega),cond_false,cutB_drop hjl,cond_true,cutL_drop,index_I gs0 _ (by decide),Option.bind_some]
   dsimp only
   rw[cutB_take hjl,cond_true,cutL_take]
   unfold headI
   rw[hj,if_neg (by omega:¬(j:Int)<0),toNat_cast]
   rcases readTwo_I ((plainB l0).take j) (by rw[List.length_take];omega) with⟨n,m,b,h1,h2⟩|⟨h1,n,m,b,h2⟩
   ·rw[h1,h2,Option.bind_some]
    dsimp only
    rw[Bool.not_true,cond_false,Option.bind_some]
    dsimp only
    by_cases hk:idx gs0 ((plainB l0).drop j)<1
    ·rw[if_pos hk,decide_eq_true hk]
     rfl
    ·rw[if_neg hk,decide_eq_false hk,cond_false]
     dsimp only
     have hr:∀x:List (PV .str),roomB (out.length+[((idx gs0 ((plainB l0).drop j),((n:Int),((m:Int),(x,())))):PV Y_impl_Order)].length)=true:=fun x=>roomB_ok (by simp only[List.length_cons,List.length_nil];omega)
     by_cases hk3:idx gs0 ((plainB l0).drop j)≤3
     ·rw[if_pos hk3,decide_eq_true hk3,cond_true,show([46,10]:List UInt8)=dotL from rfl,index_I t dotL (by omega),Option.bind_some]
      dsimp only
      rcases idx_rng t dotL with he|⟨he1,he2⟩
      ·rw[he]
       rfl
      ·obtain⟨e,hee⟩:∃e:Nat,idx t dotL=(e:Int):=⟨_,(Int.toNat_of_nonneg he1).symm⟩
       rw[hee] at he2 ⊢
       have hel:e+1≤t.length:=by omega
       rw[if_neg (by omega:¬(e:Int)<0),decide_eq_false (by omega:¬(e:Int)<0),cond_false,cutB_take (by omega),cond_true,cutL_take]
       unfold f_slices_Clone_string
       rw[roomB_ok (by rw[List.length_take];simp only[List.length_nil];omega),cond_true,Option.bind_some]
       dsimp only
       rw[wrap64 (by omega) (by omega),show(e:Int)+1=((e+1:Nat):Int) by omega,cutB_drop hel,cond_true,cutL_drop,Option.bind_some]
       dsimp only
       rw[List.nil_append,hr,cond_true,toNat_cast]
     ·rw[if_neg hk3,decide_eq_false hk3,cond_false,Option.bind_some]
      dsimp only
      rw[hr,cond_true]
   ·rw[h1,h2]
    rfl
def headS (l0:List UInt8):Int×Int×Int×Bool:=
 (kdS gs0 ((plainB l0).dropWhile hdB) 6,(endR 0 ((plainB l0).takeWhile hdB)).1,(endR 0 ((plainB l0).takeWhile hdB)).2.1,(endR 0 ((plainB l0).takeWhile hdB)).2.2.1&&decide (0<kdS gs0 ((plainB l0).dropWhile hdB) 6))
theorem head_S (s:List UInt8)(hs:s.length≤3000):f_S_l9Head (plainB s)=some ((((headS s).1,((headS s).2.1,((headS s).2.2.1,([],())))),(headS s).2.2.2,()),()):=by
 have:=plainB_le s
 have h2:=tw_len (plainB s)
 unfold f_S_l9Head headF
 rw[decide_eq_true (by omega:(plainB s).length≤100000),cond_true,readPair_S _ (by omega),Option.bind_some]
 rfl
def nd (x:List UInt8):Bool:= !(x==dotL)
abbrev RS:=(PV .str×PV S_string×PV S_impl_Order×Unit)⊕((PV .str×PV S_impl_Order×Unit)⊕(PV S_impl_Order×PV (.int .i64)×PV .bool×Unit))
def failS:Option RS:=some (.inr (.inr ([],1,false,())))
def stepS (s l0:List UInt8)(t:TX)(out:OR):Option RS:=
 if (headS l0).2.2.2=false then failS
 else if (headS l0).1≤3 then
  (if (t.dropWhile nd).length=0 then failS else some (.inl (s,(t.dropWhile nd).drop 1,out++[((headS l0).1,(headS l0).2.1,(headS l0).2.2.1,t.takeWhile nd,())],())))
 else some (.inl (s,t,out++[((headS l0).1,(headS l0).2.1,(headS l0).2.2.1,[],())],()))
theorem take_S (s:List UInt8)(out:OR)(k n m:Int):∀(t a:TX),a.length+t.length≤3000→w_S_ReadOrders_11 (s,t,out,(k,(n,(m,(a,())))),())=some (s,t.dropWhile nd,out,(k,(n,(m,(a++t.takeWhile nd,())))),())
 |[],a,_=>by
  refine fix_end (B:=fun d=>b_S_ReadOrders_11 d.1 d.2.1 d.2.2.1 d.2.2.2.1) ?_
  show b_S_ReadOrders_11 s [] out _=_
  unfold b_S_ReadOrders_11
  rw[List.dropWhile_nil,List.takeWhile_nil,List.append_nil]
  rfl
 |x::t,a,h=>by
  simp only[List.length_cons] at h
  have hd:decide ((((x::t).length:Nat):Int)>0)=true:=decide_eq_true (by simp only[List.length_cons];omega)
  have hi:inB 0 (x::t).length=true:=inB_lt (i:=0) (by simp)
  cases hx:x==dotL
  ·have hg:b_S_ReadOrders_11 s (x::t) out (k,(n,(m,(a,()))))=some (.inl (s,t,out,(k,(n,(m,(a++[x],())))),())):=by
    unfold b_S_ReadOrders_11
    rw[hd,cond_true,hi,cond_true,show(x::t).getD ((0:Int).toNat) []=x from rfl,show(x==[46,10])=false from hx,Bool.not_false,cond_true,cond_true]
    dsimp only
    rw[roomB_ok (by simp only[List.length_cons,List.length_nil];omega),cond_true,drop_ok,cond_true,drop_one]
   have:=take_S s out k n m t (a++[x]) (by rw[List.length_append];simp only[List.length_cons,List.length_nil];omega)
   refine Eq.trans (fix_go (B:=fun d=>b_S_ReadOrders_11 d.1 d.2.1 d.2.2.1 d.2.2.2.1) (s:=(s,x::t,out,(k,(n,(m,(a,())))),())) hg) (Eq.trans this ?_)
   rw[List.dropWhile_cons,List.takeWhile_cons,show nd x=true from by unfold nd;rw[hx];rfl,if_pos rfl,if_pos rfl,List.append_assoc]
   rfl
  ·refine fix_end (B:=fun d=>b_S_ReadOrders_11 d.1 d.2.1 d.2.2.1 d.2.2.2.1) ?_
   show b_S_ReadOrders_11 s (x::t) out _=_
   unfold b_S_ReadOrders_11
   rw[hd,cond_true,hi,cond_true,show(x::t).getD ((0:Int).toNat) []=x from rfl,show(x==[46,10])=true from hx,Bool.not_true,cond_false]
   rw[List.dropWhile_cons,List.takeWhile_cons,show nd x=false from by unfold nd;rw[hx];rfl]
   simp
theorem step_S (s l0:List UInt8)(t:TX)(out:OR)(h1:1≤l0.length)(h0:l0.length≤3000)(hn:t.length≤3000)(ho:out.length≤3000):b_S_ReadOrders_5 s (l0::t) out=stepS s l0 t out:=by
 unfold b_S_ReadOrders_5 stepS
 rw[decide_eq_true (by simp only[List.length_cons];omega:(((l0::t).length:Nat):Int)>0),cond_true,show inB 0 (l0::t).length=true from inB_lt (i:=0) (by simp),cond_true,show(l0::t).getD ((0:Int).toNat) []=l0 from rfl,plain_S l0 h1 (by omega),Option.bind_some]
 dsimp only
 rw[head_S l0 h0,Option.bind_some]
 dsimp only
 cases hq:(headS l0).2.2.2
 ·rw[if_pos rfl];rfl
 ·rw[if_neg (by simp),Bool.not_true,cond_false,drop_ok,cond_true,drop_one]
  have hr:∀x:PV Y_impl_Order,roomB (out.length+[x].length)=true:=fun x=>roomB_ok (by simp only[List.length_cons,List.length_nil];omega)
  by_cases hk:(headS l0).1≤3
  ·rw[if_pos hk,decide_eq_true hk,cond_true,take_S s out _ _ _ t [] (by simp only[List.length_nil];omega),Option.bind_some]
   dsimp only
   have hdl:(t.dropWhile nd).length≤t.length:=(List.dropWhile_sublist (l:=t) nd).length_le
   by_cases hz:(t.dropWhile nd).length=0
   ·rw[if_pos hz,show(((t.dropWhile nd).length:Int)==0)=true from by rw[hz];rfl]
    rfl
   ·rw[if_neg hz,show(((t.dropWhile nd).length:Int)==0)=false from beq_eq_false_iff_ne.2 (by omega),cond_false]
    rw[show cutB 1 ((t.dropWhile nd).length:Int) (t.dropWhile nd).length=true from cutB_drop (j:=1) (by omega),cond_true,show cutL 1 ((t.dropWhile nd).length:Int) (t.dropWhile nd)=(t.dropWhile nd).drop 1 from cutL_drop 1 _,Option.bind_some]
    dsimp only
    rw[hr,cond_true,List.nil_append]
  ·rw[if_neg hk,decide_eq_false hk,cond_false,Option.bind_some]
   dsimp only
   rw[hr,cond_true]
end R.V
end

section
/- Orders, read: both readers end, whatever the lines are. -/
open Go Go.Dn
namespace R.V
set_option linter.unusedVariables false
def OW (x:PV Y_impl_Order):Prop:=List.length x.2.2.2.1≤3000∧∀l∈(x.2.2.2.1:TX),l.length≤3000
theorem tot_le {e:TypeId}{t:Ty}{c:Nat}:∀{l:List (PV t)},(∀x∈l,tot t x≤c)→tot (.slice e t) l≤(c+1)*l.length:=by
 intro l h
 have:tot (.slice e t) l=l.length+(l.map (tot t)).sum:=tot_slice
 rw[this]
 have hs:(l.map (tot t)).sum≤c*l.length:=by
  clear this
  induction l with
  |nil=>simp
  |cons x l ih=>
   have h1:=h x (List.mem_cons_self ..)
   have h2:=ih fun y hy=>h y (List.mem_cons_of_mem _ hy)
   rw[List.map_cons,List.sum_cons,List.length_cons,Nat.mul_add]
   omega
 rw[Nat.add_mul,Nat.one_mul]
 omega
theorem OW.tot {gs:OR}(hl:gs.length≤3000)(h:∀x∈gs,OW x):tot S_impl_Order gs≤4611686018427387904:=by
 have hx:∀x∈gs,Go.Dn.tot Y_impl_Order x≤10000000:=fun x hx=>by
  obtain⟨h1,h2⟩:=h x hx
  have h3:Go.Dn.tot S_string x.2.2.2.1≤(3000+1)*List.length x.2.2.2.1:=tot_le fun s hs=>by
   have:=h2 s hs
   rw[tot_str];exact this
  simp only[Go.Dn.tot] at h3 ⊢
  omega
 have h5:Go.Dn.tot S_impl_Order gs≤(10000000+1)*gs.length:=tot_le hx
 omega
noncomputable abbrev BI (d:PV S_string×PV S_impl_Order×Unit):=b_I_readOrders_2 d.1 d.2.1
theorem go_I {ls:TX}{out:OR}{d r}(h:b_I_readOrders_2 ls out=some (.inl d))(h2:w_I_readOrders_2 d=some r):w_I_readOrders_2 (ls,out,())=some r:=Eq.trans (fix_go (B:=BI) (s:=(ls,out,())) (t:=d) h) h2
theorem end_I {ls:TX}{out:OR}{r}(h:b_I_readOrders_2 ls out=some (.inr r)):w_I_readOrders_2 (ls,out,())=some r:=fix_end (B:=BI) (s:=(ls,out,())) h
theorem raw_I:∀(n:Nat) (ls:TX) (out:OR),ls.length≤n→ls.length≤3000→(∀l∈ls,l.length≤3000)→out.length≤60→(∀x∈out,OW x)→
 ∃gs:OR,gs.length≤60∧(∀x∈gs,OW x)∧(w_I_readOrders_2 (ls,out,())=some (.inl (gs,()))∨w_I_readOrders_2 (ls,out,())=some (.inr (gs,false,()))):=by
 have fail:∀{ls:TX} {out:OR},b_I_readOrders_2 ls out=failI→∃gs:OR,gs.length≤60∧(∀x∈gs,OW x)∧(w_I_readOrders_2 (ls,out,())=some (.inl (gs,()))∨w_I_readOrders_2 (ls,out,())=some (.inr (gs,false,()))):=
  fun h=>⟨[],Nat.zero_le _,fun x hx=>(by cases hx),.inr (end_I h)⟩
 intro n
 induction n with
 |zero=>
  intro ls out h _ _ ho hg
  obtain rfl:ls=[]:=List.eq_nil_of_length_eq_zero (by omega)
  exact⟨out,ho,hg,.inl (end_I rfl)⟩
 |succ n ih=>
  intro ls out h h1 hm ho hg
  cases ls with
  |nil=>exact⟨out,ho,hg,.inl (end_I rfl)⟩
  |cons l0 t=>
   simp only[List.length_cons] at h h1
   have hs:=step_I l0 t out (hm l0 (List.mem_cons_self ..)) (by omega) ho
   have hmt:∀l∈t,l.length≤3000:=fun l hl=>hm l (List.mem_cons_of_mem _ hl)
   have push:∀(x:PV Y_impl_Order) (r:TX),out.length<60→OW x→r.length≤t.length→(∀l∈r,l∈t)→b_I_readOrders_2 (l0::t) out=some (.inl (r,out++[x],()))→
    ∃gs:OR,gs.length≤60∧(∀x∈gs,OW x)∧(w_I_readOrders_2 (l0::t,out,())=some (.inl (gs,()))∨w_I_readOrders_2 (l0::t,out,())=some (.inr (gs,false,()))):=by
    intro x r h60 hx hr hmem hb
    obtain⟨gs,q1,q2,q3⟩:=ih r (out++[x]) (by omega) (by omega) (fun l hl=>hmt l (hmem l hl)) (by simp;omega) (fun y hy=>by
     rcases List.mem_append.1 hy with hy|hy
     ·exact hg y hy
     ·obtain rfl:=List.mem_singleton.1 hy
      exact hx)
    exact⟨gs,q1,q2,q3.imp (go_I hb) (go_I hb)⟩
   unfold stepI at hs
   by_cases h60:out.length=60
   ·rw[if_pos h60] at hs;exact fail hs
   ·rw[if_neg h60] at hs
    cases hh:headI l0 with
    |none=>rw[hh] at hs;exact fail hs
    |some q=>
     obtain⟨k,a,b⟩:=q
     rw[hh] at hs
     dsimp only at hs
     by_cases hk:k≤3
     ·rw[if_pos hk] at hs
      by_cases hi:idx t dotL<0
      ·rw[if_pos hi] at hs;exact fail hs
      ·rw[if_neg hi] at hs
       exact push _ _ (by omega) ⟨by show(t.take _).length≤3000;rw[List.length_take];omega,fun l hl=>hmt l (List.mem_of_mem_take hl)⟩ (by rw[List.length_drop];omega) (fun l hl=>List.mem_of_mem_drop hl) hs
     ·rw[if_neg hk] at hs
      exact push _ _ (by omega) ⟨Nat.zero_le _,fun l hl=>by cases hl⟩ (Nat.le_refl _) (fun l hl=>hl) hs
theorem readRaw_I (ls:TX)(h1:ls.length≤3000)(hm:∀l∈ls,l.length≤3000):∃(gs:OR) (q:Bool),f_I_readOrders ls=some ((gs,q,()),())∧tot S_impl_Order gs≤4611686018427387904:=by
 obtain⟨gs,q1,q2,q3⟩:=raw_I ls.length ls [] (Nat.le_refl _) h1 hm (Nat.zero_le _) (fun x hx=>by cases hx)
 unfold f_I_readOrders
 rcases q3 with e|e
 ·rw[e];exact⟨gs,true,rfl,OW.tot (by omega) q2⟩
 ·rw[e];exact⟨gs,false,rfl,OW.tot (by omega) q2⟩
noncomputable abbrev BS (d:PV .str×PV S_string×PV S_impl_Order×Unit):=b_S_ReadOrders_5 d.1 d.2.1 d.2.2.1
theorem go_S {s:List UInt8}{ls:TX}{out:OR}{d r}(h:b_S_ReadOrders_5 s ls out=some (.inl d))(h2:w_S_ReadOrders_5 d=some r):w_S_ReadOrders_5 (s,ls,out,())=some r:=Eq.trans (fix_go (B:=BS) (s:=(s,ls,out,())) (t:=d) h) h2
theorem end_S {s:List UInt8}{ls:TX}{out:OR}{r}(h:b_S_ReadOrders_5 s ls out=some (.inr r)):w_S_ReadOrders_5 (s,ls,out,())=some r:=fix_end (B:=BS) (s:=(s,ls,out,())) h
theorem raw_S (s:List UInt8):∀(n:Nat) (ls:TX) (out:OR),ls.length≤n→out.length+ls.length≤3000→(∀l∈ls,1≤l.length∧l.length≤3000)→(∀x∈out,OW x)→
 (∃gs:OR,gs.length≤3000∧(∀x∈gs,OW x)∧w_S_ReadOrders_5 (s,ls,out,())=some (.inl (s,gs,())))∨w_S_ReadOrders_5 (s,ls,out,())=some (.inr ([],1,false,())):=by
 intro n
 induction n with
 |zero=>
  intro ls out h h1 _ hg
  obtain rfl:ls=[]:=List.eq_nil_of_length_eq_zero (by omega)
  exact .inl ⟨out,by simpa using h1,hg,end_S rfl⟩
 |succ n ih=>
  intro ls out h h1 hm hg
  cases ls with
  |nil=>exact .inl ⟨out,by simpa using h1,hg,end_S rfl⟩
  |cons l0 t=>
   simp only[List.length_cons] at h h1
   have hs:=step_S s l0 t out (hm l0 (List.mem_cons_self ..)).1 (hm l0 (List.mem_cons_self ..)).2 (by omega) (by omega)
   have hmt:∀l∈t,1≤l.length∧l.length≤3000:=fun l hl=>hm l (List.mem_cons_of_mem _ hl)
   have push:∀(x:PV Y_impl_Order) (r:TX),OW x→r.length≤t.length→(∀l∈r,l∈t)→b_S_ReadOrders_5 s (l0::t) out=some (.inl (s,r,out++[x],()))→
    (∃gs:OR,gs.length≤3000∧(∀x∈gs,OW x)∧w_S_ReadOrders_5 (s,l0::t,out,())=some (.inl (s,gs,())))∨w_S_ReadOrders_5 (s,l0::t,out,())=some (.inr ([],1,false,())):=by
    intro x r hx hr hmem hb
    rcases ih r (out++[x]) (by omega) (by simp;omega) (fun l hl=>hmt l (hmem l hl)) (fun y hy=>by
     rcases List.mem_append.1 hy with hy|hy
     ·exact hg y hy
     ·obtain rfl:=List.mem_singleton.1 hy
      exact hx) with⟨gs,q1,q2,q3⟩|q3
    ·exact .inl ⟨gs,q1,q2,go_S hb q3⟩
    ·exact .inr (go_S hb q3)
   unfold stepS at hs
   by_cases hq:(headS l0).2.2.2=false
   ·rw[if_pos hq] at hs;exact .inr (end_S hs)
   ·rw[if_neg hq] at hs
    by_cases hk:(headS l0).1≤3
    ·rw[if_pos hk] at hs
     by_cases hz:(t.dropWhile nd).length=0
     ·rw[if_pos hz] at hs;exact .inr (end_S hs)
     ·rw[if_neg hz] at hs
      have hdl:(t.dropWhile nd).length≤t.length:=(List.dropWhile_sublist (l:=t) nd).length_le
      have htl:(t.takeWhile nd).length≤t.length:=(List.takeWhile_sublist (l:=t) nd).length_le
      exact push _ _ ⟨by show(t.takeWhile nd).length≤3000;omega,fun l hl=>(hmt l ((List.takeWhile_sublist (l:=t) nd).mem hl)).2⟩ (by rw[List.length_drop];omega) (fun l hl=>(List.dropWhile_sublist (l:=t) nd).mem (List.mem_of_mem_drop hl)) hs
    ·rw[if_neg hk] at hs
     exact push _ _ ⟨Nat.zero_le _,fun l hl=>by cases hl⟩ (Nat.le_refl _) (fun l hl=>hl) hs
end R.V
end

section
/- Orders, read: what is written of good orders is read back by both; so both sides answer the same. -/
open Go Go.Dn
namespace R.V
set_option linter.unusedVariables false
theorem kind_rng {x:PV Y_impl_Order}(h:orderP x=true):(1:Int)≤x.1∧(5:Int)≥x.1:=(order_ok h).2.2.1
theorem order_more {x:PV Y_impl_Order}(h:orderP x=true):(x.2.1:Int)≤(x.2.2.1:Int)∧((3:Int)≥x.1→freshP x.2.2.2.1=true)∧((3:Int)<(x.1:Int)→x.2.2.2.1=([]:TX)):=by
 obtain⟨hk1,hk2⟩:=kind_rng h
 unfold orderP inI at h
 simp only[Bool.and_eq_true,decide_eq_true_eq] at h
 obtain⟨⟨_,h1,_⟩,h2⟩:=h
 refine⟨h1,fun h3=> ?_,fun h3=> ?_⟩
 ·have:(1:Int)=x.1∨(2:Int)=x.1∨(3:Int)=x.1:=by omega
  rcases this with e|e|e<;>rw[←e] at h2<;>simp at h2
  ·exact h2.2
  ·exact h2.2.2
  ·exact h2.2
 ·have:(4:Int)=x.1∨(5:Int)=x.1:=by omega
  have h0:List.length x.2.2.2.1=0:=by
   rcases this with e|e<;>rw[←e] at h2<;>simp at h2
   ·rw[h2.2];rfl
   ·rw[h2.2.2];rfl
  exact List.eq_nil_of_length_eq_zero h0
theorem line_isL {s:List UInt8}(h1:lineP s=true)(h2:endP s=true):isL s:=by
 unfold lineP at h1
 rw[Bool.and_eq_true,Bool.not_eq_true'] at h1
 unfold hasEnd at h1
 unfold endP at h2
 refine⟨s.take (s.length -1),?_,fun hm=> ?_⟩
 ·have:=List.take_append_drop (s.length -1) s
  rw[eq_of_beq h2] at this
  exact this.symm
 ·have:(s.take (s.length -1)).contains 10=true:=by simpa using hm
  rw[this] at h1
  cases h1.2
theorem fresh_at {l:TX}(h:freshP l=true):1≤l.length∧∀s∈l,isL s∧s≠dotL:=by
 unfold freshP inI at h
 simp only[Bool.and_eq_true,decide_eq_true_eq,Bool.not_eq_true'] at h
 refine⟨by omega,fun s hs=> ?_⟩
 have h1:=List.any_eq_false.1 h.2 s hs
 unfold badO at h1
 simp only[Bool.or_eq_true,Bool.not_eq_true',not_or,Bool.not_eq_false,beq_iff_eq] at h1
 exact⟨line_isL h1.1 h1.2.1,h1.2.2⟩
theorem pairT_ch {a b:Nat}(ha:a<10000)(hb:b<10000):∀c∈pairT a b,isDg c=true∨c=44:=by
 intro c hc
 unfold pairT at hc
 split at hc
 ·exact .inl (canon_dg (canon_dec ha).1 c hc)
 ·rcases List.mem_append.1 hc with hc|hc
  ·rcases List.mem_append.1 hc with hc|hc
   ·exact .inl (canon_dg (canon_dec ha).1 c hc)
   ·exact .inr (List.mem_singleton.1 hc)
  ·exact .inl (canon_dg (canon_dec hb).1 c hc)
theorem ch_fact {c:UInt8}(h:isDg c=true∨c=44):hdB c=true∧sg5.contains c=false∧c≠10:=by
 rcases h with h|rfl
 ·have h':=h
  unfold isDg at h'
  rw[Bool.and_eq_true,decide_eq_true_eq,decide_eq_true_eq] at h'
  refine⟨by unfold hdB;rw[decide_eq_true h'.1,decide_eq_true h'.2];rfl,?_,fun e=>by rw[e] at h;cases h⟩
  have key:∀d:UInt8,isDg d=false→(c==d)=false:=fun d hd=>beq_eq_false_iff_ne.2 fun e=>by rw[e,hd] at h;cases h
  unfold sg5
  simp only[List.contains_cons,key 97 rfl,key 105 rfl,key 99 rfl,key 100 rfl,key 115 rfl]
  rfl
 ·exact⟨rfl,by decide,by decide⟩
theorem twoN_pair {a b:Nat}(ha:a<10000)(hb:b<10000):∃t,twoN (pairT a b)=some (a,b,t):=by
 obtain⟨c1,c2⟩:=canon_dec ha
 obtain⟨c3,c4⟩:=canon_dec hb
 unfold pairT twoN
 by_cases h:a=b
 ·rw[if_pos h,comma_no (dec_no44 _ ha)]
  dsimp only
  rw[if_pos c1,c2,←h]
  exact⟨_,rfl⟩
 ·rw[if_neg h,show(dec a++[44])++dec b=dec a++44::dec b from by simp,comma_at _ (dec_no44 _ ha)]
  dsimp only
  rw[if_pos ⟨c1,c3⟩,c2,c4]
  exact⟨_,rfl⟩
theorem endR_pair {a b:Nat}(hab:a≤b)(hb:b≤1000):endR 0 (pairT a b)=((a:Int),(b:Int),true,()):=by
 obtain⟨t,h⟩:=twoN_pair (a:=a) (b:=b) (by omega) (by omega)
 unfold endR
 rw[h]
 dsimp only
 have:(decide (a≤1000)&&(decide (b≤1000)&& !(t&&decide (b+0<a))))=true:=by
  rw[decide_eq_true (by omega),decide_eq_true (by omega),decide_eq_false (by omega)]
  simp
 rw[this]
 rfl
theorem word_fact {k:Int}(h:1≤k∧k≤5):∃c r,wordT k=c::r∧sg5.contains c=true∧hdB c=false∧(10:UInt8)∉wordT k∧idx gs0 (wordT k)=k∧kdS gs0 (wordT k) 6=k:=by
 have:k=1∨k=2∨k=3∨k=4∨k=5:=by omega
 rcases this with rfl|rfl|rfl|rfl|rfl
 ·exact⟨97,[],rfl,by decide,by decide,by decide,by decide,by decide⟩
 ·exact⟨105,[],rfl,by decide,by decide,by decide,by decide,by decide⟩
 ·exact⟨99,[],rfl,by decide,by decide,by decide,by decide,by decide⟩
 ·exact⟨100,[],rfl,by decide,by decide,by decide,by decide,by decide⟩
 ·exact⟨115,[47,46,47,47],rfl,by decide,by decide,by decide,by decide,by decide⟩
theorem tw_app {c:UInt8}(r:List UInt8)(hc:hdB c=false):∀{p:List UInt8},(∀b∈p,hdB b=true)→(p++c::r).takeWhile hdB=p∧(p++c::r).dropWhile hdB=c::r
 |[],_=>by
  rw[List.nil_append,List.takeWhile_cons,List.dropWhile_cons,hc]
  exact⟨rfl,rfl⟩
 |b::p,h=>by
  obtain⟨h1,h2⟩:=tw_app (p:=p) r hc fun x hx=>h x (List.mem_cons_of_mem _ hx)
  rw[List.cons_append,List.takeWhile_cons,List.dropWhile_cons,h b (List.mem_cons_self ..),if_pos rfl,if_pos rfl,h1,h2]
  exact⟨rfl,rfl⟩
def hdL (x:PV Y_impl_Order):List UInt8:=(pairT x.2.1.toNat x.2.2.1.toNat++wordT x.1)++[10]
def ordL (x:PV Y_impl_Order):TX:=hdL x::(if 0<List.length x.2.2.2.1 then(x.2.2.2.1:TX)++[dotL] else[])
theorem ordL_flat (x:PV Y_impl_Order):(ordL x).flatten=ordT x:=by
 unfold ordL ordT hdL newT
 rw[List.flatten_cons]
 by_cases h:0<List.length x.2.2.2.1
 ·rw[if_pos h,if_pos h,List.flatten_append]
  rfl
 ·rw[if_neg h,if_neg h]
  rfl
theorem heads {x:PV Y_impl_Order}(h:orderP x=true):isL (hdL x)∧headI (hdL x)=some (x.1,x.2.1.toNat,x.2.2.1.toNat)∧headS (hdL x)=(x.1,x.2.1,x.2.2.1,true):=by
 obtain⟨⟨a,ea,ha⟩,⟨b,eb,hb⟩,hk,_,_⟩:=order_ok h
 obtain⟨hk1,hk2⟩:=kind_rng h
 obtain⟨hab,_,_⟩:=order_more h
 obtain⟨c,r,hw,c1,c2,c3,c4,c5⟩:=word_fact hk
 have hch:∀d∈pairT a b,hdB d=true∧sg5.contains d=false∧d≠10:=fun d hd=>ch_fact (pairT_ch (by omega) (by omega) d hd)
 rw[ea,eb] at hab
 have hpl:plainB (hdL x)=pairT a b++wordT x.1:=by
  unfold hdL
  rw[plainB_end,ea,eb,toNat_cast,toNat_cast]
 refine⟨⟨pairT a b++wordT x.1,by unfold hdL;rw[ea,eb,toNat_cast,toNat_cast],fun hm=> ?_⟩,?_,?_⟩
 ·rcases List.mem_append.1 hm with hm|hm
  ·exact(hch 10 hm).2.2 rfl
  ·exact c3 hm
 ·have hi:Lib.indexAny (pairT a b++wordT x.1) sg5=((pairT a b).length:Int):=by rw[hw];exact iany_at r c1 fun d hd=>(hch d hd).2.1
  obtain⟨t,ht⟩:=twoN_pair (a:=a) (b:=b) (by omega) (by omega)
  unfold headI
  rw[hpl,hi,toNat_cast,if_neg (by omega),List.take_left,List.drop_left,ht]
  dsimp only
  rw[c4,if_neg (fun hh=>by have hh':(1:Int)>x.1:=hh;omega),ea,eb,toNat_cast,toNat_cast]
 ·obtain⟨t1,t2⟩:=tw_app r c2 fun d hd=>(hch d hd).1
  unfold headS
  rw[hpl,hw,t1,t2,←hw,c5,endR_pair (show a≤b by have hab':(a:Int)≤(b:Int):=hab;omega) hb,ea,eb]
  dsimp only
  rw[decide_eq_true (show(0:Int)<(x.1:Int) by omega)]
  rfl
theorem nd_app (r:TX):∀{l:TX},(∀s∈l,s≠dotL)→(l++dotL::r).takeWhile nd=l∧(l++dotL::r).dropWhile nd=dotL::r
 |[],_=>by
  rw[List.nil_append,List.takeWhile_cons,List.dropWhile_cons,show nd dotL=false from rfl]
  exact⟨rfl,rfl⟩
 |b::p,h=>by
  obtain⟨h1,h2⟩:=nd_app (l:=p) r fun x hx=>h x (List.mem_cons_of_mem _ hx)
  rw[List.cons_append,List.takeWhile_cons,List.dropWhile_cons,show nd b=true from by unfold nd;rw[beq_eq_false_iff_ne.2 (h b (List.mem_cons_self ..))];rfl,if_pos rfl,if_pos rfl,h1,h2]
  exact⟨rfl,rfl⟩
theorem eta_order (x:PV Y_impl_Order){a b:Nat}(ea:x.2.1=(a:Int))(eb:x.2.2.1=(b:Int)){l:TX}(el:x.2.2.2.1=l):(x.1,(a:Int),(b:Int),l,())=x:=by
 obtain⟨k,n,m,l',u⟩:=x
 simp only at ea eb el
 rw[←ea,←eb,←el]
theorem one_good {x:PV Y_impl_Order}(h:orderP x=true)(s:List UInt8)(r:TX)(out:OR)(hm:∀l∈ordL x++r,l.length≤3000)(hn:(ordL x++r).length≤3000):
 (out.length<60→b_I_readOrders_2 (ordL x++r) out=some (.inl (r,out++[x],())))∧(out.length≤60→b_S_ReadOrders_5 s (ordL x++r) out=some (.inl (s,r,out++[x],()))):=by
 obtain⟨q1,q2,q3⟩:=heads h
 obtain⟨_,f1,f2⟩:=order_more h
 obtain⟨⟨a,ea,ha⟩,⟨b,eb,hb⟩,hk,_,_⟩:=order_ok h
 obtain⟨tt,htt,_⟩:=q1
 have hl0:1≤(hdL x).length:=by rw[htt];simp
 have e:ordL x++r=hdL x::((if 0<List.length x.2.2.2.1 then(x.2.2.2.1:TX)++[dotL] else[])++r):=by unfold ordL;rw[List.cons_append]
 rw[e] at hm hn ⊢
 simp only[List.length_cons] at hn
 have hm0:=hm _ (List.mem_cons_self ..)
 obtain⟨hk1,hk2⟩:=kind_rng h
 by_cases hk3:x.1≤3
 ·obtain⟨g1,g2⟩:=fresh_at (f1 hk3)
  rw[if_pos (by omega:0<List.length x.2.2.2.1),List.append_assoc] at hn ⊢
  rw[show[dotL]++r=dotL::r from rfl] at hn ⊢
  have hnd:∀s∈(x.2.2.2.1:TX),s≠dotL:=fun s hs=>(g2 s hs).2
  constructor
  ·intro h60
   rw[step_I _ _ _ hm0 (by omega) (by omega)]
   unfold stepI
   rw[if_neg (by omega),q2]
   dsimp only
   rw[if_pos hk3,idx_at r hnd,if_neg (by omega),toNat_cast,List.take_left,ea,eb,toNat_cast,toNat_cast,eta_order x ea eb rfl]
   rw[show((x.2.2.2.1:TX)++dotL::r).drop (List.length x.2.2.2.1+1)=r from by rw[←List.drop_drop,List.drop_left];rfl]
  ·intro h60
   rw[step_S s _ _ _ hl0 hm0 (by omega) (by omega)]
   unfold stepS
   obtain⟨n1,n2⟩:=nd_app r hnd
   rw[q3]
   dsimp only
   rw[if_neg (by simp),if_pos hk3,n1,n2,if_neg (by simp),ea,eb,eta_order x ea eb rfl]
   rfl
 ·have hnil:=f2 (by have hk3':¬(3:Int)≥x.1:=hk3;omega)
  have h0:List.length x.2.2.2.1=0:=by rw[hnil];rfl
  rw[if_neg (by omega:¬0<List.length x.2.2.2.1),List.nil_append] at hn ⊢
  constructor
  ·intro h60
   rw[step_I _ _ _ hm0 (by omega) (by omega)]
   unfold stepI
   rw[if_neg (by omega),q2]
   dsimp only
   rw[if_neg hk3,ea,eb,toNat_cast,toNat_cast,eta_order x ea eb hnil]
  ·intro h60
   rw[step_S s _ _ _ hl0 hm0 (by omega) (by omega)]
   unfold stepS
   rw[q3]
   dsimp only
   rw[if_neg (by simp),if_neg hk3,ea,eb,eta_order x ea eb hnil]
end R.V
end

section
/- Orders, read: both sides answer the same. -/
open Go Go.Dn
namespace R.V
set_option linter.unusedVariables false
theorem flat_cons (x:PV Y_impl_Order)(os:OR):(x::os).flatMap ordL=ordL x++os.flatMap ordL:=List.flatMap_cons
theorem good_I:∀(os out:OR),(∀x∈os,orderP x=true)→(out++os).length≤60→(∀l∈os.flatMap ordL,l.length≤3000)→(os.flatMap ordL).length≤3000→
 w_I_readOrders_2 (os.flatMap ordL,out,())=some (.inl (out++os,()))
 |[],out,_,_,_,_=>by rw[List.append_nil];exact end_I rfl
 |x::os,out,hg,hl,hm,hn=>by
  rw[flat_cons] at hm hn ⊢
  rw[List.length_append,List.length_cons] at hl
  have ih:=good_I os (out++[x]) (fun y hy=>hg y (List.mem_cons_of_mem _ hy)) (by simp;omega) (fun l hl=>hm l (List.mem_append_right _ hl)) (by rw[List.length_append] at hn;omega)
  rw[List.append_assoc] at ih
  exact go_I ((one_good (hg x (List.mem_cons_self ..)) [] _ out hm hn).1 (by omega)) ih
theorem good_S (s:List UInt8):∀(os out:OR),(∀x∈os,orderP x=true)→(out++os).length≤60→(∀l∈os.flatMap ordL,l.length≤3000)→(os.flatMap ordL).length≤3000→
 w_S_ReadOrders_5 (s,os.flatMap ordL,out,())=some (.inl (s,out++os,()))
 |[],out,_,_,_,_=>by rw[List.append_nil];exact end_S rfl
 |x::os,out,hg,hl,hm,hn=>by
  rw[flat_cons] at hm hn ⊢
  rw[List.length_append,List.length_cons] at hl
  have ih:=good_S s os (out++[x]) (fun y hy=>hg y (List.mem_cons_of_mem _ hy)) (by simp;omega) (fun l hl=>hm l (List.mem_append_right _ hl)) (by rw[List.length_append] at hn;omega)
  rw[List.append_assoc] at ih
  exact go_S ((one_good (hg x (List.mem_cons_self ..)) s _ out hm hn).2 (by omega)) ih
theorem dot_isL:isL dotL:=⟨[46],rfl,by decide⟩
theorem ord_isL {x:PV Y_impl_Order}(h:orderP x=true):∀l∈ordL x,isL l:=by
 intro l hl
 unfold ordL at hl
 rcases List.mem_cons.1 hl with rfl|hl
 ·exact(heads h).1
 ·by_cases h0:0<List.length x.2.2.2.1
  ·rw[if_pos h0] at hl
   have hk3:(3:Int)≥x.1:=by
    by_cases q:(3:Int)≥x.1
    ·exact q
    ·have:=(order_more h).2.2 (by omega)
     rw[this] at h0
     exact absurd h0 (by simp)
   rcases List.mem_append.1 hl with hl|hl
   ·exact((fresh_at ((order_more h).2.1 hk3)).2 l hl).1
   ·obtain rfl:=List.mem_singleton.1 hl
    exact dot_isL
  ·rw[if_neg h0] at hl;cases hl
theorem text_lines {os:OR}(hg:ordersP os=true):cutP (textO os)=os.flatMap ordL:=by
 have hL:∀l∈os.flatMap ordL,isL l:=fun l hl=>by
  obtain⟨x,hx,hl⟩:=List.mem_flatMap.1 hl
  exact ord_isL ((good_at hg).2 x hx) l hl
 have flat:∀gs:OR,(gs.flatMap ordL).flatten=textO gs:=by
  intro gs
  induction gs with
  |nil=>rfl
  |cons x gs ih=>
   unfold textO at ih ⊢
   rw[List.flatMap_cons,List.flatMap_cons,List.flatten_append,ih,ordL_flat]
 rw[←flat os,cutP_lines hL]
theorem raw_good {os:OR}(hg:ordersP os=true)(hl:(textO os).length≤3000)(s:List UInt8):
 f_I_readOrders (cutP (textO os))=some ((os,true,()),())∧w_S_ReadOrders_5 (s,cutP (textO os),[],())=some (.inl (s,os,())):=by
 obtain⟨h1,h2⟩:=good_at hg
 have hc:=cutP_len (textO os)
 have hm:∀l∈cutP (textO os),l.length≤3000:=fun l h=>by have:=cutP_mem h;omega
 rw[text_lines hg] at hc hm ⊢
 refine⟨?_,good_S s os [] h2 (by simpa using h1) hm (by omega)⟩
 unfold f_I_readOrders
 rw[good_I os [] h2 (by simpa using h1) hm (by omega)]
 rfl
def NoO (s:List UInt8):Prop:=∀gs:OR,ordersP gs=true→textO gs=s→s.length≤3000→False
theorem read_I (s:List UInt8):∃(gs:OR) (c:Int) (q:Bool),f_I_ReadOrders s=some ((gs,c,q,()),())∧
 ((ordersP gs=true∧textO gs=s∧s.length≤3000∧c=0∧q=true)∨(NoO s∧gs=[]∧c=1∧q=false)):=by
 unfold f_I_ReadOrders
 by_cases hs:s.length≤3000
 ·rw[decide_eq_true (by omega:(s.length:Int)≤3000),cond_true,linesOf_I s (by omega),Option.bind_some]
  dsimp only
  have hc:=cutP_len s
  obtain⟨gs,q,e,hsm⟩:=readRaw_I (cutP s) (by omega) (fun l h=>by have:=cutP_mem h;omega)
  rw[e,Option.bind_some]
  dsimp only
  rw[text_I hsm,Option.bind_some]
  dsimp only
  have key:∀gs0,ordersP gs0=true→textO gs0=s→gs=gs0∧q=true∧oOk gs=true∧oR gs=s:=fun gs0 h1 h2=>by
   have:=(raw_good h1 (by rw[h2];exact hs) s).1
   rw[h2,e] at this
   have h3:=Option.some.inj this
   have h4:=(Prod.mk.inj h3).1
   obtain⟨rfl,h5⟩:=Prod.mk.inj h4
   have h6:=(Prod.mk.inj h5).1
   have h7:oOk gs=true:=by unfold oOk;rw[h1,h2,decide_eq_true hs];rfl
   exact⟨rfl,h6,h7,by unfold oR;rw[if_pos h7,h2]⟩
  by_cases H:q=true∧oOk gs=true∧oR gs=s
  ·obtain⟨h1,h2,h3⟩:=H
   rw[h1,h2,cond_true,cond_true,h3,Option.bind_some]
   dsimp only
   rw[beq_self_eq_true,cond_true,Option.bind_some]
   have h2':=h2
   unfold oOk at h2'
   rw[Bool.and_eq_true] at h2'
   refine⟨gs,0,true,rfl,.inl ⟨h2'.1,?_,hs,rfl,rfl⟩⟩
   unfold oR at h3
   rw[if_pos h2] at h3
   exact h3
  ·have hno:NoO s:=fun gs0 h1 h2 _=>by
    obtain⟨rfl,h5,h6,h7⟩:=key gs0 h1 h2
    exact H ⟨h5,h6,h7⟩
   refine⟨[],1,false,?_,.inr ⟨hno,rfl,rfl,rfl⟩⟩
   cases hq:q
   ·rfl
   ·rw[cond_true]
    cases ho:oOk gs
    ·rfl
    ·rw[cond_true]
     have:(oR gs==s)=false:=by
      rw[beq_eq_false_iff_ne]
      exact fun h=>H ⟨hq,ho,h⟩
     rw[this]
     rfl
 ·rw[decide_eq_false (by omega:¬(s.length:Int)≤3000),cond_false,Option.bind_some]
  exact⟨[],1,false,rfl,.inr ⟨fun _ _ _ h=>hs h,rfl,rfl,rfl⟩⟩
theorem l9Text_S {l:OR}(h:ordersP l=true):f_S_l9Text l=some ((textO l,()),()):=by
 unfold f_S_l9Text
 rw[loop_ST h]
 rfl
theorem read_S (s:List UInt8):∃(gs:OR) (c:Int) (q:Bool),f_S_ReadOrders s=some ((gs,c,q,()),())∧
 ((ordersP gs=true∧textO gs=s∧s.length≤3000∧c=0∧q=true)∨(NoO s∧gs=[]∧c=1∧q=false)):=by
 unfold f_S_ReadOrders
 by_cases hs:s.length≤3000
 ·rw[decide_eq_false (by omega:¬(s.length:Int)>3000),cond_false,l1Cut_S s (by omega),Option.bind_some]
  dsimp only
  have hc:=cutP_len s
  have key:∀gs0,ordersP gs0=true→textO gs0=s→w_S_ReadOrders_5 (s,cutP s,[],())=some (.inl (s,gs0,())):=fun gs0 h1 h2=>by
   have:=(raw_good h1 (by rw[h2];exact hs) s).2
   rwa [h2] at this
  rcases raw_S s (cutP s).length (cutP s) [] (Nat.le_refl _) (by simp;omega) (fun l h=>⟨List.length_pos_iff.2 (cutP_ne h),by have:=cutP_mem h;omega⟩) (fun x hx=>by cases hx) with⟨gs,q1,q2,q3⟩|q3
  ·rw[q3,Option.bind_some]
   dsimp only
   have hsm:=OW.tot q1 q2
   rw[orders_S gs hsm,Option.bind_some]
   dsimp only
   cases hg:ordersP gs
   ·refine⟨[],1,false,rfl,.inr ⟨fun gs0 h1 h2 _=> ?_,rfl,rfl,rfl⟩⟩
    have h3:=key gs0 h1 h2
    rw[q3] at h3
    have:gs=gs0:=(Prod.mk.inj (Prod.mk.inj (Sum.inl.inj (Option.some.inj h3))).2).1
    rw[this,h1] at hg
    cases hg
   ·rw[Bool.not_true,cond_false,l9Text_S hg,Option.bind_some]
    dsimp only
    rw[Option.bind_some]
    dsimp only
    by_cases ht:textO gs=s
    ·rw[ht,beq_self_eq_true]
     exact⟨gs,0,true,rfl,.inl ⟨hg,ht,hs,rfl,rfl⟩⟩
    ·rw[beq_eq_false_iff_ne.2 ht]
     refine⟨[],1,false,rfl,.inr ⟨fun gs0 h1 h2 _=> ?_,rfl,rfl,rfl⟩⟩
     have h3:=key gs0 h1 h2
     rw[q3] at h3
     have:gs=gs0:=(Prod.mk.inj (Prod.mk.inj (Sum.inl.inj (Option.some.inj h3))).2).1
     exact ht (by rw[this];exact h2)
  ·rw[q3,Option.bind_some]
   refine⟨[],1,false,rfl,.inr ⟨fun gs0 h1 h2 _=> ?_,rfl,rfl,rfl⟩⟩
   have h3:=key gs0 h1 h2
   rw[q3] at h3
   cases h3
 ·rw[decide_eq_true (by omega:(s.length:Int)>3000),cond_true]
  exact⟨[],1,false,rfl,.inr ⟨fun _ _ _ h=>hs h,rfl,rfl,rfl⟩⟩
theorem orders_both (s:List UInt8):∃(gs:OR) (c:Int) (q:Bool),f_I_ReadOrders s=some ((gs,c,q,()),())∧f_S_ReadOrders s=some ((gs,c,q,()),())∧(ordersP gs=true∨gs=[]):=by
 obtain⟨g1,c1,q1,e1,h1⟩:=read_I s
 obtain⟨g2,c2,q2,e2,h2⟩:=read_S s
 rcases h1 with⟨a1,a2,a3,rfl,rfl⟩|⟨a1,rfl,rfl,rfl⟩
 ·rcases h2 with⟨b1,b2,_,rfl,rfl⟩|⟨b1,_⟩
  ·have r1:=(raw_good a1 (by rw[a2];exact a3) s).1
   have r2:=(raw_good b1 (by rw[b2];exact a3) s).1
   rw[a2] at r1
   rw[b2,r1] at r2
   have:g1=g2:=(Prod.mk.inj (Prod.mk.inj (Option.some.inj r2)).1).1
   subst this
   exact⟨g1,0,true,e1,e2,.inl a1⟩
  ·exact(b1 g1 a1 a2 a3).elim
 ·rcases h2 with⟨b1,b2,b3,_⟩|⟨_,rfl,rfl,rfl⟩
  ·exact(a1 g2 b1 b2 b3).elim
  ·exact⟨[],1,false,e1,e2,.inr rfl⟩
theorem good_tot {gs:OR}(h:ordersP gs=true):tot S_impl_Order gs≤1000000:=by
 obtain⟨hl,hg⟩:=good_at h
 have hx:∀x∈gs,tot Y_impl_Order x≤2000:=fun x hx=>by
  obtain⟨_,_,_,h1,h2⟩:=order_ok (hg x hx)
  have h3:tot S_string x.2.2.2.1≤(30+1)*List.length x.2.2.2.1:=tot_le fun s hs=>by
   have:=h2 s hs
   rw[tot_str];exact this
  simp only[tot] at h3 ⊢
  omega
 have h5:tot S_impl_Order gs≤(2000+1)*gs.length:=tot_le hx
 omega
end R.V
end

section
/- Good hunks: both sides answer the same. -/
open Go Go.Dn
namespace R
set_option linter.unusedVariables false
theorem l1Good_S (t0:List (List UInt8))(hs:Sm t0):f_S_l1Good t0=some ((goodP t0,()),()):=by
 have hl:=hs.len
 unfold f_S_l1Good
 have hw:IntKind.wrap .i64 ((t0.length:Int) -1)=(t0.length:Int) -1:=wrap64 (by omega) (by omega)
 have hr:∀i,i<t0.length→(((f_S_l1Line (t0.getD i [])).bind fun r4=>bif !r4.1.1 then some (t0,t0,(t0.length:Int),(i:Int),true,()) else
  bif decide ((i:Int)<(t0.length:Int) -1) then(f_S_l1Ends (t0.getD i [])).bind fun r5=>some (t0,t0,(t0.length:Int),(i:Int), !r5.1.1,()) else some (t0,t0,(t0.length:Int),(i:Int),false,())):Option (PV S_string×PV S_string×Int×Int×Bool×Unit))=
  some (t0,t0,(t0.length:Int),(i:Int), !(lineP (t0.getD i []))||(decide ((i:Int)<(t0.length:Int) -1)&& !(endP (t0.getD i []))),()):=by
  intro i hi
  rw[getD_of hi,line_S _ (hs.mem hi),Option.bind_some]
  dsimp only
  cases hL:lineP t0[i]
  ·rfl
  ·rw[Bool.not_true,cond_false,Bool.false_or]
   cases decide ((i:Int)<(t0.length:Int) -1)
   ·rfl
   ·rw[cond_true,ends_S _ (line_len hL).1 (hs.mem hi)];rfl
 rw[show w_S_l1Good_2 (t0,t0,(t0.length:Int),0,())=_ from fix_anyN (B:=fun d=>b_S_l1Good_2 d.1 d.2.1 d.2.2.1 d.2.2.2.1) t0.length (fun k=> !(lineP (t0.getD k []))||(decide ((k:Int)<(t0.length:Int) -1)&& !(endP (t0.getD k []))))
    (fun i=>(t0,t0,(t0.length:Int),(i:Int),())) (fun _=>.inr (false,())) (.inl (t0,()))
    (fun i hi hq=>by
      show b_S_l1Good_2 t0 t0 t0.length i=_
      unfold b_S_l1Good_2
      rw[decide_eq_true (by omega:(i:Int)<(t0.length:Int)),cond_true,inB_lt hi,cond_true,toNat_cast,hw,hr i hi,hq,Option.bind_some]
      dsimp only
      rw[cond_false,wrap64 (by omega) (by omega)];rfl)
    (fun i hi hq=>by
      show b_S_l1Good_2 t0 t0 t0.length i=_
      unfold b_S_l1Good_2
      rw[decide_eq_true (by omega:(i:Int)<(t0.length:Int)),cond_true,inB_lt hi,cond_true,toNat_cast,hw,hr i hi,hq,Option.bind_some]
      rfl)
    (by
      show b_S_l1Good_2 t0 t0 t0.length t0.length=_
      unfold b_S_l1Good_2
      rw[decide_eq_false (Int.lt_irrefl _),cond_false])]
 rw[anyN_or,show(anyN t0.length fun k=> !(lineP (t0.getD k [])))=t0.any fun s=> !lineP s from anyN_list (f:=fun s=> !lineP s)]
 unfold goodP linesP endsP
 cases t0.any fun s=> !lineP s
 ·cases anyN t0.length fun k=>decide ((k:Int)<(t0.length:Int) -1)&& !(endP (t0.getD k []))
  ·simp;omega
  ·simp
 ·simp
abbrev H0:PV Y_impl_Hunk:=dflt Y_impl_Hunk
def badH (many:Int)(x:PV Y_impl_Hunk):Bool:=
 !(inI x.1 0 many)||(!(inI x.2.1 0 (IntKind.wrap .i64 (many -x.1)))||(!(linesP x.2.2.1)||((x.2.1==0)&&((List.length x.2.2.1:Int)==0))))
def badP (h:List (PV Y_impl_Hunk))(k:Nat):Bool:=
 decide ((k:Int)>0)&&decide ((h.getD k H0).1≤IntKind.wrap .i64 ((h.getD (k -1) H0).1+(h.getD (k -1) H0).2.1))
def badK (many:Int)(h:List (PV Y_impl_Hunk))(k:Nat):Bool:=badH many (h.getD k H0)||badP h k
def hunksP (many:Int)(h:List (PV Y_impl_Hunk)):Bool:=inI many 0 40&&(decide (h.length≤20)&& !(anyN h.length (badK many h)))
def SmH (h:List (PV Y_impl_Hunk)):Prop:=h.length≤4611686018427387904∧∀x∈h,Sm x.2.2.1
theorem SmH.len {h:List (PV Y_impl_Hunk)}(hs:SmH h):h.length≤4611686018427387904:=hs.1
theorem SmH.mem {h:List (PV Y_impl_Hunk)}(hs:SmH h){i:Nat}(hi:i<h.length):Sm (h.getD i H0).2.2.1:=by
 rw[getD_of hi]
 exact hs.2 _ (List.getElem_mem hi)
theorem SmH.of {e:TypeId}{h:List (PV Y_impl_Hunk)}{n:Nat}(hs:tot (.slice e Y_impl_Hunk) h≤n)(hn:n≤4611686018427387904):SmH h:=by
 refine⟨?_,fun x hx=> ?_⟩
 ·have h':=hs
  rw[tot_slice] at h'
  omega
 ·obtain⟨i,hi,rfl⟩:=List.mem_iff_getElem.1 hx
  have:=Nat.le_trans (tot_mem (e:=e) (t:=Y_impl_Hunk) (xs:=h) hi) hs
  refine Sm.of (n:=n) ?_ hn
  simp only[tot] at this ⊢
  omega
def badS (many:Int)(x:PV Y_impl_Hunk):Bool:=
 decide (x.1<0)||(decide (x.2.1<0)||(decide (x.2.1>many)||(decide (x.1>IntKind.wrap .i64 (many -x.2.1))||((IntKind.wrap .i64 (x.2.1+(List.length x.2.2.1:Int))==0)||decide ((List.length x.2.2.1:Int)>40)))))
theorem bad_nums {many A G n:Int}(h0:0≤many)(h1:many≤4611686018427387903)(hn:0≤n)(hm:n≤4611686018427387904):
 (decide (A<0)||(decide (G<0)||(decide (G>many)||(decide (A>IntKind.wrap .i64 (many -G))||((IntKind.wrap .i64 (G+n)==0)||decide (n>40))))))=
   (!(decide (A≥0)&&decide (A≤many))||(!(decide (G≥0)&&decide (G≤IntKind.wrap .i64 (many -A)))||(!(decide (n≤40))||((G==0)&&(n==0))))):=by
 rw[Bool.eq_iff_iff]
 simp only[Bool.or_eq_true,Bool.not_eq_true',decide_eq_true_eq,decide_eq_false_iff_not,beq_iff_eq,Bool.and_eq_false_iff,Bool.and_eq_true]
 by_cases a4:A≤many∧0≤A
 ·rw[wrap64 (x:=many -A) (by omega) (by omega)]
  by_cases a3:0≤G∧G≤many
  ·rw[wrap64 (x:=many -G) (by omega) (by omega),wrap64 (x:=G+n) (by omega) (by omega)]
   omega
  ·constructor
   ·intro _;right;left;omega
   ·intro _;omega
 ·constructor
  ·intro _;left;omega
  ·intro _
   by_cases a1:A<0
   ·exact .inl a1
   ·by_cases a2:G<0
    ·exact .inr (.inl a2)
    ·by_cases a3:G>many
     ·exact .inr (.inr (.inl a3))
     ·right;right;right;left
      rw[wrap64 (x:=many -G) (by omega) (by omega)]
      omega
theorem bad_same {many:Int}{x:PV Y_impl_Hunk}(h0:0≤many)(h1:many≤4611686018427387903)(hm:List.length x.2.2.1≤4611686018427387904):
 (badS many x||List.any x.2.2.1 fun s=> !lineP s)=badH many x:=by
 unfold badS badH linesP inI
 have:=bad_nums (A:=x.1) (G:=x.2.1) (n:=(List.length x.2.2.1:Int)) h0 h1 (by omega) (by omega)
 rw[this]
 rw[show decide (List.length x.2.2.1≤40)=decide ((List.length x.2.2.1:Int)≤40) from by rw[Bool.eq_iff_iff];simp;omega]
 cases(decide ((x.1:Int)≥0)&&decide ((x.1:Int)≤many))<;>cases(decide ((x.2.1:Int)≥0)&&decide ((x.2.1:Int)≤IntKind.wrap .i64 (many -x.1)))<;>cases decide ((List.length x.2.2.1:Int)≤40)<;>
  cases((x.2.1==0)&&((List.length x.2.2.1:Int)==0))<;>cases(List.any x.2.2.1 fun s=> !lineP s)<;>rfl
theorem stepH_S (many:Int)(h:List (PV Y_impl_Hunk))(hs:SmH h)(h0:0≤many)(h1:many≤4611686018427387903){i:Nat}(hi:i<h.length):
 b_S_l2Hunks_2 many h h h.length i=some (if badK many h i then .inr (.inr (false,())) else .inl (many,h,h,(h.length:Int),(i:Int)+1,())):=by
 have hl:=hs.len
 have hm:=hs.mem hi
 unfold b_S_l2Hunks_2
 rw[decide_eq_true (by omega:(i:Int)<(h.length:Int)),cond_true,inB_lt hi,cond_true,toNat_cast]
 have hq:badK many h i=((badS many (h.getD i H0)||badP h i)||List.any (h.getD i H0).2.2.1 fun s=> !lineP s):=by
  unfold badK
  rw[←bad_same h0 h1 hm.len]
  cases badS many (h.getD i H0)<;>cases badP h i<;>cases List.any (h.getD i H0).2.2.1 fun s=> !lineP s<;>rfl
 rw[hq]
 unfold badP
 generalize hx:h.getD i H0=x at*
 have hr:∀f:Bool,(bif f then some (Sum.inr (Sum.inr (false,()))) else
  (w_S_l2Hunks_7 (many,h,h,(h.length:Int),(i:Int),x.2.2.1,(List.length x.2.2.1:Int),0,())).bind fun x14=>
    match x14 with
    | .inl l7=>
      some (.inl (l7.1,l7.2.1,l7.2.2.1,l7.2.2.2.1,(IntKind.wrap .i64 (l7.2.2.2.2.1+1)),()))
    | .inr l8=>
      some (.inr (.inr (l8.1,()))):Option ((PV (.int .i64)×PV S_impl_Hunk×PV S_impl_Hunk×PV (.int .i64)×PV (.int .i64)×Unit)⊕((PV (.int .i64)×PV S_impl_Hunk×Unit)⊕(PV .bool×Unit))))=
  some (if (f||List.any x.2.2.1 fun s=> !lineP s) then .inr (.inr (false,())) else .inl (many,h,h,(h.length:Int),(i:Int)+1,())):=by
  intro f
  cases f
  ·rw[cond_false,Bool.false_or,show w_S_l2Hunks_7 (many,h,h,(h.length:Int),(i:Int),x.2.2.1,(List.length x.2.2.1:Int),0,())=_ from
    fix_any (B:=fun d=>b_S_l2Hunks_7 d.1 d.2.1 d.2.2.1 d.2.2.2.1 d.2.2.2.2.1 d.2.2.2.2.2.1 d.2.2.2.2.2.2.1 d.2.2.2.2.2.2.2.1) x.2.2.1 (fun s=> !lineP s) (fun k=>(many,h,h,(h.length:Int),(i:Int),x.2.2.1,(List.length x.2.2.1:Int),(k:Int),())) (fun _=>.inr (false,())) (.inl (many,h,h,(h.length:Int),(i:Int),()))
    (fun k hk hq=>by
      have hml:=hm.len
      show b_S_l2Hunks_7 many h h h.length i x.2.2.1 (List.length x.2.2.1) k=_
      unfold b_S_l2Hunks_7
      rw[decide_eq_true (by omega:(k:Int)<(List.length x.2.2.1:Int)),cond_true,inB_lt hk,cond_true,toNat_cast,getD_of hk,line_S _ (hm.mem hk),Option.bind_some]
      dsimp only
      rw[hq,cond_false,wrap64 (by omega) (by omega)];rfl)
    (fun k hk hq=>by
      show b_S_l2Hunks_7 many h h h.length i x.2.2.1 (List.length x.2.2.1) k=_
      unfold b_S_l2Hunks_7
      rw[decide_eq_true (by omega:(k:Int)<(List.length x.2.2.1:Int)),cond_true,inB_lt hk,cond_true,toNat_cast,getD_of hk,line_S _ (hm.mem hk),Option.bind_some]
      dsimp only
      rw[hq,cond_true])
    (by
      show b_S_l2Hunks_7 many h h h.length i x.2.2.1 (List.length x.2.2.1) (List.length x.2.2.1)=_
      unfold b_S_l2Hunks_7
      rw[decide_eq_false (Int.lt_irrefl _),cond_false])]
   cases List.any x.2.2.1 fun s=> !lineP s
   ·rw[if_neg (by simp),if_neg (by simp),Option.bind_some]
    dsimp only
    rw[wrap64 (by omega) (by omega)]
   ·rfl
  ·rfl
 have hb:∀j:Bool,((bif decide ((i:Int)>0) then bif inB (IntKind.wrap .i64 ((i:Int) -1)) h.length then bif inB (IntKind.wrap .i64 ((i:Int) -1)) h.length then
  some (many,h,x,h,(h.length:Int),(i:Int),decide (x.1≤IntKind.wrap .i64 ((h.getD (IntKind.wrap .i64 ((i:Int) -1)).toNat (dflt Y_impl_Hunk)).1+(h.getD (IntKind.wrap .i64 ((i:Int) -1)).toNat (dflt Y_impl_Hunk)).2.1)),()) else none else none
  else some (many,h,x,h,(h.length:Int),(i:Int),false,())):Option ((PV (.int .i64)×PV S_impl_Hunk×PV Y_impl_Hunk×PV S_impl_Hunk×PV (.int .i64)×PV (.int .i64)×PV .bool×Unit)))=
  some (many,h,x,h,(h.length:Int),(i:Int),decide ((i:Int)>0)&&decide (x.1≤IntKind.wrap .i64 ((h.getD (i -1) H0).1+(h.getD (i -1) H0).2.1)),()):=by
  intro _
  cases i with
  |zero=>rw[decide_eq_false (by omega:¬(((0:Nat):Int)>0))];rfl
  |succ j=>
   rw[decide_eq_true (by omega:((j+1:Nat):Int)>0),cond_true,show IntKind.wrap .i64 (((j+1:Nat):Int) -1)=(j:Int) from by rw[wrap64 (by omega) (by omega)];omega,inB_lt (by omega:j<h.length),cond_true,cond_true,toNat_cast,Bool.true_and,Nat.add_sub_cancel]
 rw[hb true]
 unfold badS
 cases decide (x.1<0)
 ·rw[cond_false]
  cases decide (x.2.1<0)
  ·rw[cond_false]
   cases decide (x.2.1>many)
   ·rw[cond_false]
    cases decide (x.1>IntKind.wrap .i64 (many -x.2.1))
    ·rw[cond_false]
     cases(IntKind.wrap .i64 (x.2.1+(List.length x.2.2.1:Int))==0)
     ·rw[cond_false]
      cases decide ((List.length x.2.2.1:Int)>40)
      ·rw[cond_false,Option.bind_some]
       exact hr _
      ·rfl
     ·rfl
    ·rfl
   ·rfl
  ·rfl
 ·rfl
theorem hunks_S (many:Int)(h:List (PV Y_impl_Hunk))(hs:SmH h)(h0:0≤many)(h1:many≤4611686018427387903):f_S_l2Hunks many h=some ((hunksP many h,()),()):=by
 have hl:=hs.len
 unfold f_S_l2Hunks hunksP
 rw[show w_S_l2Hunks_2 (many,h,h,(h.length:Int),0,())=_ from fix_anyN (B:=fun d=>b_S_l2Hunks_2 d.1 d.2.1 d.2.2.1 d.2.2.2.1 d.2.2.2.2.1) h.length (badK many h) (fun i=>(many,h,h,(h.length:Int),(i:Int),())) (fun _=>.inr (false,())) (.inl (many,h,()))
     (fun i hi hq=>by show b_S_l2Hunks_2 many h h h.length i=_;rw[stepH_S many h hs h0 h1 hi,hq];rfl)
     (fun i hi hq=>by show b_S_l2Hunks_2 many h h h.length i=_;rw[stepH_S many h hs h0 h1 hi,hq];rfl)
     (by
       show b_S_l2Hunks_2 many h h h.length h.length=_
       unfold b_S_l2Hunks_2
       rw[decide_eq_false (Int.lt_irrefl _),cond_false])]
 cases anyN h.length (badK many h)
 ·rw[if_neg (by simp),Option.bind_some]
  dsimp only
  rw[in_S,Option.bind_some]
  by_cases hn:h.length≤20
  ·rw[decide_eq_true (by omega:(h.length:Int)≤20),cond_true,decide_eq_true hn]
   unfold inI
   cases decide (many≥0)&&decide (many≤40)<;>rfl
  ·rw[decide_eq_false (by omega:¬(h.length:Int)≤20),cond_false,decide_eq_false hn]
   simp
 ·rw[if_pos rfl]
  simp
end R
end

section
/- Lines behind hunks: both sides make the same. -/
open Go Go.Dn
namespace R
set_option linter.unusedVariables false
def stepP (l:List (List UInt8))(a:List (List UInt8)×Int)(x:PV Y_impl_Hunk):List (List UInt8)×Int:=((a.1++cutL a.2 x.1 l)++x.2.2.1,x.1+x.2.1)
def foldP (l:List (List UInt8))(h:List (PV Y_impl_Hunk)):List (List UInt8)×Int:=h.foldl (stepP l) ([],0)
def patchL (l:List (List UInt8))(h:List (PV Y_impl_Hunk)):List (List UInt8):=(foldP l h).1++cutL (foldP l h).2 (l.length:Int) l
theorem linesP_len {l:List (List UInt8)}(h:linesP l=true):l.length≤40:=by
 unfold linesP at h
 simp only[Bool.and_eq_true,decide_eq_true_eq] at h
 exact h.1
theorem goodP_len {l:List (List UInt8)}(h:goodP l=true):l.length≤40:=by
 unfold goodP at h
 simp only[Bool.and_eq_true] at h
 exact linesP_len h.1
theorem hunk_facts {many:Int}{h:List (PV Y_impl_Hunk)}(hh:hunksP many h=true):0≤many∧many≤40∧h.length≤20∧∀i,i<h.length→
 0≤(h.getD i H0).1∧(h.getD i H0).1≤many∧0≤(h.getD i H0).2.1∧(h.getD i H0).1+(h.getD i H0).2.1≤many∧List.length (h.getD i H0).2.2.1≤40∧linesP (h.getD i H0).2.2.1=true∧
  (0<i→(h.getD (i -1) H0).1+(h.getD (i -1) H0).2.1<(h.getD i H0).1):=by
 unfold hunksP inI at hh
 simp only[Bool.and_eq_true,decide_eq_true_eq,Bool.not_eq_true'] at hh
 obtain⟨⟨h0,h1⟩,h2,h3⟩:=hh
 have hq:∀i,i<h.length→badK many h i=false:=fun i hi=>by
  cases hb:badK many h i with
  |false=>rfl
  |true=>rw[anyN_iff.2 ⟨i,hi,hb⟩] at h3;cases h3
 have h4:∀i,i<h.length→(0:Int)≤(h.getD i H0).1∧((h.getD i H0).1:Int)≤many∧(0:Int)≤(h.getD i H0).2.1∧((h.getD i H0).1:Int)+(h.getD i H0).2.1≤many∧linesP (h.getD i H0).2.2.1=true:=by
  intro i hi
  have hb:=hq i hi
  unfold badK badH inI at hb
  generalize h.getD i H0=x at*
  obtain⟨A,G,N,u⟩:=x
  have e:∀(A G:Int),(decide (A≥0)&&decide (A≤many))=true→(decide (G≥0)&&decide (G≤IntKind.wrap .i64 (many -A)))=true→0≤A∧A≤many∧0≤G∧A+G≤many:=by
   intro A G p q
   simp only[Bool.and_eq_true,decide_eq_true_eq] at p q
   rw[wrap64 (by omega) (by omega)] at q
   omega
  dsimp only at hb ⊢
  simp only[Bool.or_eq_false_iff,Bool.not_eq_false'] at hb
  obtain⟨⟨b1,b2,b3,_⟩,_⟩:=hb
  obtain⟨c1,c2,c3,c4⟩:=e A G b1 b2
  exact⟨c1,c2,c3,c4,b3⟩
 refine⟨h0,h1,h2,fun i hi=> ?_⟩
 obtain⟨a1,a2,a3,a4,a5⟩:=h4 i hi
 refine⟨a1,a2,a3,a4,linesP_len a5,a5,fun hpos=> ?_⟩
 have hb:=hq i hi
 unfold badK badP at hb
 simp only[Bool.or_eq_false_iff] at hb
 have hb:=hb.2
 rw[decide_eq_true (by omega:(i:Int)>0),Bool.true_and,decide_eq_false_iff_not] at hb
 obtain⟨b1,b2,b3,b4,_⟩:=h4 (i -1) (by omega)
 have e:∀(A P G:Int),0≤P→0≤G→P+G≤many→many≤40→¬A≤IntKind.wrap .i64 (P+G)→P+G<A:=by
  intro A P G p1 p2 p3 p4 q
  rw[wrap64 (by omega) (by omega)] at q
  omega
 exact e _ _ _ b1 b3 b4 h1 hb
theorem cut_len {l:List (List UInt8)}{a b:Int}:(cutL a b l).length≤l.length:=by
 unfold cutL
 simp
 omega
theorem cut_mem {l:List (List UInt8)}{a b:Int}{s:List UInt8}(h:s∈cutL a b l):s∈l:=List.mem_of_mem_take (List.mem_of_mem_drop h)
def InvP (l:List (List UInt8))(h:List (PV Y_impl_Hunk))(i:Nat)(a:List (List UInt8)×Int):Prop:=
 a.1.length≤80*i∧0≤a.2∧a.2≤(l.length:Int)∧(i=0→a.2=0)∧(0<i→a.2=(h.getD (i -1) H0).1+(h.getD (i -1) H0).2.1)∧∀s∈a.1,s.length≤4611686018427387904
theorem inv_next {l:List (List UInt8)}{h:List (PV Y_impl_Hunk)}(hl:Sm l)(hh:SmH h)(hg:hunksP (l.length:Int) h=true){i:Nat}(hi:i<h.length){a:List (List UInt8)×Int}(hI:InvP l h i a):
 InvP l h (i+1) (stepP l a h[i])∧0≤a.2∧a.2≤(h[i].1:Int)∧(h[i].1:Int)≤l.length∧0≤(h[i].2.1:Int)∧(h[i].1:Int)+h[i].2.1≤l.length∧List.length h[i].2.2.1≤40∧a.1.length≤1600∧l.length≤40:=by
 obtain⟨f1,f2,f3,f4⟩:=hunk_facts hg
 have f5:=f4 i hi
 rw[getD_of hi] at f5
 obtain⟨g1,g2,g3,g4,g5,g6,g7⟩:=f5
 obtain⟨i1,i2,i3,i4,i5,i6⟩:=hI
 have hat:∀A:Int,A=h[i].1→a.2≤A:=by
  intro A hA
  rcases Nat.eq_zero_or_pos i with h0|hp
  ·rw[i4 h0,hA];exact g1
  ·rw[i5 hp,hA];exact Int.le_of_lt (g7 hp)
 have hat:=hat _ rfl
 have hc:(cutL a.2 h[i].1 l).length≤40:=Nat.le_trans cut_len (by omega)
 refine⟨⟨?_,?_,?_,fun h=>by omega,fun _=> ?_,?_⟩,i2,hat,g2,g3,g4,g5,by omega,by omega⟩
 ·show((a.1++cutL a.2 h[i].1 l)++h[i].2.2.1).length≤80*(i+1)
  rw[List.length_append,List.length_append]
  omega
 ·exact Int.add_nonneg g1 g3
 ·exact g4
 ·rw[Nat.add_sub_cancel,getD_of hi];rfl
 ·intro s hs
  rcases List.mem_append.1 hs with hs|hs
  ·rcases List.mem_append.1 hs with hs|hs
   ·exact i6 s hs
   ·exact hl.2 s (cut_mem hs)
  ·exact(hh.2 _ (List.getElem_mem hi)).2 s hs
theorem cutB_ok {a b:Int}{n:Nat}(h0:0≤a)(h1:a≤b)(h2:b≤(n:Int)):cutB a b n=true:=by
 unfold cutB
 rw[decide_eq_true h0,decide_eq_true h1,decide_eq_true h2]
 rfl
theorem patch_loop_S {l:List (List UInt8)}{h:List (PV Y_impl_Hunk)}(hl:Sm l)(hh:SmH h)(hg:hunksP (l.length:Int) h=true):
 w_S_l2Patch_4 (l,([]:List (List UInt8)),0,h,(h.length:Int),0,())=some (l,(foldP l h).1,(foldP l h).2,())∧InvP l h h.length (foldP l h):=by
 have:=fix_fold (B:=fun d=>b_S_l2Patch_4 d.1 d.2.1 d.2.2.1 d.2.2.2.1 d.2.2.2.2.1 d.2.2.2.2.2.1) h (stepP l) (fun a i=>(l,a.1,a.2,h,(h.length:Int),(i:Int),())) (fun a=>(l,a.1,a.2,())) (InvP l h)
  (fun i hi a hI=>by
    obtain⟨q0,q1,q2,q3,q4,q5,q6,q7,q8⟩:=inv_next hl hh hg hi hI
    refine⟨q0,?_⟩
    show b_S_l2Patch_4 l a.1 a.2 h h.length i=_
    have hlen:=hh.len
    unfold b_S_l2Patch_4
    rw[decide_eq_true (by omega:(i:Int)<(h.length:Int)),cond_true,inB_lt hi,cond_true,toNat_cast,getD_of hi]
    have hc:(cutL a.2 h[i].1 l).length≤40:=Nat.le_trans cut_len q8
    rw[cutB_ok q1 q2 q3,cond_true,roomB_ok (by omega),cond_true,roomB_ok (by rw[List.length_append];omega),cond_true]
    have e:∀A G:Int,0≤A→0≤G→A+G≤(l.length:Int)→IntKind.wrap .i64 (A+G)=A+G:=fun A G p1 p2 p3=>wrap64 (by omega) (by omega)
    rw[e _ _ (Int.le_trans q1 q2) q4 q5,wrap64 (by omega) (by omega)]
    simp[stepP])
  (fun a _=>by
    show b_S_l2Patch_4 l a.1 a.2 h h.length h.length=_
    unfold b_S_l2Patch_4
    rw[decide_eq_false (Int.lt_irrefl _),cond_false]) ([],0) ⟨by simp,Int.le_refl _,by simp,fun _=>rfl,fun h=>by omega,fun s hs=>by cases hs⟩
 exact this
theorem patchL_sm {l:List (List UInt8)}{h:List (PV Y_impl_Hunk)}(hl:Sm l)(hh:SmH h)(hg:hunksP (l.length:Int) h=true):Sm (patchL l h)∧(patchL l h).length≤1640:=by
 obtain⟨_,h2⟩:=patch_loop_S hl hh hg
 obtain⟨f1,f2,f3,_⟩:=hunk_facts hg
 obtain⟨i1,i2,i3,_,_,i6⟩:=h2
 have hc:(cutL (foldP l h).2 (l.length:Int) l).length≤40:=Nat.le_trans cut_len (by omega)
 refine⟨⟨?_,fun s hs=> ?_⟩,?_⟩
 ·unfold patchL;rw[List.length_append];omega
 ·rcases List.mem_append.1 hs with hs|hs
  ·exact i6 s hs
  ·exact hl.2 s (cut_mem hs)
 ·unfold patchL;rw[List.length_append];omega
theorem patched_S {l:List (List UInt8)}{h:List (PV Y_impl_Hunk)}(hl:Sm l)(hh:SmH h)(hg:hunksP (l.length:Int) h=true):f_S_l2Patch l h=some ((patchL l h,()),()):=by
 obtain⟨hloop,h2⟩:=patch_loop_S hl hh hg
 obtain⟨f1,f2,f3,_⟩:=hunk_facts hg
 obtain⟨i1,i2,i3,_,_,i6⟩:=h2
 have hc:(cutL (foldP l h).2 (l.length:Int) l).length≤40:=Nat.le_trans cut_len (by omega)
 unfold f_S_l2Patch
 rw[show w_S_l2Patch_4 (l,[],0,h,(h.length:Int),0,())=_ from hloop,Option.bind_some]
 dsimp only
 rw[cutB_ok i2 i3 (Int.le_refl _),cond_true,roomB_ok (by omega),cond_true]
 rfl
def patchOk (l:List (List UInt8))(h:List (PV Y_impl_Hunk)):Bool:=goodP l&&(hunksP (l.length:Int) h&&goodP (patchL l h))
def patchR (l:List (List UInt8))(h:List (PV Y_impl_Hunk)):List (List UInt8):=bif patchOk l h then patchL l h else[]
theorem patch_S {l:List (List UInt8)}{h:List (PV Y_impl_Hunk)}(hl:Sm l)(hh:SmH h):f_S_Patch l h=some ((patchR l h,patchOk l h,()),()):=by
 have hlen:=hl.len
 unfold f_S_Patch f_S_l2Asked patchR patchOk
 rw[l1Good_S l hl,Option.bind_some]
 dsimp only
 cases hgl:goodP l
 ·rfl
 ·have:=goodP_len hgl
  rw[cond_true,hunks_S _ h hh (by omega) (by omega),Option.bind_some,Option.bind_some]
  dsimp only
  cases hg:hunksP (l.length:Int) h
  ·rfl
  ·obtain⟨p2,_⟩:=patchL_sm hl hh hg
   rw[patched_S hl hh hg,Option.bind_some,l1Good_S _ p2,Option.bind_some]
   simp only[Bool.not_true,cond_false]
   cases goodP (patchL l h)<;>rfl
end R
end

section
/- The drawn inputs: choices, lines, hunks; what is drawn is small. -/
open Go Go.Dn
namespace R
set_option linter.unusedVariables false
abbrev HK:=List (PV Y_impl_Hunk)
abbrev Cur:=PV Y_spec_l1Cur
structure CurOk (K:Int)(c:Cur):Prop where
 by_:∀x∈(c.1:List Int),0≤x∧x≤255
 a0:(0:Int)≤c.2.1
 a1:(c.2.1:Int)≤K
theorem CurOk.up {K K':Int}{c:Cur}(h:CurOk K c)(hk:K≤K'):CurOk K' c:=⟨h.by_,h.a0,Int.le_trans h.a1 hk⟩
theorem wrapU {n:Nat}(h:n≤255):IntKind.wrap .u64 (n:Int)=n:=by
 simp[IntKind.wrap,IntKind.min,IntKind.max,IntKind.signed,IntKind.bits]
 omega
theorem and255 (X:Int):(BitVec.ofInt (IntKind.bits .u64) X&&&BitVec.ofInt (IntKind.bits .u64) 255).toNat≤255:=by
 rw[BitVec.toNat_and]
 exact Nat.le_trans Nat.and_le_right (by decide)
theorem and255w (X:Int):0≤IntKind.wrap .i64 (IntKind.wrap .u64 ((BitVec.ofInt (IntKind.bits .u64) X&&&BitVec.ofInt (IntKind.bits .u64) 255).toNat:Int))∧IntKind.wrap .i64 (IntKind.wrap .u64 ((BitVec.ofInt (IntKind.bits .u64) X&&&BitVec.ofInt (IntKind.bits .u64) 255).toNat:Int))≤255:=by
 have h:=and255 X
 generalize (BitVec.ofInt (IntKind.bits .u64) X&&&BitVec.ofInt (IntKind.bits .u64) 255).toNat=n at*
 rw[wrapU h,wrap64 (by omega) (by omega)]
 omega
theorem next_ok {K:Int}{c:Cur}(h:CurOk K c)(hK:K≤4611686018427387904):∃(r:Int) (c':Cur),f_S_l1Cur_next c=some ((r,()),(c',()))∧0≤r∧r≤255∧CurOk (K+1) c':=by
 obtain⟨code,at_,seed,u⟩:=c
 obtain⟨h1,h2,h3⟩:=h
 have h1:∀x∈(code:List Int),0≤x∧x≤255:=h1
 have h2:(0:Int)≤at_:=h2
 have h3:(at_:Int)≤K:=h3
 have e:∀a:Int,0≤a→a≤K→IntKind.wrap .i64 (a+1)=a+1∧0≤a+1∧a+1≤K+1:=fun a _ _=>⟨wrap64 (by omega) (by omega),by omega,by omega⟩
 obtain⟨e1,e2,e3⟩:=e _ h2 h3
 have fin:∀(b:Int),0≤b→b≤255→∃(r:Int) (c':Cur),(bif (decide ((IntKind.wrap .i64 (at_+1))≤(List.length code:Int))) then
  some ((b,()),((code,((IntKind.wrap .i64 (at_+1)),((IntKind.wrap .u64 ((IntKind.wrap .u64 ((IntKind.wrap .u64 (seed*6364136223846793005))+(IntKind.wrap .u64 b)))+1442695040888963407)),u))),()))
  else
   bif decide ((0:Int)≤40) then
    some (((IntKind.wrap .i64 (IntKind.wrap .u64 ((BitVec.ofInt (IntKind.bits .u64) ((IntKind.wrap .u64 ((IntKind.wrap .u64 ((IntKind.wrap .u64 (seed*6364136223846793005))+(IntKind.wrap .u64 b)))+1442695040888963407)).fdiv (2^(min (40:Int).toNat (IntKind.bits .u64))))&&&BitVec.ofInt (IntKind.bits .u64) 255).toNat:Int))),()),((code,((IntKind.wrap .i64 (at_+1)),((IntKind.wrap .u64 ((IntKind.wrap .u64 ((IntKind.wrap .u64 (seed*6364136223846793005))+(IntKind.wrap .u64 b)))+1442695040888963407)),u))),()))
   else
    none:Option (PVs [(.int .i64)]×PVs [Y_spec_l1Cur]))=some ((r,()),(c',()))∧0≤r∧r≤255∧CurOk (K+1) c':=by
  intro b b0 b1
  cases decide ((IntKind.wrap .i64 (at_+1))≤(List.length code:Int))
  ·rw[cond_false,decide_eq_true (by omega:(0:Int)≤40),cond_true]
   refine⟨_,_,rfl,(and255w _).1,(and255w _).2,h1,?_,?_⟩
   ·show 0≤IntKind.wrap .i64 (at_+1);rw[e1];exact e2
   ·show IntKind.wrap .i64 (at_+1)≤K+1;rw[e1];exact e3
  ·rw[cond_true]
   refine⟨_,_,rfl,b0,b1,h1,?_,?_⟩
   ·show 0≤IntKind.wrap .i64 (at_+1);rw[e1];exact e2
   ·show IntKind.wrap .i64 (at_+1)≤K+1;rw[e1];exact e3
 unfold f_S_l1Cur_next
 dsimp only
 cases hc:decide (at_<(List.length code:Int))
 ·rw[cond_false,Option.bind_some]
  exact fin 0 (by omega) (by omega)
 ·have hlt:at_<(List.length code:Int):=of_decide_eq_true hc
  obtain⟨i,rfl⟩:∃i:Nat,at_=(i:Int):=⟨at_.toNat,(Int.toNat_of_nonneg h2).symm⟩
  have hi:i<List.length code:=Int.ofNat_lt.1 hlt
  obtain⟨b0,b1⟩:=h1 _ (List.getElem_mem hi)
  rw[cond_true,inB_lt hi,cond_true,Option.bind_some]
  dsimp only
  rw[toNat_cast,getD_of hi]
  have e4:∀b:Int,0≤b→b≤255→IntKind.wrap .i64 b=b:=fun b _ _=>wrap64 (by omega) (by omega)
  rw[e4 _ b0 b1]
  exact fin _ b0 b1
theorem pick_ok {K n:Int}{c:Cur}(h:CurOk K c)(hK:K≤4611686018427387000)(hn:n≤1000000):∃(r:Int) (c':Cur),f_S_l1Cur_pick c n=some ((r,()),(c',()))∧0≤r∧(1≤n→r<n)∧(n≤1→r=0)∧CurOk (K+2) c':=by
 unfold f_S_l1Cur_pick
 by_cases h1:n≤1
 ·rw[decide_eq_true h1,cond_true]
  exact⟨0,c,rfl,Int.le_refl _,fun _=>by omega,fun _=>rfl,h.up (by omega)⟩
 ·rw[decide_eq_false h1,cond_false]
  obtain⟨r,c1,q1,q2,q3,q4⟩:=next_ok h (by omega)
  rw[q1,Option.bind_some]
  dsimp only
  have fin:∀(x:Int) (c2:Cur),0≤x→CurOk (K+2) c2→∃(r:Int) (c':Cur),(bif n==0 then none else some ((x.tmod n,()),(c2,())):Option (PVs [(.int .i64)]×PVs [Y_spec_l1Cur]))=some ((r,()),(c',()))∧0≤r∧(1≤n→r<n)∧(n≤1→r=0)∧CurOk (K+2) c':=by
   intro x c2 hx hc
   rw[show(n==0)=false from by rw[beq_eq_false_iff_ne];omega,cond_false]
   exact⟨_,_,rfl,Int.tmod_nonneg n hx,fun _=>Int.tmod_lt_of_pos x (by omega),fun q=>absurd q h1,hc⟩
  by_cases h2:n>200
  ·obtain⟨r2,c2,p1,p2,p3,p4⟩:=next_ok q4 (by omega)
   rw[decide_eq_true h2,cond_true,p1,Option.bind_some,Option.bind_some]
   dsimp only
   rw[wrap64 (x:=r*256) (by omega) (by omega),wrap64 (x:=r*256+r2) (by omega) (by omega)]
   exact fin _ _ (by omega) (p4.up (by omega))
  ·rw[decide_eq_false h2,cond_false,Option.bind_some]
   exact fin _ _ q2 (q4.up (by omega))
theorem one_ok {K n:Int}{c:Cur}(h:CurOk K c)(hK:K≤4611686018427387000)(hn:n≤1000000):∃(r:Bool) (c':Cur),f_S_l1Cur_one c n=some ((r,()),(c',()))∧CurOk (K+2) c':=by
 obtain⟨r,c1,q1,_,_,_,q4⟩:=pick_ok h hK hn
 unfold f_S_l1Cur_one
 rw[q1,Option.bind_some]
 exact⟨_,_,rfl,q4⟩
def wl:List (List UInt8):=[[97],[98],[99],[100],[],[46],[46,46],[111,110,101,32,116,119,111],[43,120],[45,121],[92,32,122],[64,64]]
theorem wl_sm:∀i<12,(wl.getD i []).length≤8:=by decide
def wl3:List (List UInt8):=[[97],[101,110,100],[46]]
theorem wl3_sm:∀i<3,1≤(wl3.getD i []).length∧(wl3.getD i []).length≤8:=by decide
theorem line_ok {K:Int}{c:Cur}(h:CurOk K c)(hK:K≤4611686018427387000):∃(s:List UInt8) (c':Cur),f_S_l1Cur_line c=some ((s,()),(c',()))∧s.length≤8∧CurOk (K+2) c':=by
 obtain⟨r,c1,q1,q2,q3,_,q4⟩:=pick_ok (n:=12) h hK (by omega)
 have e:f_S_l1Cur_line c=(f_S_l1Cur_pick c 12).bind fun r1=>bif inB r1.1.1 12 then some ((wl.getD r1.1.1.toNat [],()),(r1.2.1,())) else none:=rfl
 obtain⟨i,rfl⟩:∃i:Nat,r=(i:Int):=⟨r.toNat,(Int.toNat_of_nonneg q2).symm⟩
 have hi:i<12:=by have:=q3 (by omega);omega
 rw[e,q1,Option.bind_some]
 dsimp only
 rw[show inB (i:Int) 12=true from inB_lt hi,cond_true,toNat_cast]
 exact⟨_,_,rfl,wl_sm i hi,q4⟩
def SmL (l:TX):Prop:=∀s∈l,1≤s.length∧s.length≤9
theorem SmL.snoc {l:TX}{s:List UInt8}(h:SmL l)(h1:1≤s.length)(h2:s.length≤9):SmL (l++[s]):=by
 intro x hx
 rcases List.mem_append.1 hx with hx|hx
 ·exact h x hx
 ·obtain rfl:=List.mem_singleton.1 hx
  exact⟨h1,h2⟩
theorem SmL.sm {l:TX}(h:SmL l)(hl:l.length≤1000):Sm l:=⟨by omega,fun s hs=>by have:=h s hs;omega⟩
theorem text_loop:∀(n:Nat) {K:Int} {c:Cur} {l:TX},CurOk K c→K+2*(n:Int)≤4611686018427380000→n≤100→l.length+n≤500→SmL l→∃(c':Cur) (l':TX),w_S_l1Cur_text_3 (c,l,(n:Int),())=some (c',l',())∧l'.length=l.length+n∧SmL l'∧CurOk (K+2*n) c'
 |0,K,c,l,h,hK,hn,hl,hs=>by
  refine⟨c,l,fix_end (B:=fun d=>b_S_l1Cur_text_3 d.1 d.2.1 d.2.2.1) ?_,rfl,hs,h.up (by omega)⟩
  show b_S_l1Cur_text_3 c l 0=_
  unfold b_S_l1Cur_text_3
  rw[decide_eq_false (by omega:¬((0:Int)>0)),cond_false]
 |n+1,K,c,l,h,hK,hn,hl,hs=>by
  obtain⟨s,c1,q1,q2,q3⟩:=line_ok h (by omega)
  obtain⟨c',l',p1,p2,p3,p4⟩:=text_loop n (c:=c1) (l:=l++[s++[10]]) q3 (by omega) (by omega) (by simp;omega) (hs.snoc (by simp) (by simp;omega))
  refine⟨c',l',?_,by rw[p2];simp;omega,p3,p4.up (by omega)⟩
  rw[←p1]
  refine fix_go (B:=fun d=>b_S_l1Cur_text_3 d.1 d.2.1 d.2.2.1) ?_
  show b_S_l1Cur_text_3 c l ((n+1:Nat):Int)=_
  unfold b_S_l1Cur_text_3
  rw[decide_eq_true (by omega:((n+1:Nat):Int)>0),cond_true,q1,Option.bind_some]
  dsimp only
  rw[decide_eq_true (by rw[List.length_cons,List.length_nil];omega),cond_true,roomB_ok (by rw[List.length_cons,List.length_nil];omega),cond_true,show IntKind.wrap .i64 (((n+1:Nat):Int) -1)=(n:Int) from by rw[wrap64 (by omega) (by omega)];omega]
theorem text_ok {K:Int}{c:Cur}(h:CurOk K c)(hK:K≤4611686018427370000):∃(l:TX) (c':Cur),f_S_l1Cur_text c=some ((l,()),(c',()))∧l.length≤9∧SmL l∧CurOk (K+30) c':=by
 obtain⟨r,c1,q1,q2,q3,_,q4⟩:=pick_ok (n:=9) h (by omega) (by omega)
 obtain⟨n,rfl⟩:∃n:Nat,r=(n:Int):=⟨r.toNat,(Int.toNat_of_nonneg q2).symm⟩
 have hn:n<9:=by have:=q3 (by omega);omega
 obtain⟨c2,l,p1,p2,p3,p4⟩:=text_loop n (l:=[]) q4 (by omega) (by omega) (by simp;omega) (fun s hs=>by cases hs)
 obtain⟨b,c3,o1,o2⟩:=one_ok (n:=5) p4 (by omega) (by omega)
 have hl:l.length≤8:=by rw[p2];simp;omega
 unfold f_S_l1Cur_text
 rw[q1,Option.bind_some]
 dsimp only
 rw[p1,Option.bind_some]
 dsimp only
 rw[o1,Option.bind_some]
 dsimp only
 cases b
 ·rw[cond_false,Option.bind_some]
  exact⟨_,_,rfl,by show List.length l≤9;omega,p3,o2.up (by omega)⟩
 ·obtain⟨r4,c4,s1,s2,s3,_,s4⟩:=pick_ok (n:=3) o2 (by omega) (by omega)
  obtain⟨i,rfl⟩:∃i:Nat,r4=(i:Int):=⟨r4.toNat,(Int.toNat_of_nonneg s2).symm⟩
  have hi:i<3:=by have:=s3 (by omega);omega
  rw[cond_true,show([[97],[101,110,100],[46]].length:Int)=3 from rfl,s1,Option.bind_some]
  dsimp only
  rw[show inB (i:Int) [[97],[101,110,100],[46]].length=true from inB_lt hi,cond_true,roomB_ok (by rw[List.length_cons,List.length_nil];omega),cond_true,Option.bind_some,toNat_cast]
  have hw:=wl3_sm i hi
  exact⟨_,_,rfl,by rw[List.length_append,List.length_cons,List.length_nil];omega,p3.snoc hw.1 (by have:=hw.2;show List.length (wl3.getD i [])≤9;omega),s4.up (by omega)⟩
def SmX (x:PV Y_impl_Hunk):Prop:=List.length x.2.2.1≤200∧SmL x.2.2.1
theorem new_loop:∀(n:Nat) {K:Int} {c:Cur} {x:PV Y_impl_Hunk} (l:TX) (out:HK) (p len:Int) (bb:Bool),CurOk K c→K+2*(n:Int)≤4611686018427380000→n≤10→List.length x.2.2.1+n≤100→SmL x.2.2.1→
 ∃(c':Cur) (x':PV Y_impl_Hunk),w_S_l1Cur_hunks_6 (c,l,out,p,x,(n:Int),len,bb,())=some (c',l,out,p,x',len,bb,())∧x'.1=x.1∧x'.2.1=x.2.1∧List.length x'.2.2.1=List.length x.2.2.1+n∧SmL x'.2.2.1∧CurOk (K+2*n) c'
 |0,K,c,x,l,out,p,len,bb,h,hK,hn,hl,hs=>by
  refine⟨c,x,fix_end (B:=fun d=>b_S_l1Cur_hunks_6 d.1 d.2.1 d.2.2.1 d.2.2.2.1 d.2.2.2.2.1 d.2.2.2.2.2.1 d.2.2.2.2.2.2.1 d.2.2.2.2.2.2.2.1) ?_,rfl,rfl,rfl,hs,h.up (by omega)⟩
  show b_S_l1Cur_hunks_6 c l out p x 0 len bb=_
  unfold b_S_l1Cur_hunks_6
  rw[decide_eq_false (by omega:¬((0:Int)>0)),cond_false]
 |n+1,K,c,x,l,out,p,len,bb,h,hK,hn,hl,hs=>by
  obtain⟨s,c1,q1,q2,q3⟩:=line_ok h (by omega)
  obtain⟨c',x',p1,p2,p3,p4,p5,p6⟩:=new_loop n (c:=c1) (x:=(x.1,(x.2.1,((x.2.2.1++[s++[10]]),x.2.2.2)))) l out p len bb q3 (by omega) (by omega) (by show List.length (x.2.2.1++[s++[10]])+n≤100;rw[List.length_append,List.length_cons,List.length_nil];omega) (hs.snoc (by simp) (by simp;omega))
  refine⟨c',x',?_,p2,p3,by rw[p4];show List.length (x.2.2.1++[s++[10]])+n=_;rw[List.length_append,List.length_cons,List.length_nil];omega,p5,p6.up (by omega)⟩
  rw[←p1]
  refine fix_go (B:=fun d=>b_S_l1Cur_hunks_6 d.1 d.2.1 d.2.2.1 d.2.2.2.1 d.2.2.2.2.1 d.2.2.2.2.2.1 d.2.2.2.2.2.2.1 d.2.2.2.2.2.2.2.1) ?_
  show b_S_l1Cur_hunks_6 c l out p x ((n+1:Nat):Int) len bb=_
  unfold b_S_l1Cur_hunks_6
  rw[decide_eq_true (by omega:((n+1:Nat):Int)>0),cond_true,q1,Option.bind_some]
  dsimp only
  rw[decide_eq_true (by rw[List.length_cons,List.length_nil];omega),cond_true,roomB_ok (by rw[List.length_cons,List.length_nil];omega),cond_true,show IntKind.wrap .i64 (((n+1:Nat):Int) -1)=(n:Int) from by rw[wrap64 (by omega) (by omega)];omega]
theorem least_S (a b:Int):f_S_l1Least a b=some ((if a<b then a else b,()),()):=by
 unfold f_S_l1Least
 by_cases h:a<b
 ·rw[decide_eq_true h,if_pos h];rfl
 ·rw[decide_eq_false h,if_neg h];rfl
theorem whole_S {l:TX}(hl:l.length≤100)(hs:SmL l):∃b:Bool,f_S_l1Whole l=some ((b,()),()):=by
 unfold f_S_l1Whole
 by_cases h:l.length=0
 ·rw[show((l.length:Int)==0)=true from by rw[h];rfl]
  exact⟨_,rfl⟩
 ·have hi:l.length -1<l.length:=by omega
  obtain⟨h1,h2⟩:=hs _ (List.getElem_mem hi)
  rw[show((l.length:Int)==0)=false from by rw[beq_eq_false_iff_ne];omega,cond_false,show IntKind.wrap .i64 ((l.length:Int) -1)=((l.length -1:Nat):Int) from by rw[wrap64 (by omega) (by omega)];omega,inB_lt hi,cond_true,toNat_cast,getD_of hi,ends_S _ h1 (by omega),Option.bind_some]
  exact⟨_,rfl⟩
def SmHK (h:HK):Prop:=∀x∈h,SmX x
theorem hunks_loop {l:TX}(hl:l.length≤100)(hs:SmL l):∀(f:Nat) {K:Int} {c:Cur} {out:HK} {p:Int},CurOk K c→K+20*(f:Int)≤4611686018427300000→f≤200→(l.length:Int)+1 -p≤f→0≤p→p≤1000→out.length≤6→SmHK out→
 ∃(c':Cur) (h:HK),w_S_l1Cur_hunks_3 (c,l,out,p,())=some (c',h,())∧h.length≤6∧SmHK h∧CurOk (K+20*f) c':=by
 have stop:∀{K:Int} {c:Cur} {out:HK} {p:Int},¬(p≤(l.length:Int)∧(out.length:Int)<6)→w_S_l1Cur_hunks_3 (c,l,out,p,())=some (c,out,()):=by
  intro K c out p hp
  refine fix_end (B:=fun d=>b_S_l1Cur_hunks_3 d.1 d.2.1 d.2.2.1 d.2.2.2.1) ?_
  show b_S_l1Cur_hunks_3 c l out p=_
  unfold b_S_l1Cur_hunks_3
  by_cases h1:p≤(l.length:Int)
  ·rw[decide_eq_true h1,cond_true,decide_eq_false (fun q=>hp ⟨h1,q⟩),cond_false]
  ·rw[decide_eq_false h1,cond_false]
 intro f
 induction f with
 |zero=>
  intro K c out p h hK hf hm hp0 hp1 ho hso
  exact⟨c,out,stop (K:=K) (fun q=>by omega),ho,hso,h.up (by omega)⟩
 |succ f ih=>
  intro K c out p h hK hf hm hp0 hp1 ho hso
  by_cases hg:p≤(l.length:Int)∧(out.length:Int)<6
  ·obtain⟨g1,g2⟩:=hg
   generalize hL:(if (3:Int)<(l.length:Int) -p then(3:Int) else(l.length:Int) -p)=m
   have hm0:0≤m∧m≤3:=by rw[←hL];split<;>omega
   obtain⟨r1,c1,a1,a2,a3,a4,a5⟩:=pick_ok (n:=m+1) h (by omega) (by omega)
   have a3:=a3 (by omega)
   obtain⟨r2,c2,b1,b2,b3,b4,b5⟩:=pick_ok (n:=3) a5 (by omega) (by omega)
   have b3:=b3 (by omega)
   obtain⟨n,rfl⟩:∃n:Nat,r2=(n:Int):=⟨r2.toNat,(Int.toNat_of_nonneg b2).symm⟩
   obtain⟨c3,x,d1,d2,d3,d4,d5,d6⟩:=new_loop n (x:=(p,(r1,(([]:PV S_string),())))) l out p (out.length:Int) (decide ((out.length:Int)<6)) b5 (by omega) (by omega) (by show 0+n≤100;omega) (fun s hs=>by cases hs)
   have d4:List.length x.2.2.1=n:=by rw[d4];show 0+n=n;omega
   obtain⟨r3,c4,e1,e2,e3,e4,e5⟩:=pick_ok (n:=3) d6 (by omega) (by omega)
   have e3:=e3 (by omega)
   obtain⟨wb,hw⟩:=whole_S hl hs
   have hx:SmX x:=⟨by omega,d5⟩
   have key:∃out2:HK,out2.length≤6∧SmHK out2∧w_S_l1Cur_hunks_3 (c,l,out,p,())=w_S_l1Cur_hunks_3 (c4,l,out2,p+(r1+1+r3),()):=by
    have hgo:∀{s t},b_S_l1Cur_hunks_3 s.1 s.2.1 s.2.2.1 s.2.2.2.1=some (.inl t)→w_S_l1Cur_hunks_3 s=w_S_l1Cur_hunks_3 t:=fun hh=>fix_go (B:=fun d=>b_S_l1Cur_hunks_3 d.1 d.2.1 d.2.2.1 d.2.2.2.1) hh
    have hbody:∃bb:Bool,b_S_l1Cur_hunks_3 c l out p=some (.inl (c4,l,(if bb then out++[x] else out),p+(r1+1+r3),())):=by
     unfold b_S_l1Cur_hunks_3
     rw[decide_eq_true g1,cond_true,decide_eq_true g2,cond_true,wrap64 (x:=(l.length:Int) -p) (by omega) (by omega),least_S,Option.bind_some]
     dsimp only
     rw[hL,wrap64 (x:=m+1) (by omega) (by omega),a1,Option.bind_some]
     dsimp only
     rw[b1,Option.bind_some]
     dsimp only
     rw[decide_eq_true g2] at d1
     rw[d1,Option.bind_some]
     dsimp only
     rw[d3,hw,Option.bind_some]
     dsimp only
     have w1:IntKind.wrap .i64 (p+IntKind.wrap .i64 (IntKind.wrap .i64 (r1+1)+r3))=p+(r1+1+r3):=by
      rw[wrap64 (x:=r1+1) (by omega) (by omega),wrap64 (x:=r1+1+r3) (by omega) (by omega),wrap64 (by omega) (by omega)]
     have hroom:roomB (out.length+[x].length)=true:=roomB_ok (by rw[List.length_cons,List.length_nil];omega)
     cases decide (IntKind.wrap .i64 (r1+(List.length x.2.2.1:Int))>0)
     ·refine⟨false,?_⟩
      rw[cond_false,Option.bind_some]
      dsimp only
      rw[cond_false,Option.bind_some]
      dsimp only
      rw[e1,Option.bind_some]
      dsimp only
      rw[d3,w1]
      rfl
     ·rw[cond_true]
      have tail:∀q:Bool,∃bb:Bool,((((some (c3,l,out,p,x,(out.length:Int),true,q,()):Option (PV Y_spec_l1Cur×PV S_string×PV S_impl_Hunk×PV (.int .i64)×PV Y_impl_Hunk×PV (.int .i64)×PV .bool×PV .bool×Unit)).bind fun j33=>
       bif j33.2.2.2.2.2.2.2.1 then
        bif roomB (j33.2.2.1.length+[j33.2.2.2.2.1].length) then
         some (j33.1,j33.2.1,(j33.2.2.1++[j33.2.2.2.2.1]),j33.2.2.2.1,j33.2.2.2.2.1,j33.2.2.2.2.2.1,j33.2.2.2.2.2.2.1,())
        else
         none
       else
        some (j33.1,j33.2.1,j33.2.2.1,j33.2.2.2.1,j33.2.2.2.2.1,j33.2.2.2.2.2.1,j33.2.2.2.2.2.2.1,()):Option ((PV Y_spec_l1Cur×PV S_string×PV S_impl_Hunk×PV (.int .i64)×PV Y_impl_Hunk×PV (.int .i64)×PV .bool×Unit))).bind fun j34=>
       (f_S_l1Cur_pick j34.1 3).bind fun r35=>
         some (.inl (r35.2.1,j34.2.1,j34.2.2.1,(IntKind.wrap .i64 (j34.2.2.2.1+(IntKind.wrap .i64 ((IntKind.wrap .i64 (j34.2.2.2.2.1.2.1+1))+r35.1.1)))),()))):Option ((PV Y_spec_l1Cur×PV S_string×PV S_impl_Hunk×PV (.int .i64)×Unit)⊕((PV Y_spec_l1Cur×PV S_impl_Hunk×Unit))))=some (.inl (c4,l,(if bb then out++[x] else out),p+(r1+1+r3),())):=by
       intro q
       refine⟨q,?_⟩
       rw[Option.bind_some]
       dsimp only
       cases q
       ·rw[cond_false,Option.bind_some]
        dsimp only
        rw[e1,Option.bind_some]
        dsimp only
        rw[d3,w1]
        rfl
       ·rw[cond_true,hroom,cond_true,Option.bind_some]
        dsimp only
        rw[e1,Option.bind_some]
        dsimp only
        rw[d3,w1]
        rfl
      cases decide (IntKind.wrap .i64 (p+r1)<(l.length:Int))
      ·rw[cond_false]
       cases wb
       ·exact tail _
       ·exact tail true
      ·exact tail true
    obtain⟨bb,hbody⟩:=hbody
    refine⟨if bb then out++[x] else out,?_,?_,hgo (s:=(c,l,out,p,())) hbody⟩
    ·cases bb
     ·exact ho
     ·rw[if_pos rfl,List.length_append,List.length_cons,List.length_nil];omega
    ·cases bb
     ·exact hso
     ·intro y hy
      rw[if_pos rfl] at hy
      rcases List.mem_append.1 hy with hy|hy
      ·exact hso y hy
      ·obtain rfl:=List.mem_singleton.1 hy
       exact hx
   obtain⟨out2,k1,k2,k3⟩:=key
   obtain⟨c',h',i1,i2,i3,i4⟩:=ih (out:=out2) (p:=p+(r1+1+r3)) e5 (by omega) (by omega) (by omega) (by omega) (by omega) k1 k2
   exact⟨c',h',k3.trans i1,i2,i3,i4.up (by omega)⟩
  ·exact⟨c,out,stop (K:=K) hg,ho,hso,h.up (by omega)⟩
theorem hunks_ok {l:TX}(hl:l.length≤100)(hs:SmL l){K:Int}{c:Cur}(h:CurOk K c)(hK:K≤4611686018427200000):∃(hh:HK) (c':Cur),f_S_l1Cur_hunks c l=some ((hh,()),(c',()))∧hh.length≤6∧SmHK hh∧CurOk (K+5000) c':=by
 obtain⟨r,c1,q1,q2,q3,_,q4⟩:=pick_ok (n:=3) h (by omega) (by omega)
 have q3:=q3 (by omega)
 obtain⟨c2,hh,p1,p2,p3,p4⟩:=hunks_loop hl hs 150 (out:=[]) (p:=r) q4 (by omega) (by omega) (by omega) q2 (by omega) (by simp) (fun x hx=>by cases hx)
 unfold f_S_l1Cur_hunks
 rw[q1,Option.bind_some]
 dsimp only
 rw[p1,Option.bind_some]
 exact⟨_,_,rfl,p2,p3,p4.up (by omega)⟩
theorem SmHK.sm {h:HK}(hl:h.length≤1000)(hs:SmHK h):SmH h:=⟨by omega,fun x hx=>(hs x hx).2.sm (by have:=(hs x hx).1;omega)⟩
end R
end

section
/- Drawn texts are spoilt: what comes is a text. -/
open Go Go.Dn
namespace R
set_option linter.unusedVariables false
theorem cutS_len {α:Type}{l:List α}{a b:Int}:(cutL a b l).length≤l.length:=by
 unfold cutL
 rw[List.length_drop,List.length_take]
 omega
theorem cutS_ok {a b:Int}{n:Nat}(h0:0≤a)(h1:a≤b)(h2:b≤(n:Int)):cutB a b n=true:=by
 unfold cutB
 simp
 omega
theorem spoilt_loop {ws:List UInt8}(hw0:0<ws.length)(hw1:ws.length≤1000):∀(n:Nat) {K:Int} {c:Cur} (s:List UInt8),CurOk K c→K+6*(n:Int)≤4611686018427380000→s.length+n≤900000→
 ∃(c':Cur) (s':List UInt8),w_S_l1Cur_spoilt_2 (c,s,ws,(n:Int),())=some (c',s',())∧CurOk (K+6*n) c'
 |0,K,c,s,h,hK,hs=>by
  refine⟨c,s,fix_end (B:=fun d=>b_S_l1Cur_spoilt_2 d.1 d.2.1 d.2.2.1 d.2.2.2.1) ?_,h.up (by omega)⟩
  show b_S_l1Cur_spoilt_2 c s ws 0=_
  unfold b_S_l1Cur_spoilt_2
  rw[decide_eq_false (by omega:¬((0:Int)>0)),cond_false]
 |n+1,K,c,s,h,hK,hs=>by
  by_cases h0:(s.length:Int)>0
  ·obtain⟨r1,c1,a1,a2,a3,_,a5⟩:=pick_ok (n:=(s.length:Int)) h (by omega) (by omega)
   have a3:=a3 (by omega)
   obtain⟨i,rfl⟩:∃i:Nat,r1=(i:Int):=⟨r1.toNat,(Int.toNat_of_nonneg a2).symm⟩
   obtain⟨r2,c2,b1,b2,b3,_,b5⟩:=pick_ok (n:=(ws.length:Int)) a5 (by omega) (by omega)
   have b3:=b3 (by omega)
   obtain⟨j,rfl⟩:∃j:Nat,r2=(j:Int):=⟨r2.toNat,(Int.toNat_of_nonneg b2).symm⟩
   obtain⟨r3,c3,d1,d2,d3,_,d5⟩:=pick_ok (n:=3) b5 (by omega) (by omega)
   have hs':∃s':List UInt8,b_S_l1Cur_spoilt_2 c s ws ((n+1:Nat):Int)=some (.inl (c3,s',ws,(n:Int),()))∧s'.length≤s.length+1:=by
    unfold b_S_l1Cur_spoilt_2
    rw[decide_eq_true (by omega:((n+1:Nat):Int)>0),cond_true,decide_eq_true h0,cond_true,a1,Option.bind_some]
    dsimp only
    rw[b1,Option.bind_some]
    dsimp only
    rw[inB_lt (by omega),cond_true,d1,Option.bind_some]
    dsimp only
    have w1:IntKind.wrap .i64 ((i:Int)+1)=((i+1:Nat):Int):=by rw[wrap64 (by omega) (by omega)];omega
    have w2:IntKind.wrap .i64 (((n+1:Nat):Int) -1)=(n:Int):=by rw[wrap64 (by omega) (by omega)];omega
    have k1:cutB 0 (i:Int) s.length=true:=cutS_ok (by omega) (by omega) (by omega)
    have k2:cutB (i:Int) (s.length:Int) s.length=true:=cutS_ok (by omega) (by omega) (by omega)
    have k3:cutB ((i+1:Nat):Int) (s.length:Int) s.length=true:=cutS_ok (by omega) (by omega) (by omega)
    have l1:(cutL 0 (i:Int) s).length≤s.length:=cutS_len
    have l2:(cutL (i:Int) (s.length:Int) s).length≤s.length:=cutS_len
    have l3:(cutL ((i+1:Nat):Int) (s.length:Int) s).length≤s.length:=cutS_len
    have e1:(cutL 0 (i:Int) s).length+(cutL (i:Int) (s.length:Int) s).length=s.length:=by
     unfold cutL
     rw[List.length_drop,List.length_take,List.length_drop,List.length_take]
     omega
    have e2:(cutL 0 (i:Int) s).length+(cutL ((i+1:Nat):Int) (s.length:Int) s).length+1=s.length:=by
     unfold cutL
     rw[List.length_drop,List.length_take,List.length_drop,List.length_take]
     omega
    have lb:∀x:Int,(bytesOfInts [x]).length=1:=fun x=>rfl
    rw[k1,k2,w1,k3]
    simp only[cond_true]
    cases(r3==0)
    ·simp only[cond_false]
     cases(r3==1)
     ·simp only[cond_false]
      rw[decide_eq_true (by omega),cond_true,Option.bind_some]
      dsimp only
      rw[w2]
      exact⟨_,rfl,by rw[List.length_append];omega⟩
     ·simp only[cond_true]
      rw[decide_eq_true (by rw[lb];omega),cond_true,decide_eq_true (by rw[List.length_append,lb];omega),cond_true,Option.bind_some]
      dsimp only
      rw[w2]
      exact⟨_,rfl,by rw[List.length_append,List.length_append,lb];omega⟩
    ·simp only[cond_true]
     rw[decide_eq_true (by rw[lb];omega),cond_true,decide_eq_true (by rw[List.length_append,lb];omega),cond_true,Option.bind_some]
     dsimp only
     rw[w2]
     exact⟨_,rfl,by rw[List.length_append,List.length_append,lb];omega⟩
   obtain⟨s',e1,e2⟩:=hs'
   obtain⟨c',s2,p1,p2⟩:=spoilt_loop hw0 hw1 n s' d5 (by omega) (by omega)
   exact⟨c',s2,Eq.trans (fix_go (B:=fun d=>b_S_l1Cur_spoilt_2 d.1 d.2.1 d.2.2.1 d.2.2.2.1) e1) p1,p2.up (by omega)⟩
  ·refine⟨c,s,fix_end (B:=fun d=>b_S_l1Cur_spoilt_2 d.1 d.2.1 d.2.2.1 d.2.2.2.1) ?_,h.up (by omega)⟩
   show b_S_l1Cur_spoilt_2 c s ws ((n+1:Nat):Int)=_
   unfold b_S_l1Cur_spoilt_2
   rw[decide_eq_true (by omega:((n+1:Nat):Int)>0),cond_true,decide_eq_false h0,cond_false]
theorem spoilt_ok {ws:List UInt8}(hw0:0<ws.length)(hw1:ws.length≤1000){K:Int}{c:Cur}(s:List UInt8)(h:CurOk K c)(hK:K≤4611686018427370000)(hs:s.length≤800000):
 ∃(s':List UInt8) (c':Cur),f_S_l1Cur_spoilt c s ws=some ((s',()),(c',())):=by
 obtain⟨r,c1,q1,q2,q3,_,q4⟩:=pick_ok (n:=2) h (by omega) (by omega)
 have q3:=q3 (by omega)
 obtain⟨n,rfl⟩:∃n:Nat,r=(n:Int):=⟨r.toNat,(Int.toNat_of_nonneg q2).symm⟩
 obtain⟨c2,s2,p1,p2⟩:=spoilt_loop hw0 hw1 (n+1) s q4 (by omega) (by omega)
 unfold f_S_l1Cur_spoilt
 rw[q1,Option.bind_some]
 dsimp only
 rw[show IntKind.wrap .i64 (1+(n:Int))=((n+1:Nat):Int) from by rw[wrap64 (by omega) (by omega)];omega,p1]
 exact⟨_,_,rfl⟩
theorem start_ok {t:PV S_uint8}(hw:WfV S_uint8 t):CurOk 0 ((t,(0,(0,()))):Cur):=⟨fun x hx=>by have:=hw.2 x hx;exact this,Int.le_refl _,Int.le_refl _⟩
theorem big_L {t0 t1:PV S_uint8}:∃b:Bool,f_L_big t0 t1=some ((b,()),()):=by
 unfold f_L_big
 cases decide ((List.length t0:Int)>1048576)
 ·exact⟨_,rfl⟩
 ·exact⟨_,rfl⟩
end R
end

section
/- Drawn orders: what is made of drawn hunks is small. -/
open Go Go.Dn
namespace R
set_option linter.unusedVariables false
abbrev OW:=V.OW
abbrev OR:=List (PV Y_impl_Order)
theorem fix_steps {h:HK}{out:OR}{k:Int}{x:PV Y_impl_Hunk}{L:TX}(hL:L.length≤1000)(hs:∀s∈L,s.length≤3000):∀(f i:Nat) (y:PV Y_impl_Order) (fx:OR),i+f=L.length→List.length y.2.2.2.1=i→(∀s∈(y.2.2.2.1:TX),s.length≤3000)→fx.length≤i→(∀x∈fx,OW x)→
 ∃(y':PV Y_impl_Order) (fx':OR),w_S_l9Orders_13 (h,out,k,x,y,fx,L,(L.length:Int),(i:Int),())=some (h,out,k,y',fx',())∧OW y'∧fx'.length≤L.length∧∀x∈fx',OW x
 |0,i,y,fx,hi,h1,h2,h3,h4=>by
  refine⟨y,fx,fix_end (B:=fun d=>b_S_l9Orders_13 d.1 d.2.1 d.2.2.1 d.2.2.2.1 d.2.2.2.2.1 d.2.2.2.2.2.1 d.2.2.2.2.2.2.1 d.2.2.2.2.2.2.2.1 d.2.2.2.2.2.2.2.2.1) ?_,⟨by omega,h2⟩,by omega,h4⟩
  show b_S_l9Orders_13 h out k x y fx L L.length i=_
  unfold b_S_l9Orders_13
  rw[decide_eq_false (by omega:¬(i:Int)<(L.length:Int)),cond_false]
 |f+1,i,y,fx,hi,h1,h2,h3,h4=>by
  have hlt:i<L.length:=by omega
  have hx:=hs _ (List.getElem_mem hlt)
  have step:∃(y2:PV Y_impl_Order) (fx2:OR),b_S_l9Orders_13 h out k x y fx L L.length i=some (.inl (h,out,k,x,y2,fx2,L,(L.length:Int),((i+1:Nat):Int),()))∧List.length y2.2.2.2.1=i+1∧(∀s∈(y2.2.2.2.1:TX),s.length≤3000)∧fx2.length≤i+1∧∀x∈fx2,OW x:=by
   unfold b_S_l9Orders_13
   rw[decide_eq_true (by omega:(i:Int)<(L.length:Int)),cond_true,inB_lt hlt,cond_true,toNat_cast,getD_of hlt]
   cases hd:L[i]==[46,10]
   ·rw[cond_false,Option.bind_some]
    dsimp only
    rw[roomB_ok (by simp only[List.length_cons,List.length_nil];omega),cond_true,wrap64 (by omega) (by omega)]
    refine⟨_,_,rfl,by simp[h1],fun s hs'=> ?_,by omega,h4⟩
    rcases List.mem_append.1 hs' with q|q
    ·exact h2 s q
    ·obtain rfl:=List.mem_singleton.1 q
     exact hx
   ·rw[cond_true,roomB_ok (by simp only[List.length_cons,List.length_nil];omega),cond_true,Option.bind_some]
    dsimp only
    rw[roomB_ok (by simp only[List.length_cons,List.length_nil];omega),cond_true,wrap64 (x:=(i:Int)+1) (by omega) (by omega)]
    refine⟨_,_,rfl,by simp[h1],fun s hs'=> ?_,by simp;omega,fun z hz=> ?_⟩
    ·rcases List.mem_append.1 hs' with q|q
     ·exact h2 s q
     ·obtain rfl:=List.mem_singleton.1 q
      decide
    ·rcases List.mem_append.1 hz with q|q
     ·exact h4 z q
     ·obtain rfl:=List.mem_singleton.1 q
      exact⟨Nat.zero_le _,fun s hs=>by cases hs⟩
  obtain⟨y2,fx2,e,g1,g2,g3,g4⟩:=step
  obtain⟨y',fx',e2,r⟩:=fix_steps hL hs f (i+1) y2 fx2 (by omega) g1 g2 g3 g4
  exact⟨y',fx',Eq.trans (fix_go (B:=fun d=>b_S_l9Orders_13 d.1 d.2.1 d.2.2.1 d.2.2.2.1 d.2.2.2.2.1 d.2.2.2.2.2.1 d.2.2.2.2.2.2.1 d.2.2.2.2.2.2.2.1 d.2.2.2.2.2.2.2.2.1) (s:=(h,out,k,x,y,fx,L,(L.length:Int),(i:Int),())) e) e2,r⟩
end R
end

section
/- Drawn orders: the orders that are made of drawn hunks. -/
open Go Go.Dn
namespace R
set_option linter.unusedVariables false
theorem l9_steps {h:HK}(hl:h.length≤6)(hs:SmHK h):∀(n:Nat) (out:OR),n≤h.length→out.length+201*n≤2000→(∀x∈out,OW x)→
 ∃out':OR,w_S_l9Orders_3 (h,out,(n:Int) -1,())=some (out',())∧out'.length≤out.length+201*n∧∀x∈out',OW x
 |0,out,_,_,h4=>by
  refine⟨out,fix_end (B:=fun d=>b_S_l9Orders_3 d.1 d.2.1 d.2.2.1) ?_,by omega,h4⟩
  show b_S_l9Orders_3 h out (((0:Nat):Int) -1)=_
  unfold b_S_l9Orders_3
  rw[show decide ((((0:Nat):Int) -1)≥0)=false from rfl,cond_false]
 |n+1,out,hn,hb,h4=>by
  have hlt:n<h.length:=by omega
  obtain⟨hx1,hx2⟩:=hs _ (List.getElem_mem hlt)
  have hsm:∀s∈(h[n].2.2.1:TX),s.length≤3000:=fun s hs'=>by have:=hx2 s hs';omega
  have e1:((n+1:Nat):Int) -1=(n:Int):=by omega
  have inner:∀y0:PV Y_impl_Order,y0.2.2.2.1=([]:TX)→∃(y':PV Y_impl_Order) (fx':OR),w_S_l9Orders_13 (h,out,(n:Int),h[n],y0,[],h[n].2.2.1,(List.length h[n].2.2.1:Int),0,())=some (h,out,(n:Int),y',fx',())∧OW y'∧fx'.length≤List.length h[n].2.2.1∧∀x∈fx',OW x:=
   fun y0 hy=>fix_steps (by omega) hsm (List.length h[n].2.2.1) 0 y0 [] (by omega) (by rw[hy];rfl) (fun s hs'=>by rw[hy] at hs';cases hs') (Nat.zero_le _) (fun x hx=>by cases hx)
  have step:∃out2:OR,b_S_l9Orders_3 h out (n:Int)=some (.inl (h,out2,(n:Int) -1,()))∧out2.length≤out.length+201∧∀x∈out2,OW x:=by
   unfold b_S_l9Orders_3
   rw[decide_eq_true (by omega:(n:Int)≥0),cond_true,inB_lt hlt,cond_true,toNat_cast,getD_of hlt]
   have fin:∀y0:PV Y_impl_Order,y0.2.2.2.1=([]:TX)→∃out2:OR,((w_S_l9Orders_13 (h,out,(n:Int),h[n],y0,[],h[n].2.2.1,(List.length h[n].2.2.1:Int),0,())).bind fun l6=>
    bif roomB (l6.2.1.length+[l6.2.2.2.1].length) then
     bif roomB ((l6.2.1++[l6.2.2.2.1]).length+l6.2.2.2.2.1.length) then
      some (.inl (l6.1,((l6.2.1++[l6.2.2.2.1])++l6.2.2.2.2.1),(IntKind.wrap .i64 (l6.2.2.1 -1)),()))
     else
      none
    else
     none:Option ((PV S_impl_Hunk×PV S_impl_Order×PV (.int .i64)×Unit)⊕((PV S_impl_Order×Unit))))=some (.inl (h,out2,(n:Int) -1,()))∧out2.length≤out.length+201∧∀x∈out2,OW x:=by
    intro y0 hy
    obtain⟨y',fx',e,g1,g2,g3⟩:=inner y0 hy
    rw[e,Option.bind_some]
    dsimp only
    rw[roomB_ok (by simp only[List.length_cons,List.length_nil];omega),cond_true,roomB_ok (by simp only[List.length_append,List.length_cons,List.length_nil];omega),cond_true,wrap64 (by omega) (by omega)]
    refine⟨_,rfl,by simp only[List.length_append,List.length_cons,List.length_nil];omega,fun z hz=> ?_⟩
    rcases List.mem_append.1 hz with q|q
    ·rcases List.mem_append.1 q with q|q
     ·exact h4 z q
     ·obtain rfl:=List.mem_singleton.1 q
      exact g1
    ·exact g3 z q
   cases(h[n].2.1==0)
   ·rw[cond_false]
    cases((List.length h[n].2.2.1:Int)==0)
    ·rw[cond_false,Option.bind_some]
     exact fin _ rfl
    ·rw[cond_true,Option.bind_some]
     exact fin _ rfl
   ·rw[cond_true,Option.bind_some]
    exact fin _ rfl
  obtain⟨out2,e,g1,g2⟩:=step
  obtain⟨out',e2,g3,g4⟩:=l9_steps hl hs n out2 (by omega) (by omega) g2
  rw[e1]
  exact⟨out',Eq.trans (fix_go (B:=fun d=>b_S_l9Orders_3 d.1 d.2.1 d.2.2.1) (s:=(h,out,(n:Int),())) e) e2,by omega,g4⟩
theorem l9Orders_ok {h:HK}(hl:h.length≤6)(hs:SmHK h):∃out:OR,f_S_l9Orders h=some ((out,()),())∧out.length≤1300∧∀x∈out,OW x:=by
 obtain⟨out,e,g1,g2⟩:=l9_steps hl hs h.length [] (Nat.le_refl _) (by simp;omega) (fun x hx=>by cases hx)
 unfold f_S_l9Orders
 rw[wrap64 (by omega) (by omega),e]
 exact⟨out,rfl,by simp at g1;omega,g2⟩
theorem whole_G {l:TX}(h:goodP l=true):∃b:Bool,f_S_l1Whole l=some ((b,()),()):=by
 have hlen:=goodP_len h
 have hline:∀s∈l,lineP s=true:=fun s hs=>by
  unfold goodP linesP at h
  simp only[Bool.and_eq_true,Bool.not_eq_true'] at h
  have:=List.any_eq_false.1 h.1.2 s hs
  simpa using this
 unfold f_S_l1Whole
 by_cases h0:l.length=0
 ·rw[show((l.length:Int)==0)=true from by rw[h0];rfl]
  exact⟨_,rfl⟩
 ·have hi:l.length -1<l.length:=by omega
  obtain⟨h1,h2⟩:=line_len (hline _ (List.getElem_mem hi))
  rw[show((l.length:Int)==0)=false from by rw[beq_eq_false_iff_ne];omega,cond_false,show IntKind.wrap .i64 ((l.length:Int) -1)=((l.length -1:Nat):Int) from by rw[wrap64 (by omega) (by omega)];omega,inB_lt hi,cond_true,toNat_cast,getD_of hi,ends_S _ h1 (by omega),Option.bind_some]
  exact⟨_,rfl⟩
theorem edOrders_ok {l:TX}{h:HK}(hl:l.length≤100)(hs:SmL l)(hh:h.length≤6)(hk:SmHK h):∃(out:OR) (b:Bool),f_S_EdOrders l h=some ((out,b,()),())∧out.length≤1300∧∀x∈out,OW x:=by
 have hSm:Sm l:=hs.sm (by omega)
 have hSh:SmH h:=hk.sm (by omega)
 have hw:∃b:Bool,f_S_l9Whole l h=some ((b,()),()):=by
  unfold f_S_l9Whole
  rw[patch_S hSm hSh,Option.bind_some]
  dsimp only
  cases hp:patchOk l h
  ·exact⟨_,rfl⟩
  ·rw[cond_true]
   obtain⟨b1,e1⟩:=whole_S hl hs
   rw[e1,Option.bind_some]
   dsimp only
   cases b1
   ·exact⟨_,rfl⟩
   ·have hp':=hp
    unfold patchOk at hp'
    simp only[Bool.and_eq_true] at hp'
    obtain⟨b2,e2⟩:=whole_G hp'.2.2
    rw[cond_true]
    unfold patchR
    rw[hp,cond_true,e2]
    exact⟨_,rfl⟩
 obtain⟨b,e⟩:=hw
 unfold f_S_EdOrders
 rw[e,Option.bind_some]
 dsimp only
 cases b
 ·exact⟨[],false,rfl,Nat.zero_le _,fun x hx=>by cases hx⟩
 ·rw[Bool.not_true,cond_false]
  obtain⟨out,e2,g1,g2⟩:=l9Orders_ok hh hk
  rw[e2]
  exact⟨out,true,rfl,g1,g2⟩
end R
end

section
/- Drawn orders are small. -/
open Go Go.Dn
namespace R
set_option linter.unusedVariables false
theorem ow0 (k n m:Int):OW (k,(n,(m,(([]:TX),())))):=⟨Nat.zero_le _,fun s hs=>by cases hs⟩
theorem ow1 (k n m:Int){s:List UInt8}(h:s.length≤3000):OW (k,(n,(m,(([s]:TX),())))):=⟨by show 1≤3000;omega,fun t ht=>by obtain rfl:=List.mem_singleton.1 ht;exact h⟩
theorem w3:∀i<3,(([[120,10],[46,46,10],[121,32,122,10]]:TX).getD i []).length≤3000:=by decide
theorem draw_steps (l:TX):∀(n:Nat) {K:Int} {c:Cur} (out:OR),CurOk K c→K+10*(n:Int)≤4611686018427300000→n≤10→out.length+n≤100→(∀x∈out,OW x)→
 ∃(c':Cur) (out':OR),w_S_l1Cur_orders_6 (c,l,out,(n:Int),())=some (c',l,out',())∧CurOk (K+10*n) c'∧out'.length≤out.length+n∧∀x∈out',OW x
 |0,K,c,out,h,_,_,_,h4=>by
  refine⟨c,out,fix_end (B:=fun d=>b_S_l1Cur_orders_6 d.1 d.2.1 d.2.2.1 d.2.2.2.1) ?_,h.up (by omega),by omega,h4⟩
  show b_S_l1Cur_orders_6 c l out 0=_
  unfold b_S_l1Cur_orders_6
  rfl
 |n+1,K,c,out,h,hK,hn,hb,h4=>by
  obtain⟨r1,c1,p1,_,_,_,q1⟩:=pick_ok (n:=6) h (by omega) (by omega)
  obtain⟨r2,c2,p2,a2,b2,_,q2⟩:=pick_ok (n:=5) q1 (by omega) (by omega)
  have b2:=b2 (by omega)
  have step:∃(c':Cur) (x:PV Y_impl_Order),b_S_l1Cur_orders_6 c l out ((n+1:Nat):Int)=some (.inl (c',l,out++[x],(n:Int),()))∧CurOk (K+10) c'∧OW x:=by
   unfold b_S_l1Cur_orders_6
   rw[decide_eq_true (by omega:((n+1:Nat):Int)>0),cond_true,p1,Option.bind_some]
   dsimp only
   rw[p2,Option.bind_some]
   dsimp only
   rw[wrap64 (x:=1+r2) (by omega) (by omega)]
   have hr:∀x:PV Y_impl_Order,roomB (out.length+[x].length)=true:=fun x=>roomB_ok (by simp only[List.length_cons,List.length_nil];omega)
   have hw:IntKind.wrap .i64 (((n+1:Nat):Int) -1)=(n:Int):=by rw[wrap64 (by omega) (by omega)];omega
   have last:∀(c3:Cur) (k a b:Int),CurOk (K+6) c3→∃(c':Cur) (x:PV Y_impl_Order),(((
    bif (decide (k≤3)) then
     (f_S_l1Cur_pick c3 (([[120,10],[46,46,10],[121,32,122,10]]:TX).length:Int)).bind fun r27=>
       bif inB r27.1.1 ([[120,10],[46,46,10],[121,32,122,10]]:TX).length then
        some (r27.2.1,l,out,((n+1:Nat):Int),(k,(a,(b,([(([[120,10],[46,46,10],[121,32,122,10]]:TX).getD r27.1.1.toNat [])],())))),())
       else
        none
    else
     some (c3,l,out,((n+1:Nat):Int),(k,(a,(b,([],())))),()):Option ((PV Y_spec_l1Cur×PV S_string×PV S_impl_Order×PV (.int .i64)×PV Y_impl_Order×Unit)))).bind fun j28=>
    bif roomB (j28.2.2.1.length+[j28.2.2.2.2.1].length) then
     some (.inl (j28.1,j28.2.1,(j28.2.2.1++[j28.2.2.2.2.1]),(IntKind.wrap .i64 (j28.2.2.2.1 -1)),()))
    else
     none:Option ((PV Y_spec_l1Cur×PV S_string×PV S_impl_Order×PV (.int .i64)×Unit)⊕((PV Y_spec_l1Cur×PV S_string×PV S_impl_Order×Unit))))=some (.inl (c',l,out++[x],(n:Int),()))∧CurOk (K+10) c'∧OW x:=by
    intro c3 k a b h3
    by_cases hk:k≤3
    ·obtain⟨r4,c4,p4,a4,b4,_,q4⟩:=pick_ok (n:=3) h3 (by omega) (by omega)
     have b4:=b4 (by omega)
     obtain⟨i,rfl⟩:∃i:Nat,r4=(i:Int):=⟨r4.toNat,(Int.toNat_of_nonneg a4).symm⟩
     rw[decide_eq_true hk,cond_true,show((([[120,10],[46,46,10],[121,32,122,10]]:TX).length:Nat):Int)=3 from rfl,p4,Option.bind_some]
     dsimp only
     rw[show inB (i:Int) ([[120,10],[46,46,10],[121,32,122,10]]:TX).length=true from inB_lt (by show i<3;omega),cond_true,Option.bind_some]
     dsimp only
     rw[hr,cond_true,hw,toNat_cast]
     exact⟨_,_,rfl,q4.up (by omega),ow1 _ _ _ (w3 i (by omega))⟩
    ·rw[decide_eq_false hk,cond_false,Option.bind_some]
     dsimp only
     rw[hr,cond_true,hw]
     exact⟨_,_,rfl,h3.up (by omega),ow0 _ _ _⟩
   cases hk3:(1+r2==3)
   ·rw[cond_false,Option.bind_some]
    dsimp only
    cases hk4:(1+r2==4)
    ·rw[cond_false,Option.bind_some]
     exact last c2 _ _ _ (q2.up (by omega))
    ·obtain⟨r3,c3,p3,_,_,_,q3⟩:=pick_ok (n:=3) q2 (by omega) (by omega)
     rw[cond_true,p3,Option.bind_some,Option.bind_some]
     exact last c3 _ _ _ (q3.up (by omega))
   ·obtain⟨r3,c3,p3,_,_,_,q3⟩:=pick_ok (n:=3) q2 (by omega) (by omega)
    rw[cond_true,Option.bind_some]
    dsimp only
    rw[cond_true,p3,Option.bind_some,Option.bind_some]
    exact last c3 _ _ _ (q3.up (by omega))
  obtain⟨c',x,e,g1,g2⟩:=step
  obtain⟨c2',out',e2,g3,g4,g5⟩:=draw_steps l n (out++[x]) g1 (by omega) (by omega) (by simp;omega) (fun z hz=>by
   rcases List.mem_append.1 hz with q|q
   ·exact h4 z q
   ·obtain rfl:=List.mem_singleton.1 q
    exact g2)
  exact⟨c2',out',Eq.trans (fix_go (B:=fun d=>b_S_l1Cur_orders_6 d.1 d.2.1 d.2.2.1 d.2.2.2.1) (s:=(c,l,out,((n+1:Nat):Int),())) e) e2,g3.up (by omega),by simp at g4;omega,g5⟩
end R
end

section
/- Drawn orders are small, whatever is changed in them. -/
open Go Go.Dn
namespace R
set_option linter.unusedVariables false
def OX (x:PV Y_impl_Order):Prop:=List.length x.2.2.2.1≤4000∧∀l∈(x.2.2.2.1:TX),l.length≤4000
theorem OW.ox {x:PV Y_impl_Order}(h:OW x):OX x:=⟨by have:=h.1;omega,fun l hl=>by have:=h.2 l hl;omega⟩
theorem OX.tot {gs:OR}(hl:gs.length≤3000)(h:∀x∈gs,OX x):tot S_impl_Order gs≤4611686018427387904:=by
 have hx:∀x∈gs,Go.Dn.tot Y_impl_Order x≤20000000:=fun x hx=>by
  obtain⟨h1,h2⟩:=h x hx
  have h3:Go.Dn.tot S_string x.2.2.2.1≤(4000+1)*List.length x.2.2.2.1:=V.tot_le fun s hs=>by
   have:=h2 s hs
   rw[tot_str];exact this
  simp only[Go.Dn.tot] at h3 ⊢
  omega
 have h5:Go.Dn.tot S_impl_Order gs≤(20000000+1)*gs.length:=V.tot_le hx
 omega
theorem orders_ok {K:Int}{c:Cur}(h:CurOk K c)(hK:K≤1000000):∃(l:TX) (o:OR) (c':Cur),f_S_l1Cur_orders c=some ((l,o,()),(c',()))∧o.length≤3000∧(∀x∈o,OX x)∧CurOk (K+6000) c':=by
 obtain⟨l,c1,p1,s1,s2,q1⟩:=text_ok h (by omega)
 obtain⟨hh,c2,p2,s3,s4,q2⟩:=hunks_ok (by omega) s2 q1 (by omega)
 obtain⟨o1,b1,p3,s5,s6⟩:=edOrders_ok (by omega) s2 s3 s4
 obtain⟨b,c3,p4,q4⟩:=one_ok (n:=3) q2 (by omega) (by omega)
 unfold f_S_l1Cur_orders
 rw[p1,Option.bind_some]
 dsimp only
 rw[p2,Option.bind_some]
 dsimp only
 rw[p3,Option.bind_some]
 dsimp only
 rw[p4,Option.bind_some]
 dsimp only
 have mid:∃(o:OR) (c5:Cur),(((bif b then
            (f_S_l1Cur_pick c3 4).bind fun r33=>
              (w_S_l1Cur_orders_6 (r33.2.1,l,[],r33.1.1,())).bind fun l34=>
                some (l34.1,l34.2.1,l34.2.2.1,())
  else
   some (c3,l,o1,()):Option ((PV Y_spec_l1Cur×PV S_string×PV S_impl_Order×Unit)))))=some (c5,l,o,())∧o.length≤1300∧(∀x∈o,OW x)∧CurOk (K+5200) c5:=by
  cases b
  ·exact⟨o1,c3,rfl,s5,s6,q4.up (by omega)⟩
  ·obtain⟨r,c4,p5,a5,b5,_,q5⟩:=pick_ok (n:=4) q4 (by omega) (by omega)
   have b5:=b5 (by omega)
   obtain⟨n,rfl⟩:∃n:Nat,r=(n:Int):=⟨r.toNat,(Int.toNat_of_nonneg a5).symm⟩
   obtain⟨c5,o,p6,q6,s7,s8⟩:=draw_steps l n [] q5 (by omega) (by omega) (by simp;omega) (fun x hx=>by cases hx)
   rw[cond_true,p5,Option.bind_some]
   dsimp only
   rw[p6,Option.bind_some]
   exact⟨o,c5,rfl,by simp at s7;omega,s8,q6.up (by omega)⟩
 obtain⟨o,c5,e,g1,g2,q5⟩:=mid
 rw[e,Option.bind_some]
 dsimp only
 have gx:∀x∈o,OX x:=fun x hx=>(g2 x hx).ox
 by_cases h0:o.length=0
 ·rw[decide_eq_false (by omega:¬(o.length:Int)>0),cond_false,Option.bind_some]
  exact⟨l,o,c5,rfl,by omega,gx,q5.up (by omega)⟩
 ·obtain⟨r6,c6,p6,a6,b6,_,q6⟩:=pick_ok (n:=(o.length:Int)) q5 (by omega) (by omega)
  have b6:=b6 (by omega)
  obtain⟨k,rfl⟩:∃k:Nat,r6=(k:Int):=⟨r6.toNat,(Int.toNat_of_nonneg a6).symm⟩
  have hk:k<o.length:=by omega
  obtain⟨r7,c7,p7,_,_,_,q7⟩:=pick_ok (n:=15) q6 (by omega) (by omega)
  obtain⟨w1,w2⟩:=g2 _ (List.getElem_mem hk)
  have hset:∀y:PV Y_impl_Order,OX y→∀x∈o.set k y,OX x:=fun y hy x hx=>(List.mem_or_eq_of_mem_set hx).elim (gx x) fun e=>by rw[e];exact hy
  have hbb:(decide ((0:Int)≤(k:Int))&&(k==k))=true:=by rw[decide_eq_true (by omega),beq_self_eq_true];rfl
  rw[decide_eq_true (by omega:(o.length:Int)>0),cond_true,p6,Option.bind_some]
  dsimp only
  rw[p7,Option.bind_some]
  dsimp only
  cases h70:(r7==0)
  ·rw[cond_false]
   cases h71:(r7==1)
   ·rw[cond_false]
    cases h72:(r7==2)
    ·rw[cond_false,Option.bind_some]
     exact⟨l,o,c7,rfl,by omega,gx,q7.up (by omega)⟩
    ·obtain⟨r8,c8,p8,_,_,_,q8⟩:=pick_ok (n:=7) q7 (by omega) (by omega)
     rw[cond_true,p8,Option.bind_some]
     dsimp only
     rw[inB_lt hk,cond_true,Option.bind_some,toNat_cast,getD_of hk]
     exact⟨l,_,c8,rfl,by rw[List.length_set];omega,hset _ (OW.ox ⟨w1,w2⟩),q8.up (by omega)⟩
   ·rw[cond_true,inB_lt hk,cond_true,toNat_cast,getD_of hk,roomB_ok (by simp only[List.length_cons,List.length_nil];omega),cond_true,hbb,cond_true,show((k==k)&&true)=true from by rw[beq_self_eq_true];rfl,cond_true,cond_true,Option.bind_some]
    refine⟨l,_,c7,rfl,by rw[List.length_set];omega,hset _ ⟨by show(_++_:TX).length≤4000;rw[List.length_append];simp only[List.length_cons,List.length_nil];omega,fun s hs=> ?_⟩,q7.up (by omega)⟩
    rcases List.mem_append.1 hs with q|q
    ·have:=w2 s q;omega
    ·obtain rfl:=List.mem_singleton.1 q
     decide
  ·rw[cond_true,inB_lt hk,cond_true,cond_true,toNat_cast,getD_of hk,Option.bind_some]
   exact⟨l,_,c7,rfl,by rw[List.length_set];omega,hset _ (OW.ox ⟨w1,w2⟩),q7.up (by omega)⟩
end R
end

section
/- Orders: equal orders are the same; what is drawn. -/
open Go Go.Dn
namespace R
set_option linter.unusedVariables false
theorem sameTexts_self (l:TX)(hl:l.length≤100000):f_L_sameTexts l l=some ((true,()),()):=by
 have hF:=fix_all (B:=fun d=>b_L_sameTexts_4 d.1 d.2.1 d.2.2.1 d.2.2.2.1) (fun i=>(l,l,(l.length:Int),(i:Int),())) l.length (r:=(.inl ()))
  (fun i hi=>by
    show b_L_sameTexts_4 l l l.length i=_
    unfold b_L_sameTexts_4
    rw[decide_eq_true (by omega:(i:Int)<(l.length:Int)),cond_true,inB_lt hi,cond_true,cond_true,beq_self_eq_true,Bool.not_true,cond_false,wrap64 (x:=(i:Int)+1) (by omega) (by omega)]
    rfl)
  (by
    show b_L_sameTexts_4 l l l.length l.length=_
    unfold b_L_sameTexts_4
    rw[decide_eq_false (Int.lt_irrefl _),cond_false])
 unfold f_L_sameTexts
 rw[beq_self_eq_true,Bool.not_true,cond_false,show w_L_sameTexts_4 (l,l,(l.length:Int),0,())=_ from hF,Option.bind_some]
theorem sameOrders_self (o:OR)(ho:o.length≤100000)(hx:∀x∈o,List.length x.2.2.2.1≤100000):f_L_sameOrders o o=some ((true,()),()):=by
 have hF:=fix_all (B:=fun d=>b_L_sameOrders_4 d.1 d.2.1 d.2.2.1 d.2.2.2.1) (fun i=>(o,o,(o.length:Int),(i:Int),())) o.length (r:=(.inl ()))
  (fun i hi=>by
    have h1:=hx _ (List.getElem_mem hi)
    show b_L_sameOrders_4 o o o.length i=_
    unfold b_L_sameOrders_4
    simp only[decide_eq_true (by omega:(i:Int)<(o.length:Int)),cond_true,inB_lt hi,toNat_cast,getD_of hi,beq_self_eq_true,Bool.not_true,cond_false,sameTexts_self _ h1,Option.bind_some,wrap64 (x:=(i:Int)+1) (by omega) (by omega)]
    rfl)
  (by
    show b_L_sameOrders_4 o o o.length o.length=_
    unfold b_L_sameOrders_4
    rw[decide_eq_false (Int.lt_irrefl _),cond_false])
 unfold f_L_sameOrders
 rw[beq_self_eq_true,Bool.not_true,cond_false,show w_L_sameOrders_4 (o,o,(o.length:Int),0,())=_ from hF,Option.bind_some]
theorem drawOrders_ok {t:PV S_uint8}(hw:WfV S_uint8 t):∃o:OR,f_S_DrawOrdersText t=some ((o,()),())∧o.length≤3000∧∀x∈o,OX x:=by
 obtain⟨l,o,c',e,h1,h2,_⟩:=orders_ok (start_ok hw) (by omega)
 unfold f_S_DrawOrdersText f_S_DrawGoodOrders
 rw[e]
 exact⟨o,rfl,h1,h2⟩
end R
end

section
/- Orders: what is drawn as a text; the law. -/
open Go Go.Dn
namespace R
set_option linter.unusedVariables false
theorem oR_len (o:OR):(oR o).length≤3000:=by
 unfold oR
 split
 ·rename_i h
  unfold oOk at h
  rw[Bool.and_eq_true,decide_eq_true_eq] at h
  exact h.2
 ·exact Nat.zero_le _
theorem of_ok {K:Int}{c:Cur}(q:CurOk K c)(hK:K≤1000000)(L:TX)(h1:1≤L.length)(h2:L.length≤1000):
 ∃s:List UInt8,(((f_S_l1Cur_pick c (L.length:Int)).bind fun r12=>bif inB r12.1.1 L.length then some (L.getD r12.1.1.toNat [],()) else none:Option (PV .str×Unit)).bind fun j13=>some ((j13.1,()),()):Option (PVs [.str]×PVs []))=some ((s,()),()):=by
 obtain⟨r3,c3,p3,a3,b3,_,q3⟩:=pick_ok (n:=(L.length:Int)) q (by omega) (by omega)
 have b3:=b3 (by omega)
 obtain⟨i,rfl⟩:∃i:Nat,r3=(i:Int):=⟨r3.toNat,(Int.toNat_of_nonneg a3).symm⟩
 rw[p3,Option.bind_some]
 dsimp only
 rw[inB_lt (by omega),cond_true]
 exact⟨_,rfl⟩
theorem drawRead_ok {t:PV S_uint8}(hw:WfV S_uint8 t):∃s:List UInt8,f_S_DrawReadOrders t=some ((s,()),()):=by
 obtain⟨l,o,c1,e,h1,h2,q1⟩:=orders_ok (start_ok hw) (by omega)
 obtain⟨r,c2,p2,a2,b2,_,q2⟩:=pick_ok (n:=4) q1 (by omega) (by omega)
 have:=oR_len o
 unfold f_S_DrawReadOrders
 rw[e,Option.bind_some]
 dsimp only
 rw[text_ST (OX.tot h1 h2),Option.bind_some]
 dsimp only
 rw[p2,Option.bind_some]
 dsimp only
 cases h0:(r==0)
 ·rw[cond_false]
  cases h3:(r==1)
  ·exact⟨_,rfl⟩
  ·rw[cond_true]
   exact of_ok q2 (by omega) [[],[49,100,10],[49,97,10,120,10,46,10],[49,97,10,120,10],[49,97,10,46,10],[49,115,47,46,47,47,10],[50,44,49,100,10],[49,44,49,100,10],[48,100,10],[100,10]] (by decide) (by decide)
 ·obtain⟨s',c3,e3⟩:=spoilt_ok (ws:=[97,99,100,46,44,49,10]) (by decide) (by decide) (oR o) q2 (by omega) (by omega)
  rw[cond_true,e3]
  exact⟨_,rfl⟩
theorem good_new {gs:OR}(h:ordersP gs=true):gs.length≤100000∧∀x∈gs,List.length x.2.2.2.1≤100000:=by
 obtain⟨h1,h2⟩:=good_at h
 exact⟨by omega,fun x hx=>by have:=(order_ok (h2 x hx)).2.2.2.1;omega⟩
theorem back_I {o:OR}(h:oOk o=true):f_I_ReadOrders (textO o)=some ((o,0,true,()),()):=by
 unfold oOk at h
 rw[Bool.and_eq_true,decide_eq_true_eq] at h
 obtain⟨gs,c,q,e,h1⟩:=V.read_I (textO o)
 rcases h1 with⟨a1,a2,a3,rfl,rfl⟩|⟨a1,_⟩
 ·have r1:=(V.raw_good a1 (by rw[a2];exact a3) []).1
  have r2:=(V.raw_good h.1 h.2 []).1
  rw[a2] at r1
  rw[r1] at r2
  have:gs=o:=(Prod.mk.inj (Prod.mk.inj (Option.some.inj r2)).1).1
  subst this
  exact e
 ·exact(a1 o h.1 rfl h.2).elim
theorem both_told (s:List UInt8):∃(gs:OR) (c:Int) (q:Bool),f_I_ReadOrders s=some ((gs,c,q,()),())∧f_S_ReadOrders s=some ((gs,c,q,()),())∧
 ((ordersP gs=true∧textO gs=s∧s.length≤3000∧c=0∧q=true)∨(gs=[]∧c=1∧q=false)):=by
 obtain⟨gs,c,q,e1,e2,_⟩:=V.orders_both s
 obtain⟨g1,c1,q1,e,h⟩:=V.read_I s
 have e:some ((gs,c,q,()),())=some ((g1,c1,q1,()),()):=e1.symm.trans e
 have e':=(Prod.mk.inj (Option.some.inj e)).1
 obtain⟨y1,e'⟩:=Prod.mk.inj e'
 obtain⟨y2,e'⟩:=Prod.mk.inj e'
 obtain⟨y3,_⟩:=Prod.mk.inj e'
 subst y1;subst y2;subst y3
 refine⟨gs,c,q,e1,e2,?_⟩
 rcases h with h|⟨_,h⟩
 ·exact .inl h
 ·exact .inr h
theorem tail_ok (s:List UInt8):(f_I_ReadOrders s).bind (fun r32=>
 (f_S_ReadOrders s).bind fun r34=>
   ((
     bif (!(r32.1.2.2.1==r34.1.2.2.1)) then
      some (s,r32.1.1,r32.1.2.1,r32.1.2.2.1,true,())
     else
      bif (!(r32.1.2.1==r34.1.2.1)) then
       some (s,r32.1.1,r32.1.2.1,r32.1.2.2.1,true,())
      else
       (f_L_sameOrders r32.1.1 r34.1.1).bind fun r38=>
         some (s,r32.1.1,r32.1.2.1,r32.1.2.2.1,(!r38.1.1),()):Option ((PV .str×PV S_impl_Order×PV (.int .i64)×PV .bool×PV .bool×Unit)))).bind fun j39=>
     bif j39.2.2.2.2.1 then
      some ((false,()),())
     else
      bif j39.2.2.2.1 then
       (f_I_OrdersText j39.2.1).bind fun r43=>
         bif r43.1.2.1 then
          some (((r43.1.1==j39.1),()),())
         else
          some ((false,()),())
      else
       some (((j39.2.2.1==1),()),()))=(some ((true,()),()):Option (PVs [.bool]×PVs [])):=by
 obtain⟨gs,c,q,e1,e2,h⟩:=both_told s
 rw[e1,Option.bind_some,e2,Option.bind_some]
 dsimp only
 simp only[beq_self_eq_true,Bool.not_true,cond_false]
 rcases h with⟨h1,h2,h3,rfl,rfl⟩|⟨rfl,rfl,rfl⟩
 ·obtain⟨g1,g2⟩:=good_new h1
  rw[sameOrders_self gs g1 g2,Option.bind_some]
  dsimp only
  have ht:=V.good_tot h1
  rw[Option.bind_some]
  dsimp only
  rw[Bool.not_true,cond_false,cond_true,text_I (by omega),Option.bind_some]
  dsimp only
  have hk:oOk gs=true:=by unfold oOk;rw[h1,h2,decide_eq_true h3];rfl
  rw[hk,cond_true]
  unfold oR
  rw[if_pos hk,h2,beq_self_eq_true]
 ·rw[sameOrders_self [] (by simp) (fun x hx=>by cases hx),Option.bind_some]
  rfl
theorem law_Orders (t0 t1:PV S_uint8)(hw:WfV S_uint8 t0)(hw1:WfV S_uint8 t1):f_L_FnOrders t0 t1=some ((true,()),()):=by
 obtain⟨b,eb⟩:=big_L (t0:=t0) (t1:=t1)
 obtain⟨o,eo,h1,h2⟩:=drawOrders_ok hw
 obtain⟨s,es⟩:=drawRead_ok hw1
 have htot:=OX.tot h1 h2
 unfold f_L_FnOrders
 rw[eb,Option.bind_some]
 dsimp only
 cases b
 case true=>rfl
 rw[cond_false,eo,Option.bind_some]
 dsimp only
 rw[text_I htot,Option.bind_some]
 dsimp only
 rw[text_ST htot,Option.bind_some]
 dsimp only
 unfold f_I_GoodOrders f_S_GoodOrders
 simp only[beq_self_eq_true,Bool.not_true,cond_false,orders_I o htot,orders_S o htot,Option.bind_some]
 cases hk:oOk o
 ·rw[cond_false,Option.bind_some]
  dsimp only
  rw[es,Option.bind_some]
  exact tail_ok s
 ·have hR:oR o=textO o:=by unfold oR;rw[if_pos hk]
  have hg:ordersP o=true:=by unfold oOk at hk;rw[Bool.and_eq_true] at hk;exact hk.1
  obtain⟨g1,g2⟩:=good_new hg
  rw[cond_true,hR,back_I hk,Option.bind_some]
  dsimp only
  simp only[beq_self_eq_true,Bool.not_true,cond_false,sameOrders_self o g1 g2,Option.bind_some]
  rw[es,Option.bind_some]
  exact tail_ok s
end R
end
