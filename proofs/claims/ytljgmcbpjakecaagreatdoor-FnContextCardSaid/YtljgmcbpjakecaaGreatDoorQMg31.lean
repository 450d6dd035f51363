/- Parts of the proof: PbIb Ma1 Ma2 Ma3 Ma4 Ma6 Ma7 Ma8 Mb5 Mb6 Mb7 Mb8 Mb9 Mc1 Mc2 Mc3 Mc4 Mc5 Mc6 Mc7 Mc8 Mc9 Mk1 Mk2 Mk3 Mk4 Mk5 Mk6 Mk7 Mk8. -/
import Derived.Test.YtljgmcbpjakecaaGreatDoorPaIb
import Derived.Test.YtljgmcbpjakecaaGreatDoorL3
import Derived.Lib.ItoaLen
section
/- Plain laws of the helpers. -/
open Go Go.Dn
namespace R
set_option linter.unusedVariables false
end R
end

section
/- Lines: both sides' tests of lines answer the same. -/
open Go Go.Dn
namespace R
set_option linter.unusedVariables false
theorem in_I (a b c:Int):f_I_in a b c=some ((decide (a≥b)&&decide (a≤c),()),()):=by
 unfold f_I_in
 cases decide (a≥b)<;>rfl
theorem in_S (a b c:Int):f_S_l1In a b c=some ((decide (a≥b)&&decide (a≤c),()),()):=by
 unfold f_S_l1In
 cases decide (a≥b)<;>rfl
def inI (a b c:Int):Bool:=decide (a≥b)&&decide (a≤c)
def hasEnd (s:List UInt8):Bool:=(s.take (s.length -1)).contains 10
def lineP (s:List UInt8):Bool:=inI (s.length:Int) 1 30&& !hasEnd s
def endP (s:List UInt8):Bool:=s.drop (s.length -1)==[10]
theorem line_len {s:List UInt8}(h:lineP s=true):1≤s.length∧s.length≤30:=by
 unfold lineP inI at h
 simp only[Bool.and_eq_true,decide_eq_true_eq] at h
 omega
theorem line_S (s:List UInt8)(hs:s.length≤4611686018427387904):f_S_l1Line s=some ((lineP s,()),()):=by
 unfold f_S_l1Line
 have hw:IntKind.wrap .i64 ((s.length:Int) -1)=(s.length:Int) -1:=wrap64 (by omega) (by omega)
 rw[show w_S_l1Line_2 (s,0,())=_ from fix_anyN (B:=fun d=>b_S_l1Line_2 d.1 d.2.1) (s.length -1) (fun i=>s.getD i 0==10) (fun i=>(s,(i:Int),())) (fun _=>.inr (false,())) (.inl (s,()))
  (fun i hi hq=>by
    show b_S_l1Line_2 s i=_
    unfold b_S_l1Line_2
    rw[hw,decide_eq_true (by omega:(i:Int)<(s.length:Int) -1),cond_true,inB_lt (by omega),cond_true,toNat_cast]
    rw[show((((s.getD i 0:UInt8).toNat:Nat):Int)==10)=(s.getD i 0==10) from byte_eq (n:=10) (by omega),hq,cond_false,wrap64 (by omega) (by omega)]
    simp)
  (fun i hi hq=>by
    show b_S_l1Line_2 s i=_
    unfold b_S_l1Line_2
    rw[hw,decide_eq_true (by omega:(i:Int)<(s.length:Int) -1),cond_true,inB_lt (by omega),cond_true,toNat_cast]
    rw[show((((s.getD i 0:UInt8).toNat:Nat):Int)==10)=(s.getD i 0==10) from byte_eq (n:=10) (by omega),hq,cond_true])
  (by
    show b_S_l1Line_2 s ((s.length -1:Nat):Int)=_
    unfold b_S_l1Line_2
    rw[hw,decide_eq_false (by omega:¬(((s.length -1:Nat):Int)<(s.length:Int) -1)),cond_false])]
 rw[contains_take (by omega)]
 unfold lineP hasEnd
 cases(s.take (s.length -1)).contains 10
 ·simp only[Bool.false_eq_true,if_false,Option.bind_some,in_S];simp[inI]
 ·simp
theorem ends_S (s:List UInt8)(h1:1≤s.length)(hs:s.length≤4611686018427387904):f_S_l1Ends s=some ((endP s,()),()):=by
 unfold f_S_l1Ends
 have hw:IntKind.wrap .i64 ((s.length:Int) -1)=((s.length -1:Nat):Int):=by rw[wrap64 (by omega) (by omega)];omega
 rw[hw,inB_lt (by omega),cond_true,toNat_cast]
 rw[show((((s.getD (s.length -1) 0:UInt8).toNat:Nat):Int)==10)=(s.getD (s.length -1) 0==10) from byte_eq (n:=10) (by omega)]
 unfold endP
 rw[List.drop_eq_getElem_cons (by omega:s.length -1<s.length),List.drop_of_length_le (by omega),getD_of (by omega)]
 simp
theorem line_I (s:List UInt8)(hs:s.length≤4611686018427387904):f_I_isLine s=some ((lineP s,()),()):=by
 unfold f_I_isLine
 rw[in_I,Option.bind_some]
 dsimp only
 unfold lineP
 cases h:inI (s.length:Int) 1 30
 ·unfold inI at h;rw[h];rfl
 ·have h':=h
  unfold inI at h'
  rw[h',cond_true]
  simp only[Bool.and_eq_true,decide_eq_true_eq] at h'
  rw[wrap64 (by omega) (by omega)]
  rw[show cutB 0 ((s.length:Int) -1) s.length=true from by unfold cutB;simp;omega,cond_true]
  unfold f_strings_Contains containsF
  rw[Option.bind_some]
  unfold hasEnd cutL
  rw[show((s.length:Int) -1).toNat=s.length -1 from by omega]
  simp
theorem ends_I (s:List UInt8)(hs:s.length≤4611686018427387904):f_I_isEnded s=some ((endP s,()),()):=by
 unfold f_I_isEnded f_strings_HasSuffix f_internal_stringslite_HasSuffix endP
 by_cases h:1≤s.length
 ·rw[decide_eq_true (by simp;omega:(s.length:Int)≥(([10]:List UInt8).length:Int)),cond_true]
  have hw:IntKind.wrap .i64 ((s.length:Int) -(([10]:List UInt8).length:Int))=((s.length -1:Nat):Int):=by
   rw[show((([10]:List UInt8).length:Nat):Int)=1 from rfl,wrap64 (by omega) (by omega)];omega
  rw[hw,show cutB ((s.length -1:Nat):Int) (s.length:Int) s.length=true from by unfold cutB;simp,cond_true]
  unfold cutL
  simp
 ·have:s=[]:=List.eq_nil_of_length_eq_zero (by omega)
  subst this
  rfl
def linesP (l:List (List UInt8)):Bool:=decide (l.length≤40)&& !(l.any fun s=> !lineP s)
def endsP (l:List (List UInt8)):Bool:= !(anyN l.length fun k=>decide ((k:Int)<(l.length:Int) -1)&& !(endP (l.getD k [])))
def goodP (l:List (List UInt8)):Bool:=linesP l&&endsP l
def Sm (l:List (List UInt8)):Prop:=l.length≤4611686018427387904∧∀s∈l,s.length≤4611686018427387904
theorem Sm.len {l:List (List UInt8)}(h:Sm l):l.length≤4611686018427387904:=h.1
theorem Sm.mem {l:List (List UInt8)}(h:Sm l){i:Nat}(hi:i<l.length):(l[i]).length≤4611686018427387904:=h.2 _ (List.getElem_mem hi)
theorem Sm.of {l:List (List UInt8)}{n:Nat}(h:tot (.slice 9 .str) l≤n)(hn:n≤4611686018427387904):Sm l:=by
 refine⟨?_,fun s hs=> ?_⟩
 ·have h':=h
  rw[tot_slice] at h'
  omega
 ·obtain⟨i,hi,rfl⟩:=List.mem_iff_getElem.1 hs
  have:=Nat.le_trans (tot_mem (e:=9) (t:=.str) (xs:=l) hi) h
  rw[tot_str] at this
  omega
theorem areLines_I (t0:List (List UInt8))(hs:Sm t0):f_I_areLines t0=some ((linesP t0,()),()):=by
 unfold f_I_areLines linesP
 by_cases hl:t0.length≤40
 ·rw[decide_eq_true (by omega:(t0.length:Int)≤40),cond_true,decide_eq_true hl,Bool.true_and]
  rw[show w_I_areLines_264_2 (t0,false,t0,(t0.length:Int),true,true,t0,t0,false,t0,t0,(t0.length:Int),0,())=_ from
   fix_any (B:=fun d=>b_I_areLines_264_2 d.1 d.2.1 d.2.2.1 d.2.2.2.1 d.2.2.2.2.1 d.2.2.2.2.2.1 d.2.2.2.2.2.2.1 d.2.2.2.2.2.2.2.1 d.2.2.2.2.2.2.2.2.1 d.2.2.2.2.2.2.2.2.2.1 d.2.2.2.2.2.2.2.2.2.2.1 d.2.2.2.2.2.2.2.2.2.2.2.1 d.2.2.2.2.2.2.2.2.2.2.2.2.1) t0 (fun s=> !lineP s)
   (fun i=>(t0,false,t0,(t0.length:Int),true,true,t0,t0,false,t0,t0,(t0.length:Int),(i:Int),())) (fun i=>.inr (t0,false,t0,(t0.length:Int),true,true,t0,t0,false,t0,(i:Int),())) (.inl (t0,false,t0,(t0.length:Int),true,true,t0,t0,false,t0,()))
   (fun i hi hq=>by
     show b_I_areLines_264_2 _ _ _ _ _ _ _ _ _ _ t0 t0.length i=_
     unfold b_I_areLines_264_2 f_I_areLines_1
     rw[decide_eq_true (by omega:(i:Int)<(t0.length:Int)),cond_true,inB_lt hi,cond_true,toNat_cast,getD_of hi,line_I _ (hs.mem hi),Option.bind_some,Option.bind_some]
     dsimp only
     rw[hq,cond_false,wrap64 (by omega) (by omega)];rfl)
   (fun i hi hq=>by
     show b_I_areLines_264_2 _ _ _ _ _ _ _ _ _ _ t0 t0.length i=_
     unfold b_I_areLines_264_2 f_I_areLines_1
     rw[decide_eq_true (by omega:(i:Int)<(t0.length:Int)),cond_true,inB_lt hi,cond_true,toNat_cast,getD_of hi,line_I _ (hs.mem hi),Option.bind_some,Option.bind_some]
     dsimp only
     rw[hq,cond_true])
   (by
     show b_I_areLines_264_2 _ _ _ _ _ _ _ _ _ _ t0 t0.length t0.length=_
     unfold b_I_areLines_264_2
     rw[decide_eq_false (Int.lt_irrefl _),cond_false])]
  cases h:t0.any fun s=> !lineP s
  ·rfl
  ·simp
 ·rw[decide_eq_false (by omega:¬(t0.length:Int)≤40),cond_false,decide_eq_false hl];rfl
theorem goodLines_I (t0:List (List UInt8))(hs:Sm t0):f_I_goodLines t0=some ((goodP t0,()),()):=by
 have hl:=hs.len
 unfold f_I_goodLines goodP
 rw[areLines_I t0 hs,Option.bind_some]
 dsimp only
 cases linesP t0
 ·rfl
 ·rw[Bool.not_true,cond_false]
  have hw:IntKind.wrap .i64 ((t0.length:Int) -1)=(t0.length:Int) -1:=wrap64 (by omega) (by omega)
  have hr:∀i,i<t0.length→((bif decide ((i:Int)<(t0.length:Int) -1) then(f_I_isEnded (t0.getD i [])).bind fun r7=>some (t0,t0,(t0.length:Int),(i:Int), !r7.1.1,()) else some (t0,t0,(t0.length:Int),(i:Int),false,())):Option (PV S_string×PV S_string×Int×Int×Bool×Unit))=
   some (t0,t0,(t0.length:Int),(i:Int),decide ((i:Int)<(t0.length:Int) -1)&& !(endP (t0.getD i [])),()):=by
   intro i hi
   cases decide ((i:Int)<(t0.length:Int) -1)
   ·rfl
   ·rw[cond_true,getD_of hi,ends_I _ (hs.mem hi)];rfl
  rw[show w_I_goodLines_4 (t0,t0,(t0.length:Int),0,())=_ from fix_anyN (B:=fun d=>b_I_goodLines_4 d.1 d.2.1 d.2.2.1 d.2.2.2.1) t0.length (fun k=>decide ((k:Int)<(t0.length:Int) -1)&& !(endP (t0.getD k [])))
   (fun i=>(t0,t0,(t0.length:Int),(i:Int),())) (fun _=>.inr (false,())) (.inl ())
   (fun i hi hq=>by
     show b_I_goodLines_4 t0 t0 t0.length i=_
     unfold b_I_goodLines_4
     rw[decide_eq_true (by omega:(i:Int)<(t0.length:Int)),cond_true,inB_lt hi,cond_true,toNat_cast,hw,hr i hi,hq,Option.bind_some]
     dsimp only
     rw[cond_false,wrap64 (by omega) (by omega)];rfl)
   (fun i hi hq=>by
     show b_I_goodLines_4 t0 t0 t0.length i=_
     unfold b_I_goodLines_4
     rw[decide_eq_true (by omega:(i:Int)<(t0.length:Int)),cond_true,inB_lt hi,cond_true,toNat_cast,hw,hr i hi,hq,Option.bind_some]
     rfl)
   (by
     show b_I_goodLines_4 t0 t0 t0.length t0.length=_
     unfold b_I_goodLines_4
     rw[decide_eq_false (Int.lt_irrefl _),cond_false])]
  unfold endsP
  cases anyN t0.length fun k=>decide ((k:Int)<(t0.length:Int) -1)&& !(endP (t0.getD k []))<;>rfl
theorem l5Lines_S (t0:List (List UInt8))(hs:Sm t0):f_S_l5Lines t0=some ((goodP t0,()),()):=by
 have hl:=hs.len
 unfold f_S_l5Lines
 have hw:IntKind.wrap .i64 ((t0.length:Int) -1)=(t0.length:Int) -1:=wrap64 (by omega) (by omega)
 have hr:∀i,i<t0.length→(((f_S_l1Line (t0.getD i [])).bind fun r4=>bif !r4.1.1 then some (t0,t0,(t0.length:Int),(i:Int),true,()) else
  bif decide ((i:Int)<(t0.length:Int) -1) then(f_S_l1Ends (t0.getD i [])).bind fun r5=>some (t0,t0,(t0.length:Int),(i:Int), !r5.1.1,()) else some (t0,t0,(t0.length:Int),(i:Int),false,())):Option (PV S_string×PV S_string×Int×Int×Bool×Unit))=
  some (t0,t0,(t0.length:Int),(i:Int), !(lineP (t0.getD i []))||(decide ((i:Int)<(t0.length:Int) -1)&& !(endP (t0.getD i []))),()):=by
  intro i hi
  rw[getD_of hi,line_S _ (hs.mem hi),Option.bind_some]
  dsimp only
  cases hL:lineP t0[i]
  ·rfl
  ·rw[Bool.not_true,cond_false,Bool.false_or]
   cases decide ((i:Int)<(t0.length:Int) -1)
   ·rfl
   ·rw[cond_true,ends_S _ (line_len hL).1 (hs.mem hi)];rfl
 rw[show w_S_l5Lines_2 (t0,t0,(t0.length:Int),0,())=_ from fix_anyN (B:=fun d=>b_S_l5Lines_2 d.1 d.2.1 d.2.2.1 d.2.2.2.1) t0.length (fun k=> !(lineP (t0.getD k []))||(decide ((k:Int)<(t0.length:Int) -1)&& !(endP (t0.getD k []))))
    (fun i=>(t0,t0,(t0.length:Int),(i:Int),())) (fun _=>.inr (false,())) (.inl (t0,()))
    (fun i hi hq=>by
      show b_S_l5Lines_2 t0 t0 t0.length i=_
      unfold b_S_l5Lines_2
      rw[decide_eq_true (by omega:(i:Int)<(t0.length:Int)),cond_true,inB_lt hi,cond_true,toNat_cast,hw,hr i hi,hq,Option.bind_some]
      dsimp only
      rw[cond_false,wrap64 (by omega) (by omega)];rfl)
    (fun i hi hq=>by
      show b_S_l5Lines_2 t0 t0 t0.length i=_
      unfold b_S_l5Lines_2
      rw[decide_eq_true (by omega:(i:Int)<(t0.length:Int)),cond_true,inB_lt hi,cond_true,toNat_cast,hw,hr i hi,hq,Option.bind_some]
      rfl)
    (by
      show b_S_l5Lines_2 t0 t0 t0.length t0.length=_
      unfold b_S_l5Lines_2
      rw[decide_eq_false (Int.lt_irrefl _),cond_false])]
 rw[anyN_or,show(anyN t0.length fun k=> !(lineP (t0.getD k [])))=t0.any fun s=> !lineP s from anyN_list (f:=fun s=> !lineP s)]
 unfold goodP linesP endsP
 cases t0.any fun s=> !lineP s
 ·cases anyN t0.length fun k=>decide ((k:Int)<(t0.length:Int) -1)&& !(endP (t0.getD k []))
  ·simp;omega
  ·simp
 ·simp
end R
end

section
/- Groups: both sides test them alike. -/
open Go Go.Dn
namespace R
set_option linter.unusedVariables false
abbrev RW:=List (PV Y_impl_Row)
abbrev W0:PV Y_impl_Row:=dflt Y_impl_Row
def kd (rows:RW)(k:Nat):Int:=(rows.getD k W0).1
def badRow (rows:RW)(k:Nat):Bool:=
 !(inI (kd rows k) 1 3)||(!(lineP (rows.getD k W0).2.1)||(decide ((k:Int)>0)&&((kd rows k==2)&&(kd rows (k -1)==3))))
def chg (rows:RW)(k:Nat):Bool:= !(kd rows k==1)
def sideL (rows:RW)(c:Int):List (List UInt8):=(rows.filter fun(r:PV Y_impl_Row)=> !(r.1==c)).map fun r=>r.2.1
def SmR (rows:RW):Prop:=rows.length≤1048576∧∀r∈rows,List.length (r:PV Y_impl_Row).2.1≤1048576
theorem SmR.line {rows:RW}(h:SmR rows){k:Nat}(hk:k<rows.length):List.length (rows.getD k W0).2.1≤4611686018427387904:=by
 rw[getD_of hk]
 have:=h.2 _ (List.getElem_mem hk)
 omega
theorem anyN_succ (n:Nat)(q:Nat→Bool):anyN (n+1) q=(anyN n q||q n):=by
 unfold anyN
 rw[List.range_succ,List.any_append]
 simp
theorem side_next {rows:RW}{c:Int}{i:Nat}(hi:i<rows.length):sideL (rows.take (i+1)) c=bif !(rows[i].1==c) then sideL (rows.take i) c++[rows[i].2.1] else sideL (rows.take i) c:=by
 unfold sideL
 rw[←List.take_append_getElem hi,List.filter_append,List.map_append]
 cases h:(rows[i].1==c)
 ·rw[Bool.not_false,cond_true,List.filter_cons_of_pos (by simp[h])]
  rfl
 ·rw[Bool.not_true,cond_false,List.filter_cons_of_neg (by simp[h])]
  simp
theorem side_len {rows:RW}{c:Int}:(sideL rows c).length≤rows.length:=by
 unfold sideL
 rw[List.length_map]
 exact List.length_filter_le _ _
theorem side_sm {rows:RW}{c:Int}(h:SmR rows):Sm (sideL rows c):=by
 refine⟨Nat.le_trans side_len (Nat.le_trans h.1 (by omega)),fun s hs=> ?_⟩
 unfold sideL at hs
 obtain⟨r,hr,rfl⟩:=List.mem_map.1 hs
 exact Nat.le_trans (h.2 r ((List.mem_filter.1 hr).1)) (by omega)
theorem sideOf_I {rows:RW}{c:Int}(h:SmR rows):f_I_sideOf rows c=some ((sideL rows c,()),()):=by
 have hl:=h.1
 have:=fix_all (B:=fun d=>b_I_sideOf_3 d.1 d.2.1 d.2.2.1 d.2.2.2.1 d.2.2.2.2.1) (fun i=>(c,sideL (rows.take i) c,rows,(rows.length:Int),(i:Int),())) rows.length (r:=(sideL rows c,()))
  (fun i hi=>by
    show b_I_sideOf_3 c (sideL (rows.take i) c) rows rows.length i=_
    unfold b_I_sideOf_3
    have hs:(sideL (rows.take i) c).length≤1048576:=Nat.le_trans side_len (by simp;omega)
    rw[decide_eq_true (by omega:(i:Int)<(rows.length:Int)),cond_true,inB_lt hi,cond_true,toNat_cast,getD_of hi,side_next hi]
    cases(rows[i].1==c)
    ·rw[Bool.not_false,cond_true,roomB_ok (by simp;omega),cond_true,Option.bind_some]
     dsimp only
     rw[wrap64 (by omega) (by omega)]
     rfl
    ·rw[Bool.not_true,cond_false,Option.bind_some]
     dsimp only
     rw[wrap64 (by omega) (by omega)]
     rfl)
  (by
    show b_I_sideOf_3 c (sideL (rows.take rows.length) c) rows rows.length rows.length=_
    unfold b_I_sideOf_3
    rw[decide_eq_false (Int.lt_irrefl _),cond_false,List.take_length])
 unfold f_I_sideOf
 rw[show w_I_sideOf_3 (c,([]:PV S_string),rows,(rows.length:Int),0,())=_ from this]
 rfl
theorem old_S {g:PV Y_impl_Group}(h:SmR g.2.2.1):f_S_l6Old g=some ((sideL g.2.2.1 3,()),()):=by
 have hl:=h.1
 have:=fix_all (B:=fun d=>b_S_l6Old_3 d.1 d.2.1 d.2.2.1 d.2.2.2.1) (fun i=>(sideL (List.take i g.2.2.1) 3,g.2.2.1,(List.length g.2.2.1:Int),(i:Int),())) (List.length g.2.2.1) (r:=(sideL g.2.2.1 3,()))
  (fun i hi=>by
    show b_S_l6Old_3 (sideL (List.take i g.2.2.1) 3) g.2.2.1 (List.length g.2.2.1) i=_
    unfold b_S_l6Old_3
    have hs:(sideL (List.take i g.2.2.1) 3).length≤1048576:=Nat.le_trans side_len (by simp;omega)
    rw[decide_eq_true (by omega:(i:Int)<(List.length g.2.2.1:Int)),cond_true,inB_lt hi,cond_true,toNat_cast,getD_of hi,side_next hi]
    cases(g.2.2.1[i].1==3)
    ·rw[Bool.not_false,cond_true,roomB_ok (by simp;omega),cond_true,Option.bind_some]
     dsimp only
     rw[wrap64 (by omega) (by omega)]
     rfl
    ·rw[Bool.not_true,cond_false,Option.bind_some]
     dsimp only
     rw[wrap64 (by omega) (by omega)]
     rfl)
  (by
    show b_S_l6Old_3 (sideL (List.take (List.length g.2.2.1) g.2.2.1) 3) g.2.2.1 (List.length g.2.2.1) (List.length g.2.2.1)=_
    unfold b_S_l6Old_3
    rw[decide_eq_false (Int.lt_irrefl _),cond_false,List.take_length])
 unfold f_S_l6Old
 rw[show w_S_l6Old_3 ([],g.2.2.1,(List.length g.2.2.1:Int),0,())=_ from this]
 rfl
theorem new_S {g:PV Y_impl_Group}(h:SmR g.2.2.1):f_S_l6New g=some ((sideL g.2.2.1 2,()),()):=by
 have hl:=h.1
 have:=fix_all (B:=fun d=>b_S_l6New_3 d.1 d.2.1 d.2.2.1 d.2.2.2.1) (fun i=>(sideL (List.take i g.2.2.1) 2,g.2.2.1,(List.length g.2.2.1:Int),(i:Int),())) (List.length g.2.2.1) (r:=(sideL g.2.2.1 2,()))
  (fun i hi=>by
    show b_S_l6New_3 (sideL (List.take i g.2.2.1) 2) g.2.2.1 (List.length g.2.2.1) i=_
    unfold b_S_l6New_3
    have hs:(sideL (List.take i g.2.2.1) 2).length≤1048576:=Nat.le_trans side_len (by simp;omega)
    rw[decide_eq_true (by omega:(i:Int)<(List.length g.2.2.1:Int)),cond_true,inB_lt hi,cond_true,toNat_cast,getD_of hi,side_next hi]
    cases(g.2.2.1[i].1==2)
    ·rw[Bool.not_false,cond_true,roomB_ok (by simp;omega),cond_true,Option.bind_some]
     dsimp only
     rw[wrap64 (by omega) (by omega)]
     rfl
    ·rw[Bool.not_true,cond_false,Option.bind_some]
     dsimp only
     rw[wrap64 (by omega) (by omega)]
     rfl)
  (by
    show b_S_l6New_3 (sideL (List.take (List.length g.2.2.1) g.2.2.1) 2) g.2.2.1 (List.length g.2.2.1) (List.length g.2.2.1)=_
    unfold b_S_l6New_3
    rw[decide_eq_false (Int.lt_irrefl _),cond_false,List.take_length])
 unfold f_S_l6New
 rw[show w_S_l6New_3 ([],g.2.2.1,(List.length g.2.2.1:Int),0,())=_ from this]
 rfl
theorem prev_eq {rows:RW}{g:PV Y_impl_Group}(hg:g.2.2.1=rows){i:Nat}(hi:i<rows.length)(hl:rows.length≤1048576){x:PV Y_impl_Row}(hx:rows.getD i W0=x){c:Bool}:
 ((bif (decide ((i:Int)>0)) then
    bif (x.1==2) then
     bif inB (IntKind.wrap .i64 ((i:Int) -1)) (List.length g.2.2.1) then
      some (g,c,x,rows,(rows.length:Int),(i:Int),(((List.getD g.2.2.1 (IntKind.wrap .i64 ((i:Int) -1)).toNat (dflt Y_impl_Row)).1)==3),())
     else none
    else some (g,c,x,rows,(rows.length:Int),(i:Int),false,())
   else some (g,c,x,rows,(rows.length:Int),(i:Int),false,())):Option ((PV Y_impl_Group×PV .bool×PV Y_impl_Row×PV S_impl_Row×PV (.int .i64)×PV (.int .i64)×PV .bool×Unit)))=
   some (g,c,x,rows,(rows.length:Int),(i:Int),(decide ((i:Int)>0)&&((kd rows i==2)&&(kd rows (i -1)==3))),()):=by
 unfold kd
 rw[hx,hg]
 cases i with
 |zero=>rw[decide_eq_false (by omega:¬(((0:Nat):Int)>0))];rfl
 |succ j=>
  rw[decide_eq_true (by omega:((j+1:Nat):Int)>0),cond_true,Bool.true_and,show IntKind.wrap .i64 (((j+1:Nat):Int) -1)=(j:Int) from by rw[wrap64 (by omega) (by omega)];omega,inB_lt (by omega:j<rows.length),toNat_cast,Nat.add_sub_cancel]
  cases(x.1==2)<;>rfl
theorem rows_I {g:PV Y_impl_Group}{rows:RW}(hg:g.2.2.1=rows)(h:SmR rows):
 w_I_goodGroup_5 (g,false,rows,(rows.length:Int),0,())=some (if anyN rows.length (badRow rows) then .inr (false,()) else .inl (g,anyN rows.length (chg rows),())):=by
 have hl:=h.1
 have step:∀i,i<rows.length→b_I_goodGroup_5 g (anyN i (chg rows)) rows rows.length i=some (if badRow rows i then .inr (.inr (false,())) else .inl (g,anyN (i+1) (chg rows),rows,(rows.length:Int),((i+1:Nat):Int),())):=by
  intro i hi
  have hln:=h.line hi
  unfold b_I_goodGroup_5
  rw[decide_eq_true (by omega:(i:Int)<(rows.length:Int)),cond_true,inB_lt hi,cond_true,toNat_cast,anyN_succ]
  unfold badRow chg
  generalize hx:rows.getD i W0=x at*
  rw[in_I,Option.bind_some,line_I _ hln,Option.bind_some,prev_eq hg hi hl hx]
  rw[show kd rows i=x.1 from by unfold kd;rw[hx]]
  dsimp only
  unfold inI
  have e:IntKind.wrap .i64 ((i:Int)+1)=((i+1:Nat):Int):=by rw[wrap64 (by omega) (by omega)];omega
  cases decide (x.1≥1)&&decide (x.1≤3)
  ·rfl
  ·cases lineP x.2.1
   ·rfl
   ·simp only[Bool.not_true,cond_false,Option.bind_some,Bool.false_or]
    cases(decide ((i:Int)>0)&&((x.1==2)&&(kd rows (i -1)==3)))
    ·rw[cond_false]
     cases anyN i fun k=> !(kd rows k==1)
     ·rw[cond_false,Option.bind_some]
      dsimp only
      rw[e]
      rfl
     ·rw[cond_true,Option.bind_some]
      dsimp only
      rw[e]
      rfl
    ·rfl
 exact fix_anyN (B:=fun d=>b_I_goodGroup_5 d.1 d.2.1 d.2.2.1 d.2.2.2.1 d.2.2.2.2.1) rows.length (badRow rows) (fun i=>(g,anyN i (chg rows),rows,(rows.length:Int),(i:Int),())) (fun _=>.inr (false,())) (.inl (g,anyN rows.length (chg rows),()))
  (fun i hi hq=>by show b_I_goodGroup_5 g (anyN i (chg rows)) rows rows.length i=_;rw[step i hi,hq];rfl)
  (fun i hi hq=>by show b_I_goodGroup_5 g (anyN i (chg rows)) rows rows.length i=_;rw[step i hi,hq];rfl)
  (by
    show b_I_goodGroup_5 g (anyN rows.length (chg rows)) rows rows.length rows.length=_
    unfold b_I_goodGroup_5
    rw[decide_eq_false (Int.lt_irrefl _),cond_false])
theorem rows_S {g:PV Y_impl_Group}{rows:RW}(hg:g.2.2.1=rows)(h:SmR rows):
 w_S_l6Group_3 (g,false,rows,(rows.length:Int),0,())=some (if anyN rows.length (badRow rows) then .inr (false,()) else .inl (g,anyN rows.length (chg rows),())):=by
 have hl:=h.1
 have step:∀i,i<rows.length→b_S_l6Group_3 g (anyN i (chg rows)) rows rows.length i=some (if badRow rows i then .inr (.inr (false,())) else .inl (g,anyN (i+1) (chg rows),rows,(rows.length:Int),((i+1:Nat):Int),())):=by
  intro i hi
  have hln:=h.line hi
  unfold b_S_l6Group_3
  rw[decide_eq_true (by omega:(i:Int)<(rows.length:Int)),cond_true,inB_lt hi,cond_true,toNat_cast,anyN_succ]
  unfold badRow chg
  generalize hx:rows.getD i W0=x at*
  rw[in_S,Option.bind_some,line_S _ hln,Option.bind_some,prev_eq hg hi hl hx]
  rw[show kd rows i=x.1 from by unfold kd;rw[hx]]
  dsimp only
  unfold inI
  have e:IntKind.wrap .i64 ((i:Int)+1)=((i+1:Nat):Int):=by rw[wrap64 (by omega) (by omega)];omega
  cases decide (x.1≥1)&&decide (x.1≤3)
  ·rfl
  ·cases lineP x.2.1
   ·rfl
   ·simp only[Bool.not_true,cond_false,Option.bind_some,Bool.false_or]
    cases(decide ((i:Int)>0)&&((x.1==2)&&(kd rows (i -1)==3)))
    ·rw[cond_false]
     cases anyN i fun k=> !(kd rows k==1)
     ·rw[cond_false,Option.bind_some]
      dsimp only
      rw[e]
      rfl
     ·rw[cond_true,Option.bind_some]
      dsimp only
      rw[e]
      rfl
    ·rfl
 exact fix_anyN (B:=fun d=>b_S_l6Group_3 d.1 d.2.1 d.2.2.1 d.2.2.2.1 d.2.2.2.2.1) rows.length (badRow rows) (fun i=>(g,anyN i (chg rows),rows,(rows.length:Int),(i:Int),())) (fun _=>.inr (false,())) (.inl (g,anyN rows.length (chg rows),()))
  (fun i hi hq=>by show b_S_l6Group_3 g (anyN i (chg rows)) rows rows.length i=_;rw[step i hi,hq];rfl)
  (fun i hi hq=>by show b_S_l6Group_3 g (anyN i (chg rows)) rows rows.length i=_;rw[step i hi,hq];rfl)
  (by
    show b_S_l6Group_3 g (anyN rows.length (chg rows)) rows rows.length rows.length=_
    unfold b_S_l6Group_3
    rw[decide_eq_false (Int.lt_irrefl _),cond_false])
def goodG (g:PV Y_impl_Group):Bool:=
 inI g.1 0 999&&(inI g.2.1 0 999&&(inI (List.length g.2.2.1:Int) 1 80&&(!(anyN (List.length g.2.2.1) (badRow g.2.2.1))&&(anyN (List.length g.2.2.1) (chg g.2.2.1)&&
  (goodP (sideL g.2.2.1 3)&&(goodP (sideL g.2.2.1 2)&&(decide (IntKind.wrap .i64 (g.1+((sideL g.2.2.1 3).length:Int))≤1000)&&decide (IntKind.wrap .i64 (g.2.1+((sideL g.2.2.1 2).length:Int))≤1000))))))))
theorem group_I {g:PV Y_impl_Group}(h:SmR g.2.2.1):f_I_goodGroup g=some ((goodG g,()),()):=by
 unfold f_I_goodGroup goodG f_I_Group_old f_I_Group_fresh
 rw[in_I,in_I,in_I,Option.bind_some,Option.bind_some,Option.bind_some]
 dsimp only
 unfold inI
 cases decide (g.1≥0)&&decide (g.1≤999)
 ·rfl
 ·cases decide (g.2.1≥0)&&decide (g.2.1≤999)
  ·rfl
  ·cases decide ((List.length g.2.2.1:Int)≥1)&&decide ((List.length g.2.2.1:Int)≤80)
   ·rfl
   ·simp only[Bool.not_true,cond_false,Option.bind_some,Bool.true_and]
    rw[rows_I rfl h]
    cases anyN (List.length g.2.2.1) (badRow g.2.2.1)
    ·rw[if_neg (by simp),Option.bind_some]
     dsimp only
     rw[sideOf_I h,Option.bind_some,sideOf_I h,Option.bind_some,Option.bind_some,Option.bind_some]
     dsimp only
     rw[goodLines_I _ (side_sm h),Option.bind_some,goodLines_I _ (side_sm h),Option.bind_some]
     dsimp only
     cases anyN (List.length g.2.2.1) (chg g.2.2.1)<;>cases goodP (sideL g.2.2.1 3)<;>cases goodP (sideL g.2.2.1 2)<;>cases decide (IntKind.wrap .i64 (g.1+((sideL g.2.2.1 3).length:Int))≤1000)<;>rfl
    ·rfl
theorem group_S {g:PV Y_impl_Group}(h:SmR g.2.2.1):f_S_l6Group g=some ((goodG g,()),()):=by
 unfold f_S_l6Group goodG
 rw[rows_S rfl h]
 cases hb:anyN (List.length g.2.2.1) (badRow g.2.2.1)
 ·rw[if_neg (by simp),Option.bind_some]
  dsimp only
  cases hc:anyN (List.length g.2.2.1) (chg g.2.2.1)
  ·simp
  ·have hpos:1≤List.length g.2.2.1:=by
    obtain⟨i,hi,_⟩:=anyN_iff.1 hc
    omega
   rw[cond_true,in_S,in_S,Option.bind_some,Option.bind_some,old_S h,new_S h]
   simp only[Option.bind_some]
   rw[l5Lines_S _ (side_sm h),l5Lines_S _ (side_sm h)]
   simp only[Option.bind_some]
   unfold inI
   rw[decide_eq_true (by omega:(List.length g.2.2.1:Int)≥1),Bool.true_and]
   cases decide (g.1≥0)&&decide (g.1≤999)<;>cases decide (g.2.1≥0)&&decide (g.2.1≤999)<;>cases decide ((List.length g.2.2.1:Int)≤80)<;>cases goodP (sideL g.2.2.1 3)<;>cases goodP (sideL g.2.2.1 2)<;>
    cases decide (IntKind.wrap .i64 (g.1+((sideL g.2.2.1 3).length:Int))≤1000)<;>cases decide (IntKind.wrap .i64 (g.2.1+((sideL g.2.2.1 2).length:Int))≤1000)<;>rfl
 ·simp
end R
end

section
/- Lists of groups: both sides test them alike; groups that lead back. -/
open Go Go.Dn
namespace R
set_option linter.unusedVariables false
abbrev GR:=List (PV Y_impl_Group)
abbrev G0:PV Y_impl_Group:=dflt Y_impl_Group
def oldE (x:PV Y_impl_Group):Int:=IntKind.wrap .i64 (x.1+((sideL x.2.2.1 3).length:Int))
def newE (x:PV Y_impl_Group):Int:=IntKind.wrap .i64 (x.2.1+((sideL x.2.2.1 2).length:Int))
def badGr (g:GR)(k:Nat):Bool:=
 !(goodG (g.getD k G0))||(decide ((k:Int)>0)&&(decide ((g.getD k G0).1<oldE (g.getD (k -1) G0))||decide ((g.getD k G0).2.1<newE (g.getD (k -1) G0))))
def goodGs (g:GR):Bool:=decide (g.length≤20)&& !(anyN g.length (badGr g))
def SmG (g:GR):Prop:=g.length≤1048576∧∀x∈g,SmR (x:PV Y_impl_Group).2.2.1
theorem SmG.mem {g:GR}(h:SmG g){i:Nat}(hi:i<g.length):SmR (g.getD i G0).2.2.1:=by
 rw[getD_of hi]
 exact h.2 _ (List.getElem_mem hi)
theorem stepG_I {g:GR}(hs:SmG g){i:Nat}(hi:i<g.length):
 b_I_goodGroups_4 g g g.length i=some (if badGr g i then .inr (.inr (false,())) else .inl (g,g,(g.length:Int),(i:Int)+1,())):=by
 have hl:=hs.1
 have hm:=hs.mem hi
 unfold b_I_goodGroups_4
 rw[decide_eq_true (by omega:(i:Int)<(g.length:Int)),cond_true,inB_lt hi,cond_true,toNat_cast]
 unfold badGr f_I_Group_old f_I_Group_fresh
 generalize hx:g.getD i G0=x at*
 rw[group_I hm,Option.bind_some]
 dsimp only
 cases goodG x
 ·rfl
 ·rw[Bool.not_true,cond_false]
  cases i with
  |zero=>
   rw[decide_eq_false (by omega:¬(((0:Nat):Int)>0)),cond_false,Option.bind_some]
   dsimp only
   rw[wrap64 (by omega) (by omega)]
   rfl
  |succ j=>
   have hm':=hs.mem (show j<g.length by omega)
   rw[decide_eq_true (by omega:((j+1:Nat):Int)>0),cond_true,show IntKind.wrap .i64 (((j+1:Nat):Int) -1)=(j:Int) from by rw[wrap64 (by omega) (by omega)];omega,inB_lt (by omega:j<g.length),cond_true,cond_true,toNat_cast,Nat.add_sub_cancel]
   generalize hy:g.getD j G0=y at*
   rw[sideOf_I hm',Option.bind_some,Option.bind_some,sideOf_I hm',Option.bind_some,Option.bind_some,cond_true,cond_true]
   dsimp only
   unfold oldE newE
   cases decide (x.1<IntKind.wrap .i64 (y.1+((sideL y.2.2.1 3).length:Int)))
   ·rw[cond_false,Option.bind_some]
    dsimp only
    cases decide (x.2.1<IntKind.wrap .i64 (y.2.1+((sideL y.2.2.1 2).length:Int)))
    ·rw[cond_false,wrap64 (x:=((j+1:Nat):Int)+1) (by omega) (by omega)];rfl
    ·rfl
   ·rfl
theorem stepG_S {g:GR}(hs:SmG g){i:Nat}(hi:i<g.length):
 b_S_l6Good_2 g g g.length i=some (if badGr g i then .inr (.inr (false,())) else .inl (g,g,(g.length:Int),(i:Int)+1,())):=by
 have hl:=hs.1
 have hm:=hs.mem hi
 unfold b_S_l6Good_2
 rw[decide_eq_true (by omega:(i:Int)<(g.length:Int)),cond_true,inB_lt hi,cond_true,toNat_cast]
 unfold badGr
 generalize hx:g.getD i G0=x at*
 rw[group_S hm,Option.bind_some]
 dsimp only
 cases goodG x
 ·rfl
 ·rw[Bool.not_true,cond_false]
  cases i with
  |zero=>
   rw[decide_eq_false (by omega:¬(((0:Nat):Int)>0)),cond_false,Option.bind_some]
   dsimp only
   rw[wrap64 (by omega) (by omega)]
   rfl
  |succ j=>
   have hm':=hs.mem (show j<g.length by omega)
   rw[decide_eq_true (by omega:((j+1:Nat):Int)>0),cond_true,show IntKind.wrap .i64 (((j+1:Nat):Int) -1)=(j:Int) from by rw[wrap64 (by omega) (by omega)];omega,inB_lt (by omega:j<g.length),cond_true,cond_true,toNat_cast,Nat.add_sub_cancel]
   generalize hy:g.getD j G0=y at*
   rw[old_S hm',Option.bind_some,new_S hm',Option.bind_some,cond_true,cond_true]
   dsimp only
   unfold oldE newE
   cases decide (x.1<IntKind.wrap .i64 (y.1+((sideL y.2.2.1 3).length:Int)))
   ·rw[cond_false,Option.bind_some]
    dsimp only
    cases decide (x.2.1<IntKind.wrap .i64 (y.2.1+((sideL y.2.2.1 2).length:Int)))
    ·rw[cond_false,wrap64 (x:=((j+1:Nat):Int)+1) (by omega) (by omega)];rfl
    ·rfl
   ·rfl
theorem groups_I {g:GR}(hs:SmG g):f_I_goodGroups g=some ((goodGs g,()),()):=by
 have hl:=hs.1
 unfold f_I_goodGroups goodGs
 by_cases hn:g.length≤20
 ·rw[decide_eq_false (by omega:¬((g.length:Int)>20)),cond_false,decide_eq_true hn,Bool.true_and]
  rw[show w_I_goodGroups_4 (g,g,(g.length:Int),0,())=_ from fix_anyN (B:=fun d=>b_I_goodGroups_4 d.1 d.2.1 d.2.2.1 d.2.2.2.1) g.length (badGr g) (fun i=>(g,g,(g.length:Int),(i:Int),())) (fun _=>.inr (false,())) (.inl ())
   (fun i hi hq=>by show b_I_goodGroups_4 g g g.length i=_;rw[stepG_I hs hi,hq];rfl)
   (fun i hi hq=>by show b_I_goodGroups_4 g g g.length i=_;rw[stepG_I hs hi,hq];rfl)
   (by
     show b_I_goodGroups_4 g g g.length g.length=_
     unfold b_I_goodGroups_4
     rw[decide_eq_false (Int.lt_irrefl _),cond_false])]
  cases anyN g.length (badGr g)<;>rfl
 ·rw[decide_eq_true (by omega:(g.length:Int)>20),cond_true,decide_eq_false hn];rfl
theorem groups_S {g:GR}(hs:SmG g):f_S_l6Good g=some ((goodGs g,()),()):=by
 have hl:=hs.1
 unfold f_S_l6Good goodGs
 rw[show w_S_l6Good_2 (g,g,(g.length:Int),0,())=_ from fix_anyN (B:=fun d=>b_S_l6Good_2 d.1 d.2.1 d.2.2.1 d.2.2.2.1) g.length (badGr g) (fun i=>(g,g,(g.length:Int),(i:Int),())) (fun _=>.inr (false,())) (.inl (g,()))
    (fun i hi hq=>by show b_S_l6Good_2 g g g.length i=_;rw[stepG_S hs hi,hq];rfl)
    (fun i hi hq=>by show b_S_l6Good_2 g g g.length i=_;rw[stepG_S hs hi,hq];rfl)
    (by
      show b_S_l6Good_2 g g g.length g.length=_
      unfold b_S_l6Good_2
      rw[decide_eq_false (Int.lt_irrefl _),cond_false])]
 cases anyN g.length (badGr g)
 ·rw[if_neg (by simp),Option.bind_some]
  dsimp only
  by_cases hn:g.length≤20
  ·rw[decide_eq_true (by omega:(g.length:Int)≤20),decide_eq_true hn];rfl
  ·rw[decide_eq_false (by omega:¬(g.length:Int)≤20),decide_eq_false hn];rfl
 ·rw[if_pos rfl];simp
theorem SmG.of {e:TypeId}{g:GR}(h:tot (.slice e Y_impl_Group) g≤1048576):SmG g:=by
 refine⟨?_,fun x hx=> ?_⟩
 ·have h':=h
  rw[tot_slice] at h'
  omega
 ·have:=tot_all h x hx
  refine⟨?_,fun r hr=> ?_⟩
  ·simp only[tot] at this
   omega
  ·have h2:tot S_impl_Row x.2.2.1≤1048576:=by
    simp only[tot] at this ⊢
    omega
   have:=tot_all (e:=_) h2 r hr
   simp only[tot] at this
   omega
end R
end

section
/- Numbers, ranges and rows as texts: both sides write the same. -/
open Go Go.Dn
namespace R
set_option linter.unusedVariables false
theorem wrap8 {x:Int}(h1:0≤x)(h2:x≤255):IntKind.wrap .u8 x=x:=by
 simp[IntKind.wrap,IntKind.signed,IntKind.bits]
 omega
abbrev dec (n:Nat):List UInt8:=Lib.decDigits n
theorem dec_len (n:Nat)(h:n≤1000000):(dec n).length≤21:=by
 have:=Lib.itoa_length_le (n:Int) (by omega) (by omega)
 rwa [Lib.itoa_nonneg] at this
theorem dig_one {n:Nat}(h:n<10):bytesOfInts [IntKind.wrap .u8 (IntKind.wrap .i64 (48+(n:Int)))]=[UInt8.ofNat (48+n)]:=by
 rw[wrap64 (by omega) (by omega),wrap8 (by omega) (by omega)]
 show[UInt8.ofNat ((48+(n:Int)).toNat)]=_
 congr 2
theorem num_n:∀(f n:Nat),n<f→n≤1000000→fn_S_l1Num f (n:Int)=some ((dec n,()),())
 |0,n,h,_=>by omega
 |f+1,n,h,hb=>by
  show fr_S_l1Num (fn_S_l1Num f) (n:Int)=_
  unfold fr_S_l1Num
  by_cases hn:n<10
  ·rw[decide_eq_true (by omega:(n:Int)<10),cond_true,dig_one hn,show dec n=_ from Lib.decDigits_one hn]
  ·rw[decide_eq_false (by omega:¬(n:Int)<10),cond_false,show((10:Nat)==0)=false from rfl,cond_false]
   rw[show(n:Int).tdiv 10=((n/10:Nat):Int) from by rw[Int.tdiv_eq_ediv_of_nonneg (by omega)];omega,show(n:Int).tmod 10=((n%10:Nat):Int) from by rw[Int.tmod_eq_emod_of_nonneg (by omega)];omega]
   rw[wrap64 (x:=((n/10:Nat):Int)) (by omega) (by omega),num_n f (n/10) (by omega) (by omega),Option.bind_some,cond_false]
   have hl:=dec_len (n/10) (by omega)
   rw[dig_one (by omega)]
   dsimp only
   rw[decide_eq_true (by simp only[List.length_cons,List.length_nil];omega),cond_true]
   rw[show dec n=dec (n/10)++[UInt8.ofNat (48+n%10)] from by
    show Lib.decDigits n=_
    rw[Lib.decDigits,dif_neg hn]]
theorem num_S (n:Nat)(h:n≤1000000):f_S_l1Num (n:Int)=some ((dec n,()),()):=by
 unfold f_S_l1Num
 exact num_n _ n (by simp) h
def numb (a m:Nat):Nat:=if 0<m then a+1 else a
theorem numb_le {a m:Nat}(h:a≤10000):numb a m≤10001:=by unfold numb;split<;>omega
theorem numb_eq (a m:Nat)(ha:a≤10000):(bif decide ((m:Int)>0) then some ((IntKind.wrap .i64 ((a:Int)+1),()),()) else some (((a:Int),()),()):Option (PVs [.int .i64]×PVs []))=some ((((numb a m:Nat):Int),()),()):=by
 unfold numb
 by_cases h:0<m
 ·rw[decide_eq_true (by omega:(m:Int)>0),if_pos h,cond_true,wrap64 (by omega) (by omega)];try rfl
 ·rw[decide_eq_false (by omega:¬(m:Int)>0),if_neg h,cond_false];try rfl
theorem number_S (a m:Nat)(ha:a≤10000):f_S_l4Number (a:Int) (m:Int)=some ((((numb a m:Nat):Int),()),()):=by unfold f_S_l4Number;exact numb_eq a m ha
def RowOk (r:PV Y_impl_Row):Prop:=(r.1=1∨r.1=2∨r.1=3)∧1≤List.length r.2.1∧List.length r.2.1≤30
theorem rowsOk {g:PV Y_impl_Group}(h:goodG g=true):List.length g.2.2.1≤80∧∀r∈(g.2.2.1:RW),RowOk r:=by
 unfold goodG inI at h
 simp only[Bool.and_eq_true,decide_eq_true_eq,Bool.not_eq_true'] at h
 obtain⟨_,_,⟨h1,h2⟩,h3,_⟩:=h
 refine⟨by omega,fun r hr=> ?_⟩
 obtain⟨k,hk,rfl⟩:=List.mem_iff_getElem.1 hr
 have hb:badRow g.2.2.1 k=false:=by
  cases hb:badRow g.2.2.1 k with
  |false=>rfl
  |true=>rw[anyN_iff.2 ⟨k,hk,hb⟩] at h3;cases h3
 unfold badRow inI kd at hb
 rw[getD_of hk] at hb
 simp only[Bool.or_eq_false_iff,Bool.not_eq_false',Bool.and_eq_true,decide_eq_true_eq] at hb
 obtain⟨⟨b1,b2⟩,b3,_⟩:=hb
 have:=line_len b3
 have e:∀z:Int,z≥1→z≤3→z=1∨z=2∨z=3:=fun z _ _=>by omega
 exact⟨e _ b1 b2,this.1,this.2⟩
theorem foldl_app {α:Type}(f:α→List UInt8):∀(l:List α) (a:List UInt8),l.foldl (fun a r=>a++f r) a=a++l.flatMap f
 |[],a=>by simp
 |x::l,a=>by rw[List.foldl_cons,foldl_app f l,List.flatMap_cons,List.append_assoc]
theorem group_facts {x:PV Y_impl_Group}(h:goodG x=true):(∃a:Nat,x.1=(a:Int)∧a≤999)∧(∃b:Nat,x.2.1=(b:Int)∧b≤999)∧(sideL x.2.2.1 3).length≤80∧(sideL x.2.2.1 2).length≤80:=by
 obtain⟨h80,_⟩:=rowsOk h
 unfold goodG inI at h
 simp only[Bool.and_eq_true,decide_eq_true_eq,Bool.not_eq_true'] at h
 obtain⟨⟨a1,a2⟩,⟨b1,b2⟩,_⟩:=h
 have e:∀z:Int,z≥0→z≤999→∃a:Nat,z=(a:Int)∧a≤999:=fun z _ _=>⟨z.toNat,by omega,by omega⟩
 refine⟨e _ a1 a2,e _ b1 b2,Nat.le_trans side_len h80,Nat.le_trans side_len h80⟩
theorem good_mem' {g:GR}(hg:goodGs g=true){i:Nat}(hi:i<g.length):goodG g[i]=true∧g.length≤20:=by
 unfold goodGs at hg
 simp only[Bool.and_eq_true,decide_eq_true_eq,Bool.not_eq_true'] at hg
 obtain⟨h1,h2⟩:=hg
 refine⟨?_,h1⟩
 cases hb:goodG g[i] with
 |true=>rfl
 |false=>
  have:anyN g.length (badGr g)=true:=anyN_iff.2 ⟨i,hi,by unfold badGr;rw[getD_of hi,hb];rfl⟩
  rw[this] at h2;cases h2
end R
end

section
/- Runs of rows that change something. -/
open Go Go.Dn
namespace R
set_option linter.unusedVariables false
def lo (rows:RW):Nat→Nat
 |0=>0
 |k+1=>bif kd rows k==1 then k+1 else lo rows k
def hiF (rows:RW):Nat→Nat→Nat
 |0,k=>k
 |f+1,k=>bif kd rows k==1 then k else hiF rows f (k+1)
def hi (rows:RW)(k:Nat):Nat:=hiF rows (rows.length -k) k
def anyC (rows:RW)(c:Int)(i j:Nat):Bool:=((rows.take j).drop i).any fun(r:PV Y_impl_Row)=>r.1==c
def runA (rows:RW)(c:Int)(k:Nat):Bool:=anyC rows c (lo rows k) (hi rows k)
theorem anyC_self {rows:RW}{c:Int}{i:Nat}(h:i≤rows.length):anyC rows c i i=false:=by
 unfold anyC
 rw[List.drop_eq_nil_of_le (by simp;omega)]
 rfl
theorem anyC_succ {rows:RW}{c:Int}{i j:Nat}(hij:i≤j)(hj:j<rows.length):anyC rows c i (j+1)=(anyC rows c i j||(kd rows j==c)):=by
 unfold anyC kd
 rw[←List.take_append_getElem hj,List.drop_append_of_le_length (by simp;omega),List.any_append,getD_of hj]
 simp
theorem anyC_mem {rows:RW}{c:Int}{i j k:Nat}(h1:i≤k)(h2:k<j)(hj:j≤rows.length)(hk:kd rows k=c):anyC rows c i j=true:=by
 unfold anyC
 rw[List.any_eq_true]
 have hk':k<rows.length:=by omega
 refine⟨rows[k],?_,?_⟩
 ·rw[List.mem_iff_getElem]
  exact⟨k -i,by simp;omega,by simp[show i+(k -i)=k from by omega]⟩
 ·unfold kd at hk
  rw[getD_of hk'] at hk
  rw[hk]
  exact beq_self_eq_true c
theorem lo_le (rows:RW):∀k,lo rows k≤k
 |0=>Nat.le_refl _
 |k+1=>by
  simp only[lo]
  have:=lo_le rows k
  cases(kd rows k==1)
  ·rw[cond_false];omega
  ·rw[cond_true];omega
theorem lo_run {rows:RW}{i:Nat}(hi0:lo rows i=i):∀k,i≤k→(∀m,i≤m→m<k→(kd rows m==1)=false)→lo rows k=i
 |0,h,_=>by
  have:i=0:=by omega
  subst this;rfl
 |k+1,h,hm=>by
  by_cases e:i=k+1
  ·rw[←e];exact hi0
  ·simp only[lo]
   rw[hm k (by omega) (by omega),cond_false]
   exact lo_run hi0 k (by omega) fun m h1 h2=>hm m h1 (by omega)
theorem hiF_spec (rows:RW):∀f k,k≤hiF rows f k∧hiF rows f k≤k+f∧(∀m,k≤m→m<hiF rows f k→(kd rows m==1)=false)∧(hiF rows f k<k+f→(kd rows (hiF rows f k)==1)=true)
 |0,k=>⟨Nat.le_refl _,Nat.le_refl _,fun m h1 h2=>by simp only[hiF] at h2;omega,fun h=>by simp only[hiF] at h;omega⟩
 |f+1,k=>by
  simp only[hiF]
  cases h:(kd rows k==1)
  ·rw[cond_false]
   obtain⟨a1,a2,a3,a4⟩:=hiF_spec rows f (k+1)
   refine⟨by omega,by omega,fun m h1 h2=> ?_,fun hh=>a4 (by omega)⟩
   by_cases e:m=k
   ·subst e;exact h
   ·exact a3 m (by omega) h2
  ·rw[cond_true]
   exact⟨Nat.le_refl _,by omega,fun m h1 h2=>by omega,fun _=>h⟩
theorem hi_spec {rows:RW}{k:Nat}(hk:k≤rows.length):k≤hi rows k∧hi rows k≤rows.length∧(∀m,k≤m→m<hi rows k→(kd rows m==1)=false)∧(hi rows k<rows.length→(kd rows (hi rows k)==1)=true):=by
 obtain⟨a1,a2,a3,a4⟩:=hiF_spec rows (rows.length -k) k
 unfold hi
 exact⟨a1,by omega,a3,fun h=>a4 (by omega)⟩
theorem hi_run {rows:RW}{i k:Nat}(hin:i≤rows.length)(h1:i≤k)(h2:k<hi rows i):hi rows k=hi rows i:=by
 obtain⟨a1,a2,a3,a4⟩:=hi_spec hin
 obtain⟨b1,b2,b3,b4⟩:=hi_spec (rows:=rows) (k:=k) (by omega)
 rcases Nat.lt_trichotomy (hi rows k) (hi rows i) with h|h|h
 ·have e1:=b4 (by omega)
  rw[a3 (hi rows k) (by omega) h] at e1
  cases e1
 ·exact h
 ·have e1:=a4 (by omega)
  rw[b3 (hi rows i) (by omega) h] at e1
  cases e1
theorem run_lo {g:PV Y_impl_Group}{rows:RW}(hg:g.2.2.1=rows)(hl:rows.length≤1048576){c e:Int}:∀k,k≤rows.length→w_I_Group_runHas_2 (g,c,(k:Int),e,())=some (g,c,(lo rows k:Int),e,())
 |0,_=>by
  refine fix_end (B:=fun d=>b_I_Group_runHas_2 d.1 d.2.1 d.2.2.1 d.2.2.2.1) ?_
  show b_I_Group_runHas_2 g c ((0:Nat):Int) e=_
  unfold b_I_Group_runHas_2
  rw[decide_eq_false (by omega:¬(((0:Nat):Int)>0)),cond_false]
  rfl
 |k+1,hk=>by
  have w1:IntKind.wrap .i64 (((k+1:Nat):Int) -1)=(k:Int):=by rw[wrap64 (by omega) (by omega)];omega
  have hs:b_I_Group_runHas_2 g c ((k+1:Nat):Int) e=some (bif kd rows k==1 then .inr (g,c,((k+1:Nat):Int),e,()) else .inl (g,c,(k:Int),e,())):=by
   unfold b_I_Group_runHas_2
   rw[hg,decide_eq_true (by omega:((k+1:Nat):Int)>0),cond_true,w1,inB_lt (by omega:k<rows.length),cond_true,toNat_cast]
   unfold kd
   cases((rows.getD k W0).1==1)<;>rfl
  simp only[lo]
  cases h:(kd rows k==1)
  ·rw[h,cond_false] at hs
   rw[cond_false]
   exact(fix_go (B:=fun d=>b_I_Group_runHas_2 d.1 d.2.1 d.2.2.1 d.2.2.2.1) hs).trans (run_lo hg hl k (by omega))
  ·rw[h,cond_true] at hs
   rw[cond_true]
   exact fix_end (B:=fun d=>b_I_Group_runHas_2 d.1 d.2.1 d.2.2.1 d.2.2.2.1) hs
theorem run_hi {g:PV Y_impl_Group}{rows:RW}(hg:g.2.2.1=rows)(hl:rows.length≤1048576){c e:Int}:∀f k,rows.length -k=f→k≤rows.length→w_I_Group_runHas_4 (g,c,e,(k:Int),())=some (g,c,e,(hiF rows f k:Int),())
 |0,k,hf,hk=>by
  refine fix_end (B:=fun d=>b_I_Group_runHas_4 d.1 d.2.1 d.2.2.1 d.2.2.2.1) ?_
  show b_I_Group_runHas_4 g c e (k:Int)=_
  unfold b_I_Group_runHas_4
  rw[hg,decide_eq_false (by omega:¬((k:Int)<(rows.length:Int))),cond_false]
  rfl
 |f+1,k,hf,hk=>by
  have w1:IntKind.wrap .i64 ((k:Int)+1)=((k+1:Nat):Int):=by rw[wrap64 (by omega) (by omega)];omega
  have hs:b_I_Group_runHas_4 g c e (k:Int)=some (bif kd rows k==1 then .inr (g,c,e,(k:Int),()) else .inl (g,c,e,((k+1:Nat):Int),())):=by
   unfold b_I_Group_runHas_4
   rw[hg,decide_eq_true (by omega:(k:Int)<(rows.length:Int)),cond_true,inB_lt (by omega:k<rows.length),cond_true,toNat_cast,w1]
   unfold kd
   cases((rows.getD k W0).1==1)<;>rfl
  simp only[hiF]
  cases h:(kd rows k==1)
  ·rw[h,cond_false] at hs
   rw[cond_false]
   exact(fix_go (B:=fun d=>b_I_Group_runHas_4 d.1 d.2.1 d.2.2.1 d.2.2.2.1) hs).trans (run_hi hg hl f (k+1) (by omega) (by omega))
  ·rw[h,cond_true] at hs
   rw[cond_true]
   exact fix_end (B:=fun d=>b_I_Group_runHas_4 d.1 d.2.1 d.2.2.1 d.2.2.2.1) hs
theorem runHas_I {g:PV Y_impl_Group}{rows:RW}(hg:g.2.2.1=rows)(hl:rows.length≤1048576){k:Nat}(hk:k<rows.length)(c:Int):f_I_Group_runHas g (k:Int) c=some ((runA rows c k,()),()):=by
 have h1:=lo_le rows k
 obtain⟨h2,h3,_,_⟩:=hi_spec (rows:=rows) (k:=k) (by omega)
 have hcut:cutL (lo rows k:Int) (hi rows k:Int) rows=(rows.take (hi rows k)).drop (lo rows k):=by unfold cutL;simp
 have hlen:((rows.take (hi rows k)).drop (lo rows k)).length≤1048576:=by simp;omega
 unfold f_I_Group_runHas
 rw[run_lo hg hl k (by omega),Option.bind_some]
 dsimp only
 rw[run_hi hg hl _ k rfl (by omega),Option.bind_some]
 dsimp only
 rw[show hiF rows (rows.length -k) k=hi rows k from rfl,hg]
 rw[show cutB (lo rows k:Int) (hi rows k:Int) rows.length=true from by unfold cutB;simp;omega,cond_true,hcut]
 unfold runA anyC
 generalize (rows.take (hi rows k)).drop (lo rows k)=xs at*
 rw[show w_I_Group_runHas_266_2 (g,c,(lo rows k:Int),(hi rows k:Int),rows,(lo rows k:Int),(hi rows k:Int),xs,xs,false,xs,xs,(xs.length:Int),0,())=_ from
  fix_any (B:=fun d=>b_I_Group_runHas_266_2 d.1 d.2.1 d.2.2.1 d.2.2.2.1 d.2.2.2.2.1 d.2.2.2.2.2.1 d.2.2.2.2.2.2.1 d.2.2.2.2.2.2.2.1 d.2.2.2.2.2.2.2.2.1 d.2.2.2.2.2.2.2.2.2.1 d.2.2.2.2.2.2.2.2.2.2.1 d.2.2.2.2.2.2.2.2.2.2.2.1 d.2.2.2.2.2.2.2.2.2.2.2.2.1 d.2.2.2.2.2.2.2.2.2.2.2.2.2.1) xs (fun(r:PV Y_impl_Row)=>r.1==c)
   (fun i=>(g,c,(lo rows k:Int),(hi rows k:Int),rows,(lo rows k:Int),(hi rows k:Int),xs,xs,false,xs,xs,(xs.length:Int),(i:Int),()))
   (fun i=>.inr (g,c,(lo rows k:Int),(hi rows k:Int),rows,(lo rows k:Int),(hi rows k:Int),xs,xs,false,xs,(i:Int),())) (.inl (g,c,(lo rows k:Int),(hi rows k:Int),rows,(lo rows k:Int),(hi rows k:Int),xs,xs,false,xs,()))
   (fun i hi' hq=>by
     show b_I_Group_runHas_266_2 _ c _ _ _ _ _ _ _ _ _ xs xs.length i=_
     unfold b_I_Group_runHas_266_2
     rw[decide_eq_true (by omega:(i:Int)<(xs.length:Int)),cond_true,inB_lt hi',cond_true,toNat_cast,getD_of hi',hq,cond_false,wrap64 (by omega) (by omega)];rfl)
   (fun i hi' hq=>by
     show b_I_Group_runHas_266_2 _ c _ _ _ _ _ _ _ _ _ xs xs.length i=_
     unfold b_I_Group_runHas_266_2
     rw[decide_eq_true (by omega:(i:Int)<(xs.length:Int)),cond_true,inB_lt hi',cond_true,toNat_cast,getD_of hi',hq,cond_true])
   (by
     show b_I_Group_runHas_266_2 _ c _ _ _ _ _ _ _ _ _ xs xs.length xs.length=_
     unfold b_I_Group_runHas_266_2
     rw[decide_eq_false (Int.lt_irrefl _),cond_false])]
 cases xs.any fun r=>r.1==c
 ·rfl
 ·simp
theorem scan_S {g:PV Y_impl_Group}{rows:RW}(hg:g.2.2.1=rows)(hl:rows.length≤1048576){u v:List Bool}{i:Nat}:∀f j,rows.length -j=f→i≤j→j≤rows.length→
 w_S_l8Runs_7 (g,(rows.length:Int),u,v,(i:Int),(j:Int),anyC rows 2 i j,anyC rows 3 i j,())=some (g,(rows.length:Int),u,v,(i:Int),(hiF rows f j:Int),anyC rows 2 i (hiF rows f j),anyC rows 3 i (hiF rows f j),())
 |0,j,hf,hij,hj=>by
  refine fix_end (B:=fun d=>b_S_l8Runs_7 d.1 d.2.1 d.2.2.1 d.2.2.2.1 d.2.2.2.2.1 d.2.2.2.2.2.1 d.2.2.2.2.2.2.1 d.2.2.2.2.2.2.2.1) ?_
  show b_S_l8Runs_7 g rows.length u v i j (anyC rows 2 i j) (anyC rows 3 i j)=_
  unfold b_S_l8Runs_7
  rw[decide_eq_false (by omega:¬((j:Int)<(rows.length:Int))),cond_false]
  rfl
 |f+1,j,hf,hij,hj=>by
  have hj':j<rows.length:=by omega
  have w1:IntKind.wrap .i64 ((j:Int)+1)=((j+1:Nat):Int):=by rw[wrap64 (by omega) (by omega)];omega
  have hs:b_S_l8Runs_7 g rows.length u v i j (anyC rows 2 i j) (anyC rows 3 i j)=some (bif kd rows j==1 then .inr (g,(rows.length:Int),u,v,(i:Int),(j:Int),anyC rows 2 i j,anyC rows 3 i j,())
   else .inl (g,(rows.length:Int),u,v,(i:Int),((j+1:Nat):Int),anyC rows 2 i (j+1),anyC rows 3 i (j+1),())):=by
   unfold b_S_l8Runs_7
   rw[hg,anyC_succ hij hj',anyC_succ hij hj',decide_eq_true (by omega:(j:Int)<(rows.length:Int)),cond_true,inB_lt hj',cond_true,toNat_cast]
   unfold kd
   cases((rows.getD j W0).1==1)
   ·rw[Bool.not_false,cond_true]
    cases anyC rows 2 i j
    ·rw[cond_false,cond_true,Option.bind_some]
     dsimp only
     cases anyC rows 3 i j
     ·rw[cond_false,hg,inB_lt hj',cond_true,Option.bind_some]
      dsimp only
      rw[w1,toNat_cast]
      rfl
     ·rw[cond_true,Option.bind_some]
      dsimp only
      rw[w1]
      rfl
    ·rw[cond_true,Option.bind_some]
     dsimp only
     cases anyC rows 3 i j
     ·rw[cond_false,hg,inB_lt hj',cond_true,Option.bind_some]
      dsimp only
      rw[w1,toNat_cast]
      rfl
     ·rw[cond_true,Option.bind_some]
      dsimp only
      rw[w1]
      rfl
   ·rfl
  simp only[hiF]
  cases h:(kd rows j==1)
  ·rw[h,cond_false] at hs
   rw[cond_false]
   exact(fix_go (B:=fun d=>b_S_l8Runs_7 d.1 d.2.1 d.2.2.1 d.2.2.2.1 d.2.2.2.2.1 d.2.2.2.2.2.1 d.2.2.2.2.2.2.1 d.2.2.2.2.2.2.2.1) hs).trans (scan_S hg hl f (j+1) (by omega) (by omega) (by omega))
  ·rw[h,cond_true] at hs
   rw[cond_true]
   exact fix_end (B:=fun d=>b_S_l8Runs_7 d.1 d.2.1 d.2.2.1 d.2.2.2.1 d.2.2.2.2.1 d.2.2.2.2.2.1 d.2.2.2.2.2.2.1 d.2.2.2.2.2.2.2.1) hs
def between (i m:Nat)(a:Bool)(f:Nat→Bool)(k:Nat):Bool:=if i≤k∧k<i+m then a else f k
theorem between_set {n i m:Nat}{a:Bool}{f:Nat→Bool}:(mkT n (between i m a f)).set (i+m) a=mkT n (between i (m+1) a f):=by
 rw[mkT_set]
 refine mkT_ext fun r hr=> ?_
 unfold between
 by_cases h:r=i+m
 ·rw[if_pos h,if_pos (by omega)]
 ·rw[if_neg h]
  by_cases h2:i≤r∧r<i+m
  ·rw[if_pos h2,if_pos (by omega)]
  ·rw[if_neg h2,if_neg (by omega)]
theorem fill_S {g:PV Y_impl_Group}{n i j:Nat}(hn:n≤1048576)(hij:i≤j)(hj:j≤n){a b:Bool}{f h:Nat→Bool}:
 w_S_l8Runs_12 (g,(n:Int),mkT n f,mkT n h,(i:Int),(j:Int),a,b,(i:Int),())=some (g,(n:Int),mkT n (between i (j -i) a f),mkT n (between i (j -i) b h),(i:Int),(j:Int),()):=by
 have:=fix_all (B:=fun d=>b_S_l8Runs_12 d.1 d.2.1 d.2.2.1 d.2.2.2.1 d.2.2.2.2.1 d.2.2.2.2.2.1 d.2.2.2.2.2.2.1 d.2.2.2.2.2.2.2.1 d.2.2.2.2.2.2.2.2.1) (fun m=>(g,(n:Int),mkT n (between i m a f),mkT n (between i m b h),(i:Int),(j:Int),a,b,((i+m:Nat):Int),())) (j -i)
  (r:=(g,(n:Int),mkT n (between i (j -i) a f),mkT n (between i (j -i) b h),(i:Int),(j:Int),()))
  (fun m hm=>by
    show b_S_l8Runs_12 g n (mkT n (between i m a f)) (mkT n (between i m b h)) i j a b ((i+m:Nat):Int)=_
    unfold b_S_l8Runs_12
    rw[decide_eq_true (by omega:((i+m:Nat):Int)<(j:Int)),cond_true,inB_lt (by rw[mkT_len];omega),cond_true,inB_lt (by rw[mkT_len];omega),cond_true,toNat_cast,between_set,between_set,wrap64 (by omega) (by omega)]
    simp[Int.add_assoc])
  (by
    show b_S_l8Runs_12 g n _ _ i j a b ((i+(j -i):Nat):Int)=_
    unfold b_S_l8Runs_12
    rw[decide_eq_false (by omega:¬(((i+(j -i):Nat):Int)<(j:Int))),cond_false])
 have e:∀(x:Bool) (f:Nat→Bool),mkT n f=mkT n (between i 0 x f):=fun x f=>mkT_ext fun r _=>by unfold between;rw[if_neg (by omega)]
 rw[show mkT n f=mkT n (between i 0 a f) from e a f,show mkT n h=mkT n (between i 0 b h) from e b h]
 rw[←show mkT n f=mkT n (between i 0 a f) from e a f,←show mkT n h=mkT n (between i 0 b h) from e b h] at this ⊢
 exact this
def told (rows:RW)(c:Int)(i:Nat)(k:Nat):Bool:=decide (k<i)&&(!(kd rows k==1)&&runA rows c k)
theorem told_next {rows:RW}{c:Int}{i:Nat}(hin:i<rows.length)(hlo:(kd rows i==1)=false→lo rows i=i){k:Nat}(hk:k<rows.length):
 between i (hi rows i -i) (anyC rows c i (hi rows i)) (told rows c i) k=told rows c (max (hi rows i) (i+1)) k:=by
 obtain⟨a1,a2,a3,a4⟩:=hi_spec (rows:=rows) (k:=i) (by omega)
 unfold between told
 by_cases h:i≤k∧k<i+(hi rows i -i)
 ·rw[if_pos h]
  have hk1:k<hi rows i:=by omega
  have hki:=a3 k h.1 hk1
  have hi1:=a3 i (Nat.le_refl _) (by omega)
  have e1:=lo_run (hlo hi1) k h.1 fun m m1 m2=>a3 m m1 (by omega)
  have e2:=hi_run (by omega:i≤rows.length) h.1 hk1
  unfold runA
  rw[e1,e2,hki,decide_eq_true (by omega:k<max (hi rows i) (i+1))]
  rfl
 ·rw[if_neg h]
  by_cases hki:k<i
  ·rw[decide_eq_true hki,decide_eq_true (by omega:k<max (hi rows i) (i+1))]
  ·rw[decide_eq_false hki]
   by_cases hm:k<max (hi rows i) (i+1)
   ·have:k=i:=by omega
    subst this
    have hh:hi rows k=k:=by omega
    have:=a4 (by omega)
    rw[hh] at this
    rw[decide_eq_true hm,this]
    rfl
   ·rw[decide_eq_false hm]
theorem runs_loop {g:PV Y_impl_Group}{rows:RW}(hg:g.2.2.1=rows)(hl:rows.length≤1048576):∀f i,rows.length -i≤f→i≤rows.length→((kd rows i==1)=false→i<rows.length→lo rows i=i)→
 w_S_l8Runs_4 (g,(rows.length:Int),mkT rows.length (told rows 2 i),mkT rows.length (told rows 3 i),(i:Int),())=some (mkT rows.length (told rows 2 rows.length),mkT rows.length (told rows 3 rows.length),())
 |0,i,hf,hin,hlo=>by
  have:i=rows.length:=by omega
  subst this
  refine fix_end (B:=fun d=>b_S_l8Runs_4 d.1 d.2.1 d.2.2.1 d.2.2.2.1 d.2.2.2.2.1) ?_
  show b_S_l8Runs_4 g rows.length _ _ rows.length=_
  unfold b_S_l8Runs_4
  rw[decide_eq_false (Int.lt_irrefl _),cond_false]
 |f+1,i,hf,hin,hlo=>by
  by_cases hlt:i<rows.length
  ·obtain⟨a1,a2,a3,a4⟩:=hi_spec (rows:=rows) (k:=i) (by omega)
   have hs:b_S_l8Runs_4 g rows.length (mkT rows.length (told rows 2 i)) (mkT rows.length (told rows 3 i)) i=
    some (.inl (g,(rows.length:Int),mkT rows.length (told rows 2 (max (hi rows i) (i+1))),mkT rows.length (told rows 3 (max (hi rows i) (i+1))),((max (hi rows i) (i+1):Nat):Int),())):=by
    unfold b_S_l8Runs_4
    have s1:=scan_S (u:=mkT rows.length (told rows 2 i)) (v:=mkT rows.length (told rows 3 i)) (i:=i) hg hl _ i rfl (Nat.le_refl _) (by omega)
    rw[anyC_self (by omega),anyC_self (by omega)] at s1
    rw[decide_eq_true (by omega:(i:Int)<(rows.length:Int)),cond_true,s1,Option.bind_some]
    dsimp only
    rw[show hiF rows (rows.length -i) i=hi rows i from rfl,fill_S (by omega) a1 a2,Option.bind_some]
    dsimp only
    rw[wrap64 (by omega) (by omega)]
    have e:f_S_l1Most (hi rows i:Int) ((i:Int)+1)=some ((((max (hi rows i) (i+1):Nat):Int),()),()):=by
     unfold f_S_l1Most
     by_cases h:(hi rows i:Int)>(i:Int)+1
     ·rw[decide_eq_true h,cond_true,show max (hi rows i) (i+1)=hi rows i from by omega]
     ·rw[decide_eq_false h,cond_false,show max (hi rows i) (i+1)=i+1 from by omega];rfl
    rw[e,Option.bind_some]
    dsimp only
    rw[mkT_ext fun k hk=>told_next (c:=2) hlt (fun h=>hlo h hlt) hk,mkT_ext fun k hk=>told_next (c:=3) hlt (fun h=>hlo h hlt) hk]
   refine Eq.trans (fix_go (B:=fun d=>b_S_l8Runs_4 d.1 d.2.1 d.2.2.1 d.2.2.2.1 d.2.2.2.2.1) hs) ?_
   refine runs_loop hg hl f _ (by omega) (by omega) fun h hl2=> ?_
   by_cases hh:hi rows i≤i
   ·have e:max (hi rows i) (i+1)=i+1:=by omega
    have hii:hi rows i=i:=by omega
    have hk:=a4 (by omega)
    rw[hii] at hk
    rw[e]
    simp only[lo]
    rw[hk,cond_true]
   ·have e:max (hi rows i) (i+1)=hi rows i:=by omega
    rw[e] at h hl2
    rw[a4 hl2] at h
    cases h
  ·have:i=rows.length:=by omega
   subst this
   refine fix_end (B:=fun d=>b_S_l8Runs_4 d.1 d.2.1 d.2.2.1 d.2.2.2.1 d.2.2.2.2.1) ?_
   show b_S_l8Runs_4 g rows.length _ _ rows.length=_
   unfold b_S_l8Runs_4
   rw[decide_eq_false (Int.lt_irrefl _),cond_false]
theorem runs_S {g:PV Y_impl_Group}{rows:RW}(hg:g.2.2.1=rows)(hl:rows.length≤1048576):f_S_l8Runs g=some ((mkT rows.length (told rows 2 rows.length),mkT rows.length (told rows 3 rows.length),()),()):=by
 unfold f_S_l8Runs
 have e:∀c:Int,List.replicate rows.length false=mkT rows.length (told rows c 0):=fun c=>by
  rw[mkT_rep]
  exact mkT_ext fun k _=>by unfold told;rw[decide_eq_false (by omega)];rfl
 have:=runs_loop hg hl rows.length 0 (by omega) (by omega) (fun _ _=>rfl)
 rw[←e 2,←e 3] at this
 rw[hg,room_len (by omega),cond_true,cond_true,toNat_cast,show w_S_l8Runs_4 (g,(rows.length:Int),List.replicate rows.length false,List.replicate rows.length false,0,())=_ from this]
 rfl
end R
end

section
/- The text of one half of a group: both sides write the same. -/
open Go Go.Dn
namespace R
set_option linter.unusedVariables false
def showL (sign line:List UInt8):List UInt8:=bif endP line then sign++line else(sign++line)++[10,92,32,110,111,110,101,10]
def signL (rows:RW)(c:Int)(k:Nat):List UInt8:=
 bif !(kd rows k==1)&&runA rows c k then[33,32] else bif kd rows k==2 then[45,32] else bif kd rows k==3 then[43,32] else[32,32]
def pieceL (rows:RW)(c:Int)(k:Nat):List UInt8:=bif kd rows k==c then[] else showL (signL rows c k) (rows.getD k W0).2.1
def halfL (rows:RW)(c:Int):Nat→List UInt8
 |0=>[]
 |k+1=>halfL rows c k++pieceL rows c k
theorem show_I {sign line:List UInt8}(h1:sign.length≤100)(h2:line.length≤1048576):f_I_shown sign line=some ((showL sign line,()),()):=by
 unfold f_I_shown showL
 rw[ends_I _ (by omega),Option.bind_some]
 dsimp only
 cases endP line
 ·rw[cond_false,cond_false,decide_eq_true (by omega),cond_true,decide_eq_true (by simp;omega),cond_true,decide_eq_true (by simp;omega),cond_true]
  simp
 ·rw[cond_true,cond_true,decide_eq_true (by omega),cond_true]
theorem show_S {sign line:List UInt8}(h1:sign.length≤100)(h2:line.length≤1048576)(h3:1≤line.length):f_S_l5Shown sign line=some ((showL sign line,()),()):=by
 unfold f_S_l5Shown showL
 rw[ends_S _ h3 (by omega),Option.bind_some]
 dsimp only
 cases endP line
 ·rw[cond_false,cond_false,decide_eq_true (by omega),cond_true,decide_eq_true (by simp;omega),cond_true]
 ·rw[cond_true,cond_true,decide_eq_true (by omega),cond_true]
def RowsOk (rows:RW):Prop:=rows.length≤80∧∀k,k<rows.length→(kd rows k=1∨kd rows k=2∨kd rows k=3)∧1≤List.length (rows.getD k W0).2.1∧List.length (rows.getD k W0).2.1≤30
theorem sign_len (rows:RW)(c:Int)(k:Nat):(signL rows c k).length=2:=by
 unfold signL
 cases(!(kd rows k==1)&&runA rows c k)<;>cases(kd rows k==2)<;>cases(kd rows k==3)<;>rfl
theorem piece_len {rows:RW}{c:Int}(h:RowsOk rows){k:Nat}(hk:k<rows.length):(pieceL rows c k).length≤40:=by
 obtain⟨_,_,h3⟩:=h.2 k hk
 have:=sign_len rows c k
 unfold pieceL showL
 cases(kd rows k==c)
 ·rw[cond_false]
  cases endP (rows.getD k W0).2.1
  ·rw[cond_false,List.length_append,List.length_append];simp only[List.length_cons,List.length_nil];omega
  ·rw[cond_true,List.length_append];omega
 ·simp
theorem half_len {rows:RW}{c:Int}(h:RowsOk rows):∀k,k≤rows.length→(halfL rows c k).length≤40*k
 |0,_=>by simp[halfL]
 |k+1,hk=>by
  have h1:=half_len (c:=c) h k (by omega)
  have h2:=piece_len (c:=c) h (by omega:k<rows.length)
  simp only[halfL,List.length_append]
  omega
theorem sign_I2 {rows:RW}{k:Nat}(h:kd rows k=1∨kd rows k=2∨kd rows k=3):∃s:List UInt8,f_I_Row_sign (rows.getD k W0)=some ((s,()),())∧s++[32]=bif kd rows k==2 then[45,32] else bif kd rows k==3 then[43,32] else[32,32]:=by
 unfold f_I_Row_sign
 unfold kd at*
 rcases h with h|h|h
 ·rw[h];exact⟨[32],rfl,rfl⟩
 ·rw[h];exact⟨[45],rfl,rfl⟩
 ·rw[h];exact⟨[43],rfl,rfl⟩
theorem half_loop_I {g:PV Y_impl_Group}{rows:RW}(hg:g.2.2.1=rows)(h:RowsOk rows)(c:Int):f_I_Group_half g c=some ((halfL rows c rows.length,()),()):=by
 have hl:=h.1
 have:=fix_all (B:=fun d=>b_I_Group_half_3 d.1 d.2.1 d.2.2.1 d.2.2.2.1 d.2.2.2.2.1 d.2.2.2.2.2.1) (fun i=>(c,g,halfL rows c i,rows,(rows.length:Int),(i:Int),())) rows.length (r:=(halfL rows c rows.length,()))
  (fun i hi'=>by
    show b_I_Group_half_3 c g (halfL rows c i) rows rows.length i=_
    obtain⟨k1,k2,k3⟩:=h.2 i hi'
    have hlen:=half_len (c:=c) h i (by omega)
    have hpl:=piece_len (c:=c) h hi'
    have e:IntKind.wrap .i64 ((i:Int)+1)=((i+1:Nat):Int):=by rw[wrap64 (by omega) (by omega)];omega
    have hsl:=sign_len rows c i
    unfold b_I_Group_half_3
    rw[decide_eq_true (by omega:(i:Int)<(rows.length:Int)),cond_true,inB_lt hi',cond_true,toNat_cast,runHas_I hg (by omega) hi' c]
    simp only[halfL]
    have hp:pieceL rows c i=bif kd rows i==c then[] else showL (signL rows c i) (rows.getD i W0).2.1:=rfl
    have hkd:kd rows i=(rows.getD i W0).1:=rfl
    rw[←hkd]
    cases hc:(kd rows i==c)
    ·rw[hc,cond_false] at hp
     rw[hp] at hpl ⊢
     have hs:signL rows c i=bif !(kd rows i==1)&&runA rows c i then[33,32] else bif kd rows i==2 then[45,32] else bif kd rows i==3 then[43,32] else[32,32]:=rfl
     rw[cond_false,Option.bind_some]
     dsimp only
     have hb:((bif (!(kd rows i==1)) then some (c,g,halfL rows c i,rows.getD i W0,rows,(rows.length:Int),(i:Int),runA rows c i,()) else some (c,g,halfL rows c i,rows.getD i W0,rows,(rows.length:Int),(i:Int),false,())):
      Option ((PV (.int .i64)×PV Y_impl_Group×PV .str×PV Y_impl_Row×PV S_impl_Row×PV (.int .i64)×PV (.int .i64)×PV .bool×Unit)))=some (c,g,halfL rows c i,rows.getD i W0,rows,(rows.length:Int),(i:Int),(!(kd rows i==1)&&runA rows c i),()):=by
      cases(kd rows i==1)<;>rfl
     rw[hb,Option.bind_some]
     dsimp only
     cases hr:(!(kd rows i==1)&&runA rows c i)
     ·rw[hr,cond_false] at hs
      obtain⟨s,s1,s2⟩:=sign_I2 k1
      rw[cond_false,s1,Option.bind_some]
      dsimp only
      have s3:s++[32]=signL rows c i:=s2.trans hs.symm
      have s4:s.length+1=2:=by rw[←hsl,←s3];simp
      rw[decide_eq_true (by simp;omega),cond_true,s3,show_I (by omega) (by omega),Option.bind_some]
      dsimp only
      rw[decide_eq_true (by omega),cond_true,Option.bind_some]
      dsimp only
      rw[e]
     ·rw[hr,cond_true] at hs
      rw[cond_true,←hs,show_I (by omega) (by omega),Option.bind_some]
      dsimp only
      rw[decide_eq_true (by omega),cond_true,Option.bind_some]
      dsimp only
      rw[e]
    ·rw[hc,cond_true] at hp
     rw[hp,cond_true,Option.bind_some,List.append_nil]
     dsimp only
     rw[e])
  (by
    show b_I_Group_half_3 c g (halfL rows c rows.length) rows rows.length rows.length=_
    unfold b_I_Group_half_3
    rw[decide_eq_false (Int.lt_irrefl _),cond_false])
 unfold f_I_Group_half
 rw[hg,show w_I_Group_half_3 (c,g,[],rows,(rows.length:Int),0,())=_ from this]
 rfl
theorem told_at {rows:RW}{c:Int}{k:Nat}(hk:k<rows.length):(mkT rows.length (told rows c rows.length)).getD k false=(!(kd rows k==1)&&runA rows c k):=by
 rw[mkT_get hk]
 unfold told
 rw[decide_eq_true hk]
 rfl
theorem self_in {rows:RW}{k:Nat}(hk:k<rows.length)(h1:(kd rows k==1)=false):runA rows (kd rows k) k=true:=by
 obtain⟨a1,a2,a3,a4⟩:=hi_spec (rows:=rows) (k:=k) (by omega)
 have:k<hi rows k:=by
  rcases Nat.lt_or_ge k (hi rows k) with h|h
  ·exact h
  ·have e:hi rows k=k:=by omega
   have:=a4 (by omega)
   rw[e,h1] at this
   cases this
 exact anyC_mem (lo_le rows k) this a2 rfl
theorem half_loop_S {g:PV Y_impl_Group}{rows:RW}(hg:g.2.2.1=rows)(h:RowsOk rows)(old:Bool):f_S_l8Half g old=some ((halfL rows (bif old then 3 else 2) rows.length,()),()):=by
 have hl:=h.1
 generalize hc:(bif old then(3:Int) else 2)=c
 have:=fix_all (B:=fun d=>b_S_l8Half_4 d.1 d.2.1 d.2.2.1 d.2.2.2.1 d.2.2.2.2.1 d.2.2.2.2.2.1 d.2.2.2.2.2.2.1) (fun i=>(old,mkT rows.length (told rows 2 rows.length),mkT rows.length (told rows 3 rows.length),halfL rows c i,rows,(rows.length:Int),(i:Int),())) rows.length (r:=(halfL rows c rows.length,()))
  (fun i hi'=>by
    show b_S_l8Half_4 old (mkT rows.length (told rows 2 rows.length)) (mkT rows.length (told rows 3 rows.length)) (halfL rows c i) rows rows.length i=_
    obtain⟨k1,k2,k3⟩:=h.2 i hi'
    have hlen:=half_len (c:=c) h i (by omega)
    have hpl:=piece_len (c:=c) h hi'
    have e:IntKind.wrap .i64 ((i:Int)+1)=((i+1:Nat):Int):=by rw[wrap64 (by omega) (by omega)];omega
    have hsl:=sign_len rows c i
    have hself:=fun h1=>self_in hi' h1
    have hp:pieceL rows c i=bif kd rows i==c then[] else showL (signL rows c i) (rows.getD i W0).2.1:=rfl
    have hs:signL rows c i=bif !(kd rows i==1)&&runA rows c i then[33,32] else bif kd rows i==2 then[45,32] else bif kd rows i==3 then[43,32] else[32,32]:=rfl
    have hsh:showL (signL rows c i) (rows.getD i W0).2.1=showL (signL rows c i) (rows.getD i W0).2.1:=rfl
    have hS:=show_S (sign:=signL rows c i) (line:=(rows.getD i W0).2.1) (by omega) (by omega) k2
    have hshl:(kd rows i==c)=false→(showL (signL rows c i) (rows.getD i W0).2.1).length≤40:=fun hh=>by rw[hp,hh,cond_false] at hpl;exact hpl
    unfold b_S_l8Half_4
    rw[decide_eq_true (by omega:(i:Int)<(rows.length:Int)),cond_true,inB_lt hi',cond_true,toNat_cast]
    simp only[halfL]
    rw[hp]
    have hkd:kd rows i=(rows.getD i W0).1:=rfl
    rw[hkd] at hs hself hp k1 hshl ⊢
    generalize hx:rows.getD i W0=x at*
    have g2:=told_at (c:=2) hi'
    have g3:=told_at (c:=3) hi'
    rw[hkd] at g2 g3
    have i2:inB (i:Int) (mkT rows.length (told rows 2 rows.length)).length=true:=inB_lt (by rw[mkT_len];exact hi')
    have i3:inB (i:Int) (mkT rows.length (told rows 3 rows.length)).length=true:=inB_lt (by rw[mkT_len];exact hi')
    generalize mkT rows.length (told rows 2 rows.length)=G2 at*
    generalize mkT rows.length (told rows 3 rows.length)=G3 at*
    rcases k1 with k1|k1|k1
    ·
     have e1:(x.1==1)=true:=by rw[k1];rfl
     have e2:(x.1==2)=false:=by rw[k1];rfl
     have e3:(x.1==3)=false:=by rw[k1];rfl
     have ec:(x.1==c)=false:=by rw[k1,←hc];cases old<;>rfl
     have hshl:=hshl ec
     rw[e1,e2,e3] at hs
     simp only[Bool.not_true,Bool.false_and,cond_false] at hs
     rw[hs] at hS hshl
     simp only[e1,e2,e3,ec,cond_false,Option.bind_some,Bool.not_true,hS,hs,decide_eq_true (by omega:(halfL rows c i).length+(showL [32,32] x.2.1).length≤1099511627776),cond_true,e]
    ·have e1:(x.1==1)=false:=by rw[k1];rfl
     have e2:(x.1==2)=true:=by rw[k1];rfl
     have e3:(x.1==3)=false:=by rw[k1];rfl
     cases old
     ·have ec:(x.1==c)=true:=by rw[k1,←hc];rfl
      simp only[e1,e2,e3,ec,cond_false,cond_true,Option.bind_some,Bool.not_true,Bool.not_false,List.append_nil,e]
     ·have ec:(x.1==c)=false:=by rw[k1,←hc];rfl
      have hshl:=hshl ec
      have hsf:=hself e1
      rw[k1] at hsf
      have hcc:c=3:=hc.symm
      subst hcc
      rw[e1,e2,e3] at hs
      rw[e1,hsf] at g2
      rw[e1] at g3
      simp only[Bool.not_false,Bool.true_and] at g2 g3 hs
      cases hr:runA rows 3 i
      ·rw[hr] at g3 hs
       simp only[cond_false,cond_true] at hs
       rw[hs] at hS hshl
       simp only[e1,e2,e3,ec,cond_false,cond_true,Option.bind_some,Bool.not_true,Bool.not_false,toNat_cast,i2,i3,g2,g3,hS,hs,decide_eq_true (by omega:(halfL rows 3 i).length+(showL [45,32] x.2.1).length≤1099511627776),e]
      ·rw[hr] at g3 hs
       simp only[cond_false,cond_true] at hs
       rw[hs] at hS hshl
       simp only[e1,e2,e3,ec,cond_false,cond_true,Option.bind_some,Bool.not_true,Bool.not_false,toNat_cast,i2,i3,g2,g3,hS,hs,decide_eq_true (by omega:(halfL rows 3 i).length+(showL [33,32] x.2.1).length≤1099511627776),e]
    ·have e1:(x.1==1)=false:=by rw[k1];rfl
     have e2:(x.1==2)=false:=by rw[k1];rfl
     have e3:(x.1==3)=true:=by rw[k1];rfl
     cases old
     ·have ec:(x.1==c)=false:=by rw[k1,←hc];rfl
      have hshl:=hshl ec
      have hsf:=hself e1
      rw[k1] at hsf
      have hcc:c=2:=hc.symm
      subst hcc
      rw[e1,e2,e3] at hs
      rw[e1,hsf] at g3
      rw[e1] at g2
      simp only[Bool.not_false,Bool.true_and] at g2 g3 hs
      cases hr:runA rows 2 i
      ·rw[hr] at g2 hs
       simp only[cond_false,cond_true] at hs
       rw[hs] at hS hshl
       simp only[e1,e2,e3,ec,cond_false,cond_true,Option.bind_some,Bool.not_true,Bool.not_false,toNat_cast,i2,i3,g2,g3,hS,hs,decide_eq_true (by omega:(halfL rows 2 i).length+(showL [43,32] x.2.1).length≤1099511627776),e]
      ·rw[hr] at g2 hs
       simp only[cond_false,cond_true] at hs
       rw[hs] at hS hshl
       simp only[e1,e2,e3,ec,cond_false,cond_true,Option.bind_some,Bool.not_true,Bool.not_false,toNat_cast,i2,i3,g2,g3,hS,hs,decide_eq_true (by omega:(halfL rows 2 i).length+(showL [33,32] x.2.1).length≤1099511627776),e]
     ·have ec:(x.1==c)=true:=by rw[k1,←hc];rfl
      simp only[e1,e2,e3,ec,cond_false,cond_true,Option.bind_some,Bool.not_true,Bool.not_false,List.append_nil,e])
  (by
    show b_S_l8Half_4 old _ _ (halfL rows c rows.length) rows rows.length rows.length=_
    unfold b_S_l8Half_4
    rw[decide_eq_false (Int.lt_irrefl _),cond_false])
 unfold f_S_l8Half
 rw[runs_S hg (by omega),Option.bind_some]
 dsimp only
 rw[hg,show w_S_l8Half_4 (old,mkT rows.length (told rows 2 rows.length),mkT rows.length (told rows 3 rows.length),[],rows,(rows.length:Int),0,())=_ from this]
 rfl
theorem rowsOk_of {g:PV Y_impl_Group}(h:goodG g=true):RowsOk g.2.2.1:=by
 unfold goodG inI at h
 simp only[Bool.and_eq_true,decide_eq_true_eq,Bool.not_eq_true'] at h
 obtain⟨_,_,⟨h1,h2⟩,h3,_⟩:=h
 refine⟨by omega,fun k hk=> ?_⟩
 have hb:badRow g.2.2.1 k=false:=by
  cases hb:badRow g.2.2.1 k with
  |false=>rfl
  |true=>rw[anyN_iff.2 ⟨k,hk,hb⟩] at h3;cases h3
 unfold badRow inI at hb
 simp only[Bool.or_eq_false_iff,Bool.not_eq_false',Bool.and_eq_true,decide_eq_true_eq] at hb
 obtain⟨⟨b1,b2⟩,b3,_⟩:=hb
 have:=line_len b3
 refine⟨?_,this.1,this.2⟩
 have e:∀z:Int,z≥1→z≤3→z=1∨z=2∨z=3:=fun z _ _=>by omega
 exact e _ b1 b2
end R
end

section
/- Groups side by side: both sides write the same. -/
open Go Go.Dn
namespace R
set_option linter.unusedVariables false
theorem num_I (n:Nat)(h:n≤1000000):f_strconv_Itoa (n:Int)=some ((dec n,()),()):=by
 unfold f_strconv_Itoa itoaF
 rw[decide_eq_true (by omega),decide_eq_true (by omega:(n:Int)≤9223372036854775807),Lib.itoa_nonneg]
 rfl
theorem number_I (a m:Nat)(ha:a≤10000):f_I_numberOf (a:Int) (m:Int)=some ((((numb a m:Nat):Int),()),()):=by unfold f_I_numberOf;exact numb_eq a m ha
def pairT (a m:Nat):List UInt8:=if m≤1 then dec (numb a m) else dec (numb a m)++([44]++dec (a+m))
theorem pairT_len {a m:Nat}(ha:a≤10000)(hm:m≤10000):(pairT a m).length≤43:=by
 have h1:=dec_len (numb a m) (Nat.le_trans (numb_le ha) (by omega))
 have h2:=dec_len (a+m) (by omega)
 unfold pairT
 split
 ·omega
 ·simp only[List.length_append,List.length_cons,List.length_nil];omega
theorem pair_S (a m:Nat)(ha:a≤10000)(hm:m≤10000):f_S_l4Pair (a:Int) (m:Int)=some ((pairT a m,()),()):=by
 have hn:=numb_le (m:=m) ha
 have h1:=dec_len (numb a m) (by omega)
 have h2:=dec_len (a+m) (by omega)
 unfold f_S_l4Pair
 rw[number_S a m ha,Option.bind_some]
 dsimp only
 rw[num_S _ (by omega),Option.bind_some,show IntKind.wrap .i64 ((a:Int)+(m:Int))=((a+m:Nat):Int) from by rw[wrap64 (by omega) (by omega)];omega,num_S (a+m) (by omega),Option.bind_some]
 dsimp only
 unfold pairT
 by_cases h:m≤1
 ·rw[decide_eq_false (by omega:¬(m:Int)>1),if_pos h];rfl
 ·rw[decide_eq_true (by omega:(m:Int)>1),if_neg h,cond_true,decide_eq_true (by simp only[List.length_cons,List.length_nil];omega),cond_true,decide_eq_true (by simp only[List.length_append,List.length_cons,List.length_nil];omega),cond_true];rfl
theorem pair_I (a m:Nat)(ha:a≤10000)(hm:m≤10000):f_I_pairOf ((numb a m:Nat):Int) ((a+m:Nat):Int)=some ((pairT a m,()),()):=by
 have hn:=numb_le (m:=m) ha
 have h1:=dec_len (numb a m) (by omega)
 have h2:=dec_len (a+m) (by omega)
 unfold f_I_pairOf pairT
 rw[num_I _ (by omega),num_I _ (by omega)]
 simp only[Option.bind_some]
 by_cases h:m≤1
 ·have e:numb a m=a+m:=by unfold numb;split<;>omega
  rw[if_pos h,show(((numb a m:Nat):Int)==((a+m:Nat):Int))=true from by rw[e];exact beq_self_eq_true _];rfl
 ·have e:numb a m≠a+m:=by unfold numb;split<;>omega
  rw[if_neg h,show(((numb a m:Nat):Int)==((a+m:Nat):Int))=false from by rw[beq_eq_false_iff_ne];omega,cond_false,decide_eq_true (by simp only[List.length_cons,List.length_nil];omega),cond_true,decide_eq_true (by simp only[List.length_append,List.length_cons,List.length_nil];omega),cond_true,List.append_assoc]
theorem end_I (a m:Nat)(ha:a≤10000)(hm:m≤10000):f_I_endOf (a:Int) (m:Int)=some ((((a+m:Nat):Int),()),()):=by
 unfold f_I_endOf
 rw[wrap64 (by omega) (by omega)]
 rfl
def hasK (rows:RW)(c:Int):Bool:=rows.any fun(r:PV Y_impl_Row)=>r.1==c
theorem has_I {g:PV Y_impl_Group}{rows:RW}(hg:g.2.2.1=rows)(hl:rows.length≤1048576)(c:Int):f_I_Group_has g c=some ((hasK rows c,()),()):=by
 unfold f_I_Group_has hasK
 rw[hg]
 have step:∀i (hi:i<rows.length),b_I_Group_has_266_2 g c g c false rows rows false rows rows rows.length i=some (if rows[i].1==c then .inr (.inr (g,c,g,c,false,rows,rows,false,rows,(i:Int),())) else .inl (g,c,g,c,false,rows,rows,false,rows,rows,(rows.length:Int),((i+1:Nat):Int),())):=by
  intro i hi
  unfold b_I_Group_has_266_2
  rw[decide_eq_true (by omega:(i:Int)<(rows.length:Int)),cond_true,inB_lt hi,cond_true,toNat_cast,getD_of hi]
  cases rows[i].1==c
  ·rw[cond_false,wrap64 (by omega) (by omega)];rfl
  ·rfl
 rw[show w_I_Group_has_266_2 (g,c,g,c,false,rows,rows,false,rows,rows,(rows.length:Int),0,())=_ from fix_any (B:=fun d=>b_I_Group_has_266_2 d.1 d.2.1 d.2.2.1 d.2.2.2.1 d.2.2.2.2.1 d.2.2.2.2.2.1 d.2.2.2.2.2.2.1 d.2.2.2.2.2.2.2.1 d.2.2.2.2.2.2.2.2.1 d.2.2.2.2.2.2.2.2.2.1 d.2.2.2.2.2.2.2.2.2.2.1 d.2.2.2.2.2.2.2.2.2.2.2.1) rows (fun(r:PV Y_impl_Row)=>r.1==c)
  (fun i=>(g,c,g,c,false,rows,rows,false,rows,rows,(rows.length:Int),(i:Int),())) (fun i=>.inr (g,c,g,c,false,rows,rows,false,rows,(i:Int),())) (.inl (g,c,g,c,false,rows,rows,false,rows,()))
  (fun i hi hq=>by show b_I_Group_has_266_2 g c g c false rows rows false rows rows rows.length i=_;rw[step i hi,hq];rfl)
  (fun i hi hq=>by show b_I_Group_has_266_2 g c g c false rows rows false rows rows rows.length i=_;rw[step i hi,hq];rfl)
  (by
    show b_I_Group_has_266_2 g c g c false rows rows false rows rows rows.length rows.length=_
    unfold b_I_Group_has_266_2
    rw[decide_eq_false (Int.lt_irrefl _),cond_false])]
 cases rows.any fun(r:PV Y_impl_Row)=>r.1==c
 ·rfl
 ·rw[if_pos rfl,Option.bind_some]
  dsimp only
  rw[decide_eq_true (show((_:Nat):Int)≥0 from Int.natCast_nonneg _)]
theorem has_S {g:PV Y_impl_Group}{rows:RW}(hg:g.2.2.1=rows)(hl:rows.length≤1048576)(c:Int):f_S_l8Some g c=some ((hasK rows c,()),()):=by
 unfold f_S_l8Some hasK
 rw[hg]
 have step:∀i (hi:i<rows.length),b_S_l8Some_2 c rows rows.length i=some (if rows[i].1==c then .inr (.inr (true,())) else .inl (c,rows,(rows.length:Int),((i+1:Nat):Int),())):=by
  intro i hi
  unfold b_S_l8Some_2
  rw[decide_eq_true (by omega:(i:Int)<(rows.length:Int)),cond_true,inB_lt hi,cond_true,toNat_cast,getD_of hi]
  cases rows[i].1==c
  ·rw[cond_false,wrap64 (by omega) (by omega)];rfl
  ·rfl
 rw[show w_S_l8Some_2 (c,rows,(rows.length:Int),0,())=_ from fix_any (B:=fun d=>b_S_l8Some_2 d.1 d.2.1 d.2.2.1 d.2.2.2.1) rows (fun(r:PV Y_impl_Row)=>r.1==c)
  (fun i=>(c,rows,(rows.length:Int),(i:Int),())) (fun _=>.inr (true,())) (.inl ())
  (fun i hi hq=>by show b_S_l8Some_2 c rows rows.length i=_;rw[step i hi,hq];rfl)
  (fun i hi hq=>by show b_S_l8Some_2 c rows rows.length i=_;rw[step i hi,hq];rfl)
  (by
    show b_S_l8Some_2 c rows rows.length rows.length=_
    unfold b_S_l8Some_2
    rw[decide_eq_false (Int.lt_irrefl _),cond_false])]
 cases rows.any fun(r:PV Y_impl_Row)=>r.1==c<;>rfl
def top1 (x:PV Y_impl_Group):List UInt8:=([42,42,42,42,42,42,42,42,42,42,42,42,42,42,42,10,42,42,42,32]++pairT (Int.toNat x.1) (sideL x.2.2.1 3).length)++[32,42,42,42,42,10]
def top2 (x:PV Y_impl_Group):List UInt8:=([45,45,45,32]++pairT (Int.toNat x.2.1) (sideL x.2.2.1 2).length)++[32,45,45,45,45,10]
def opt (x:PV Y_impl_Group)(d c:Int):List UInt8:=bif hasK x.2.2.1 d then halfL x.2.2.1 c (List.length x.2.2.1) else[]
def sideT (x:PV Y_impl_Group):List UInt8:=((top1 x++opt x 2 3)++top2 x)++opt x 3 2
def sidesT (g:GR):List UInt8:=g.flatMap sideT
theorem side_facts {x:PV Y_impl_Group}(h:goodG x=true):(top1 x).length≤69∧(top2 x).length≤53∧(∀c,(halfL x.2.2.1 c (List.length x.2.2.1)).length≤3200)∧(sideT x).length≤6522:=by
 obtain⟨⟨a,ea,ha⟩,⟨b,eb,hb⟩,h3,h4⟩:=group_facts h
 have c1:=pairT_len (a:=a) (m:=(sideL x.2.2.1 3).length) (by omega) (by omega)
 have c2:=pairT_len (a:=b) (m:=(sideL x.2.2.1 2).length) (by omega) (by omega)
 have t1:(top1 x).length≤69:=by
  unfold top1
  rw[ea,toNat_cast]
  simp only[List.length_append,List.length_cons,List.length_nil]
  omega
 have t2:(top2 x).length≤53:=by
  unfold top2
  rw[eb,toNat_cast]
  simp only[List.length_append,List.length_cons,List.length_nil]
  omega
 have hr:=rowsOk_of h
 have hh:∀c,(halfL x.2.2.1 c (List.length x.2.2.1)).length≤3200:=fun c=>by
  have:=half_len (c:=c) hr (List.length x.2.2.1) (Nat.le_refl _)
  have:=hr.1
  omega
 have ho:∀d c,(opt x d c).length≤3200:=fun d c=>by
  unfold opt
  cases hasK x.2.2.1 d
  ·exact Nat.zero_le _
  ·exact hh c
 have o1:=ho 2 3
 have o2:=ho 3 2
 refine⟨t1,t2,hh,?_⟩
 unfold sideT
 simp only[List.length_append]
 omega
theorem room {n:Nat}(h:n≤10000000):decide (n≤1099511627776)=true:=decide_eq_true (by omega)
theorem sidesText_I' {g:GR}(hs:SmG g)(hg:goodGs g=true):f_I_sidesText g=some ((sidesT g,()),()):=by
 have hl:=hs.1
 have hf:=fix_fold (B:=fun d=>b_I_sidesText_3 d.1 d.2.1 d.2.2.1 d.2.2.2.1) g (fun a x=>a++sideT x) (fun a i=>(a,g,(g.length:Int),(i:Int),())) (fun a=>(a,())) (fun i a=>a.length≤6522*i)
  (fun i hi a hI=>by
    have hm:=hs.2 _ (List.getElem_mem hi)
    obtain⟨hx,h20⟩:=good_mem' hg hi
    obtain⟨⟨p,ep,hp⟩,⟨q,eq,hq⟩,h3,h4⟩:=group_facts hx
    obtain⟨t1,t2,th,ts⟩:=side_facts hx
    refine⟨by rw[List.length_append];omega,?_⟩
    show b_I_sidesText_3 a g g.length i=_
    unfold b_I_sidesText_3 f_I_Group_old f_I_Group_fresh
    rw[decide_eq_true (by omega:(i:Int)<(g.length:Int)),cond_true,inB_lt hi,cond_true,toNat_cast,getD_of hi,sideOf_I hm,Option.bind_some,Option.bind_some,sideOf_I hm,Option.bind_some,Option.bind_some]
    have hr:=rowsOk_of hx
    have k2:=half_loop_I (g:=g[i]) rfl hr 3
    have k3:=half_loop_I (g:=g[i]) rfl hr 2
    have j2:=has_I (g:=g[i]) rfl hm.1 2
    have j3:=has_I (g:=g[i]) rfl hm.1 3
    have u3:=th 3
    have u2:=th 2
    have e1:([42,42,42,42,42,42,42,42,42,42,42,42,42,42,42,10,42,42,42,32]++pairT p (sideL g[i].2.2.1 3).length)++[32,42,42,42,42,10]=top1 g[i]:=by unfold top1;rw[ep,toNat_cast]
    have e2:([45,45,45,32]++pairT q (sideL g[i].2.2.1 2).length)++[32,45,45,45,45,10]=top2 g[i]:=by unfold top2;rw[eq,toNat_cast]
    have c1:=pairT_len (a:=p) (m:=(sideL g[i].2.2.1 3).length) (by omega) (by omega)
    have c2:=pairT_len (a:=q) (m:=(sideL g[i].2.2.1 2).length) (by omega) (by omega)
    dsimp only
    rw[ep,number_I p _ (by omega),Option.bind_some,end_I p _ (by omega) (by omega),Option.bind_some]
    dsimp only
    rw[pair_I p _ (by omega) (by omega),Option.bind_some]
    dsimp only
    rw[room (by simp only[List.length_cons,List.length_nil];omega),cond_true,room (by simp only[List.length_append,List.length_cons,List.length_nil];omega),cond_true,e1,room (by omega),cond_true,j2,Option.bind_some]
    dsimp only
    have fin:∀z:List UInt8,z.length≤6522*i+3300→
     ((f_I_numberOf g[i].2.1 ((sideL g[i].2.2.1 2).length:Int)).bind fun r18=>(f_I_endOf g[i].2.1 ((sideL g[i].2.2.1 2).length:Int)).bind fun r19=>(f_I_pairOf r18.1.1 r19.1.1).bind fun r20=>
       bif decide (([45,45,45,32]:List UInt8).length+r20.1.1.length≤1099511627776) then
        bif decide ((([45,45,45,32]:List UInt8)++r20.1.1).length+([32,45,45,45,45,10]:List UInt8).length≤1099511627776) then
         bif decide (z.length+(([45,45,45,32]++r20.1.1)++[32,45,45,45,45,10]).length≤1099511627776) then
          (f_I_Group_has g[i] 3).bind fun r22=>
            bif r22.1.1 then
             (f_I_Group_half g[i] 2).bind fun r23=>
               bif decide ((z++(([45,45,45,32]++r20.1.1)++[32,45,45,45,45,10])).length+r23.1.1.length≤1099511627776) then
                some (((z++(([45,45,45,32]++r20.1.1)++[32,45,45,45,45,10]))++r23.1.1),g,(g.length:Int),(i:Int),())
               else none
            else some ((z++(([45,45,45,32]++r20.1.1)++[32,45,45,45,45,10])),g,(g.length:Int),(i:Int),())
         else none
        else none
       else none:Option (PV .str×PV S_impl_Group×PV (.int .i64)×PV (.int .i64)×Unit))=some ((z++top2 g[i])++opt g[i] 3 2,g,(g.length:Int),(i:Int),()):=by
     intro z hz
     rw[eq,number_I q _ (by omega),Option.bind_some,end_I q _ (by omega) (by omega),Option.bind_some]
     dsimp only
     rw[pair_I q _ (by omega) (by omega),Option.bind_some]
     dsimp only
     rw[room (by simp only[List.length_cons,List.length_nil];omega),cond_true,room (by simp only[List.length_append,List.length_cons,List.length_nil];omega),cond_true,e2,room (by omega),cond_true,j3,Option.bind_some]
     dsimp only
     unfold opt
     cases hasK g[i].2.2.1 3
     ·rw[cond_false,cond_false,List.append_nil]
     ·rw[cond_true,cond_true,k3,Option.bind_some]
      dsimp only
      rw[room (by rw[List.length_append];omega),cond_true]
    have hw:IntKind.wrap .i64 ((i:Int)+1)=((i+1:Nat):Int):=by rw[wrap64 (by omega) (by omega)];omega
    have es:a++sideT g[i]=(((a++top1 g[i])++opt g[i] 2 3)++top2 g[i])++opt g[i] 3 2:=by unfold sideT;simp only[List.append_assoc]
    rw[es]
    have eo:opt g[i] 2 3=bif hasK g[i].2.2.1 2 then halfL g[i].2.2.1 3 (List.length g[i].2.2.1) else[]:=rfl
    rw[eo]
    cases hasK g[i].2.2.1 2
    ·rw[cond_false,cond_false,Option.bind_some,List.append_nil]
     refine(congrArg (fun z=>Option.bind z _) (fin (a++top1 g[i]) (by rw[List.length_append];omega))).trans ?_
     rw[Option.bind_some]
     dsimp only
     rw[hw]
    ·rw[cond_true,cond_true,k2,Option.bind_some]
     dsimp only
     rw[room (by rw[List.length_append];omega),cond_true,Option.bind_some]
     refine(congrArg (fun z=>Option.bind z _) (fin ((a++top1 g[i])++halfL g[i].2.2.1 3 (List.length g[i].2.2.1)) (by rw[List.length_append,List.length_append];omega))).trans ?_
     rw[Option.bind_some]
     dsimp only
     rw[hw])
  (fun a _=>by
    show b_I_sidesText_3 a g g.length g.length=_
    unfold b_I_sidesText_3
    rw[decide_eq_false (Int.lt_irrefl _),cond_false]) [] (Nat.zero_le _)
 unfold f_I_sidesText
 rw[show w_I_sidesText_3 ([],g,(g.length:Int),0,())=_ from hf.1,Option.bind_some,foldl_app]
 rfl
theorem sidesText_S' {g:GR}(hs:SmG g)(hg:goodGs g=true):f_S_l8Text g=some ((sidesT g,()),()):=by
 have hl:=hs.1
 have hf:=fix_fold (B:=fun d=>b_S_l8Text_3 d.1 d.2.1 d.2.2.1 d.2.2.2.1) g (fun a x=>a++sideT x) (fun a i=>(a,g,(g.length:Int),(i:Int),())) (fun a=>(a,())) (fun i a=>a.length≤6522*i)
  (fun i hi a hI=>by
    have hm:=hs.2 _ (List.getElem_mem hi)
    obtain⟨hx,h20⟩:=good_mem' hg hi
    obtain⟨⟨p,ep,hp⟩,⟨q,eq,hq⟩,h3,h4⟩:=group_facts hx
    obtain⟨t1,t2,th,ts⟩:=side_facts hx
    refine⟨by rw[List.length_append];omega,?_⟩
    show b_S_l8Text_3 a g g.length i=_
    unfold b_S_l8Text_3
    rw[decide_eq_true (by omega:(i:Int)<(g.length:Int)),cond_true,inB_lt hi,cond_true,toNat_cast,getD_of hi,old_S hm,Option.bind_some]
    have hr:=rowsOk_of hx
    have k2:f_S_l8Half g[i] true=_:=half_loop_S (g:=g[i]) rfl hr true
    have k3:f_S_l8Half g[i] false=_:=half_loop_S (g:=g[i]) rfl hr false
    rw[cond_true] at k2
    rw[cond_false] at k3
    have j2:=has_S (g:=g[i]) rfl hm.1 2
    have j3:=has_S (g:=g[i]) rfl hm.1 3
    have u3:=th 3
    have u2:=th 2
    have e1:([42,42,42,42,42,42,42,42,42,42,42,42,42,42,42,10,42,42,42,32]++pairT p (sideL g[i].2.2.1 3).length)++[32,42,42,42,42,10]=top1 g[i]:=by unfold top1;rw[ep,toNat_cast]
    have e2:([45,45,45,32]++pairT q (sideL g[i].2.2.1 2).length)++[32,45,45,45,45,10]=top2 g[i]:=by unfold top2;rw[eq,toNat_cast]
    have c1:=pairT_len (a:=p) (m:=(sideL g[i].2.2.1 3).length) (by omega) (by omega)
    have c2:=pairT_len (a:=q) (m:=(sideL g[i].2.2.1 2).length) (by omega) (by omega)
    dsimp only
    rw[ep,pair_S p _ (by omega) (by omega),Option.bind_some]
    dsimp only
    rw[room (by simp only[List.length_cons,List.length_nil];omega),cond_true,room (by simp only[List.length_append,List.length_cons,List.length_nil];omega),cond_true,e1,room (by omega),cond_true,j2,Option.bind_some]
    dsimp only
    have fin:∀z:List UInt8,z.length≤6522*i+3300→
     ((f_S_l6New g[i]).bind fun r11=>(f_S_l4Pair g[i].2.1 (r11.1.1.length:Int)).bind fun r20=>
       bif decide (([45,45,45,32]:List UInt8).length+r20.1.1.length≤1099511627776) then
        bif decide ((([45,45,45,32]:List UInt8)++r20.1.1).length+([32,45,45,45,45,10]:List UInt8).length≤1099511627776) then
         bif decide (z.length+(([45,45,45,32]++r20.1.1)++[32,45,45,45,45,10]).length≤1099511627776) then
          (f_S_l8Some g[i] 3).bind fun r22=>
            bif r22.1.1 then
             (f_S_l8Half g[i] false).bind fun r23=>
               bif decide ((z++(([45,45,45,32]++r20.1.1)++[32,45,45,45,45,10])).length+r23.1.1.length≤1099511627776) then
                some (((z++(([45,45,45,32]++r20.1.1)++[32,45,45,45,45,10]))++r23.1.1),g,(g.length:Int),(i:Int),())
               else none
            else some ((z++(([45,45,45,32]++r20.1.1)++[32,45,45,45,45,10])),g,(g.length:Int),(i:Int),())
         else none
        else none
       else none:Option (PV .str×PV S_impl_Group×PV (.int .i64)×PV (.int .i64)×Unit))=some ((z++top2 g[i])++opt g[i] 3 2,g,(g.length:Int),(i:Int),()):=by
     intro z hz
     rw[new_S hm,Option.bind_some]
     dsimp only
     rw[eq,pair_S q _ (by omega) (by omega),Option.bind_some]
     dsimp only
     rw[room (by simp only[List.length_cons,List.length_nil];omega),cond_true,room (by simp only[List.length_append,List.length_cons,List.length_nil];omega),cond_true,e2,room (by omega),cond_true,j3,Option.bind_some]
     dsimp only
     unfold opt
     cases hasK g[i].2.2.1 3
     ·rw[cond_false,cond_false,List.append_nil]
     ·rw[cond_true,cond_true,k3,Option.bind_some]
      dsimp only
      rw[room (by rw[List.length_append];omega),cond_true]
    have hw:IntKind.wrap .i64 ((i:Int)+1)=((i+1:Nat):Int):=by rw[wrap64 (by omega) (by omega)];omega
    have es:a++sideT g[i]=(((a++top1 g[i])++opt g[i] 2 3)++top2 g[i])++opt g[i] 3 2:=by unfold sideT;simp only[List.append_assoc]
    rw[es]
    have eo:opt g[i] 2 3=bif hasK g[i].2.2.1 2 then halfL g[i].2.2.1 3 (List.length g[i].2.2.1) else[]:=rfl
    rw[eo]
    cases hasK g[i].2.2.1 2
    ·rw[cond_false,cond_false,Option.bind_some,List.append_nil]
     refine(congrArg (fun z=>Option.bind z _) (fin (a++top1 g[i]) (by rw[List.length_append];omega))).trans ?_
     rw[Option.bind_some]
     dsimp only
     rw[hw]
    ·rw[cond_true,cond_true,k2,Option.bind_some]
     dsimp only
     rw[room (by rw[List.length_append];omega),cond_true,Option.bind_some]
     refine(congrArg (fun z=>Option.bind z _) (fin ((a++top1 g[i])++halfL g[i].2.2.1 3 (List.length g[i].2.2.1)) (by rw[List.length_append,List.length_append];omega))).trans ?_
     rw[Option.bind_some]
     dsimp only
     rw[hw])
  (fun a _=>by
    show b_S_l8Text_3 a g g.length g.length=_
    unfold b_S_l8Text_3
    rw[decide_eq_false (Int.lt_irrefl _),cond_false]) [] (Nat.zero_le _)
 unfold f_S_l8Text
 rw[show w_S_l8Text_3 ([],g,(g.length:Int),0,())=_ from hf.1,Option.bind_some,foldl_app]
 rfl
def stOk (g:GR):Bool:=goodGs g&&decide ((sidesT g).length≤3000)
def stR (g:GR):List UInt8:=bif stOk g then sidesT g else[]
theorem sidesTextR_I {g:GR}(hs:SmG g):f_I_SidesText g=some ((stR g,stOk g,()),()):=by
 unfold f_I_SidesText stR stOk f_I_short
 rw[groups_I hs,Option.bind_some]
 dsimp only
 cases hg:goodGs g
 ·rfl
 ·rw[Bool.not_true,cond_false,sidesText_I' hs hg,Option.bind_some]
  dsimp only
  by_cases h:(sidesT g).length≤3000
  ·rw[decide_eq_false (by omega:¬((sidesT g).length:Int)>3000),decide_eq_true h];rfl
  ·rw[decide_eq_true (by omega:((sidesT g).length:Int)>3000),decide_eq_false h];rfl
end R
end

section
/- Texts cut: what the leaves of both sides answer. -/
open Go Go.Dn
namespace R
set_option linter.unusedVariables false
theorem prefix_I (s p:List UInt8)(hs:s.length≤100000)(hp:p.length≤100):f_internal_stringslite_HasPrefix s p=some ((s.take p.length==p,()),()):=by
 unfold f_internal_stringslite_HasPrefix
 by_cases h:p.length≤s.length
 ·rw[decide_eq_true (by omega:(s.length:Int)≥(p.length:Int)),cond_true,show cutB 0 (p.length:Int) s.length=true from by unfold cutB;simp;omega,cond_true]
  unfold cutL
  simp
 ·rw[decide_eq_false (by omega:¬(s.length:Int)≥(p.length:Int)),cond_false]
  have:(s.take p.length==p)=false:=beq_eq_false_iff_ne.2 fun e=>by
   have:=congrArg List.length e
   rw[List.length_take] at this;omega
  rw[this]
theorem cutPrefix_I (s p:List UInt8)(hs:s.length≤100000)(hp:p.length≤100):f_strings_CutPrefix s p=some ((bif s.take p.length==p then s.drop p.length else s,s.take p.length==p,()),()):=by
 unfold f_strings_CutPrefix f_internal_stringslite_CutPrefix
 rw[prefix_I s p hs hp,Option.bind_some]
 dsimp only
 cases h:s.take p.length==p
 ·rfl
 ·have hl:p.length≤s.length:=by
   have:=congrArg List.length (beq_iff_eq.1 h)
   rw[List.length_take] at this;omega
  rw[Bool.not_true,cond_false,show cutB (p.length:Int) (s.length:Int) s.length=true from by unfold cutB;simp;omega,cond_true,cond_true]
  unfold cutL
  simp
theorem suffixG_I (s p:List UInt8)(hs:s.length≤100000)(hp:p.length≤100):f_internal_stringslite_HasSuffix s p=some ((s.drop (s.length -p.length)==p,()),()):=by
 unfold f_internal_stringslite_HasSuffix
 by_cases h:p.length≤s.length
 ·rw[decide_eq_true (by omega:(s.length:Int)≥(p.length:Int)),cond_true,wrap64 (by omega) (by omega),show(s.length:Int) -(p.length:Int)=((s.length -p.length:Nat):Int) by omega]
  rw[show cutB ((s.length -p.length:Nat):Int) (s.length:Int) s.length=true from by unfold cutB;simp,cond_true]
  unfold cutL
  simp
 ·rw[decide_eq_false (by omega:¬(s.length:Int)≥(p.length:Int)),cond_false]
  have:(s.drop (s.length -p.length)==p)=false:=beq_eq_false_iff_ne.2 fun e=>by
   have:=congrArg List.length e
   rw[List.length_drop] at this;omega
  rw[this]
theorem cutSuffix_I (s p:List UInt8)(hs:s.length≤100000)(hp:p.length≤100):f_strings_CutSuffix s p=some ((bif s.drop (s.length -p.length)==p then s.take (s.length -p.length) else s,s.drop (s.length -p.length)==p,()),()):=by
 unfold f_strings_CutSuffix f_internal_stringslite_CutSuffix
 rw[suffixG_I s p hs hp,Option.bind_some]
 dsimp only
 cases h:s.drop (s.length -p.length)==p
 ·rfl
 ·have hl:p.length≤s.length:=by
   have:=congrArg List.length (beq_iff_eq.1 h)
   rw[List.length_drop] at this;omega
  rw[Bool.not_true,cond_false,wrap64 (by omega) (by omega),show(s.length:Int) -(p.length:Int)=((s.length -p.length:Nat):Int) by omega]
  rw[show cutB 0 ((s.length -p.length:Nat):Int) s.length=true from by unfold cutB;simp,cond_true,cond_true]
  unfold cutL
  simp
def plainB (s:List UInt8):List UInt8:=bif endP s then s.take (s.length -1) else s
theorem plain_I (s:List UInt8)(hs:s.length≤100000):f_I_plain s=some ((plainB s,()),()):=by
 unfold f_I_plain f_strings_TrimSuffix f_internal_stringslite_TrimSuffix plainB
 rw[suffixG_I s [10] hs (by decide),Option.bind_some]
 dsimp only
 rw[show(s.drop (s.length -[(10:UInt8)].length)==[10])=endP s from rfl]
 cases h:endP s
 ·rfl
 ·have h1:1≤s.length:=by
   cases s with
   |nil=>cases h
   |cons a s=>simp
  rw[cond_true,cond_true,show(([(10:UInt8)].length:Nat):Int)=1 from rfl,wrap64 (by omega) (by omega),show(s.length:Int) -1=((s.length -1:Nat):Int) by omega]
  rw[show cutB 0 ((s.length -1:Nat):Int) s.length=true from by unfold cutB;simp,cond_true]
  unfold cutL
  simp
theorem cut_some {s sep:List UInt8}{i:Nat}(hs:s.length≤100000)(hp:sep.length≤100)(hi:i+sep.length≤s.length)(h:f_internal_stringslite_Index s sep=some (((i:Int),()),())):
 f_strings_Cut s sep=some ((s.take i,s.drop (i+sep.length),true,()),()):=by
 unfold f_strings_Cut f_internal_stringslite_Cut
 rw[h,Option.bind_some]
 dsimp only
 rw[decide_eq_true (by omega:(i:Int)≥0),cond_true,show cutB 0 (i:Int) s.length=true from by unfold cutB;simp;omega,cond_true,wrap64 (by omega) (by omega)]
 rw[show(i:Int)+(sep.length:Int)=((i+sep.length:Nat):Int) by omega,show cutB ((i+sep.length:Nat):Int) (s.length:Int) s.length=true from by unfold cutB;simp;omega,cond_true]
 show some (((s.take ((i:Nat):Int).toNat).drop 0,(s.take ((s.length:Nat):Int).toNat).drop (((i+sep.length:Nat):Int)).toNat,true,()),())=_
 rw[toNat_cast,toNat_cast,toNat_cast,List.take_length,List.drop_zero]
theorem cut_none {s sep:List UInt8}(h:f_internal_stringslite_Index s sep=some ((-1,()),())):f_strings_Cut s sep=some ((s,[],false,()),()):=by
 unfold f_strings_Cut f_internal_stringslite_Cut
 rw[h,Option.bind_some]
 rfl
theorem comma_I (s:List UInt8)(hs:s.length≤100000):f_strings_Cut s [44]=some ((match comma s with|none=>(s,[],false,())|some (a,b)=>(a,b,true,())),()):=by
 by_cases h:(44:UInt8)∈s
 ·obtain⟨t,r,rfl,ht⟩:=first_of h
  rw[comma_at r ht,cut_some (i:=t.length) hs (by decide) (by simp) (by unfold f_internal_stringslite_Index indexF;dsimp only;rw[indexByte_at 44 r ht])]
  dsimp only
  rw[List.take_left' rfl,show t.length+[(44:UInt8)].length=(t++[44]).length by simp,show t++(44:UInt8)::r=(t++[44])++r by simp,List.drop_left' rfl]
 ·rw[comma_no h,cut_none (by unfold f_internal_stringslite_Index indexF;dsimp only;rw[indexByte_not 44 h])]
end R
end

section
/- The lines of a text, and its pieces. -/
open Go Go.Dn
namespace R
set_option linter.unusedVariables false
abbrev TX:=List (List UInt8)
theorem linesOf_I (s:List UInt8)(hs:s.length≤100000):f_I_linesOf s=some ((cutP s,()),()):=by
 unfold f_I_linesOf
 by_cases h:s=[]
 ·subst h;rfl
 ·rw[show(s==[])=false from beq_eq_false_iff_ne.2 h,cond_false]
  have hsp:f_strings_SplitAfter s [10]=some ((spl s,()),()):=by
   unfold f_strings_SplitAfter f_strings_genSplit splitF
   dsimp only
   rw[show(([(10:UInt8)].length:Nat):Int)=1 from rfl,show((1:Int)==1)=true from rfl,show((-1:Int)==-1)=true from rfl,decide_eq_true (by omega),splitK_spl _ s rfl]
   rfl
  rw[hsp,Option.bind_some]
  dsimp only
  obtain⟨q,h1,h2⟩:=spl_lines h
  generalize hL:spl s=L at*
  generalize hx:L.getLastD []=x at*
  have hlen:L.length=q.length+1:=by rw[h1];simp
  have hll:q.length≤100000:=by
   have hc:=cutP_len s
   rw[←h2] at hc
   split at hc<;>omega
  rw[wrap64 (by omega) (by omega),show(L.length:Int) -1=((q.length:Nat):Int) by omega,inB_lt (by omega),cond_true,toNat_cast]
  have hg:L.getD q.length []=x:=by rw[h1];simp
  rw[hg]
  by_cases hx0:x=[]
  ·rw[show(x==[])=true from beq_iff_eq.2 hx0,cond_true,show cutB 0 ((q.length:Nat):Int) L.length=true from by unfold cutB;simp;omega,cond_true,Option.bind_some]
   rw[if_pos hx0] at h2
   rw[←h2]
   have:cutL 0 ((q.length:Nat):Int) L=q:=by
    show(L.take ((q.length:Nat):Int).toNat).drop 0=q
    rw[toNat_cast,List.drop_zero,h1,List.take_left' rfl]
   rw[this]
  ·rw[show(x==[])=false from beq_eq_false_iff_ne.2 hx0,cond_false,Option.bind_some]
   rw[if_neg hx0] at h2
   rw[←h2]
theorem cut_at {α:Type}(p c r:List α):cutL (p.length:Int) ((p.length+c.length:Nat):Int) (p++c++r)=c:=by
 unfold cutL
 rw[toNat_cast,toNat_cast,List.take_left' (by simp),List.drop_left' rfl]
theorem byte_eq (a b:UInt8):(((a.toNat:Nat):Int)==((b.toNat:Nat):Int))=(a==b):=by
 rw[Bool.eq_iff_iff,beq_iff_eq,beq_iff_eq]
 constructor
 ·intro h
  exact UInt8.toNat_inj.1 (by omega)
 ·rintro rfl;rfl
theorem l1Cut_go (s:List UInt8)(hs:s.length≤100000):∀(rest cur pre:List UInt8) (acc:TX),(10:UInt8)∉cur→s=pre++cur++rest→acc.length≤pre.length→
 (w_S_l1Cut_4 (s,acc,(pre.length:Int),((pre.length+cur.length:Nat):Int),())).bind (fun l3=>
 ((
   bif (decide (l3.2.2.1<(l3.1.length:Int))) then
    bif cutB l3.2.2.1 (l3.1.length:Int) l3.1.length then
     bif roomB (l3.2.1.length+[(cutL l3.2.2.1 (l3.1.length:Int) l3.1)].length) then
      some ((l3.2.1++[(cutL l3.2.2.1 (l3.1.length:Int) l3.1)]),())
     else
      none
    else
     none
   else
    some (l3.2.1,()):Option ((PV S_string×Unit)))).bind fun j4=>
   (some ((j4.1,()),()):Option (PVs [S_string]×PVs [])))=some ((acc++cutP (cur++rest),()),())
 |[],cur,pre,acc,hc,e,ha=>by
  have hl:s.length=pre.length+cur.length:=by rw[e];simp
  have:w_S_l1Cut_4 (s,acc,(pre.length:Int),((pre.length+cur.length:Nat):Int),())=some (s,acc,(pre.length:Int),()):=by
   refine fix_end ?_
   show b_S_l1Cut_4 s acc (pre.length:Int) ((pre.length+cur.length:Nat):Int)=_
   unfold b_S_l1Cut_4
   rw[decide_eq_false (by omega:¬((pre.length+cur.length:Nat):Int)<(s.length:Int)),cond_false]
  rw[this,Option.bind_some]
  dsimp only
  rw[List.append_nil] at e ⊢
  by_cases h0:cur=[]
  ·subst h0
   rw[decide_eq_false (by rw[List.length_nil] at hl;omega:¬(pre.length:Int)<(s.length:Int)),cond_false,Option.bind_some]
   simp[cutP]
  ·have h1:0<cur.length:=List.length_pos_iff.2 h0
   have hx:cutL (pre.length:Int) (s.length:Int) s=cur:=by
    have:=cut_at pre cur []
    rw[List.append_nil,←e,←hl] at this
    exact this
   rw[decide_eq_true (by omega:(pre.length:Int)<(s.length:Int)),cond_true,show cutB (pre.length:Int) (s.length:Int) s.length=true from by unfold cutB;simp;omega,cond_true,hx,roomB_ok (by simp;omega),cond_true,Option.bind_some]
   rw[cutP_rest hc h0]
 |b::rest,cur,pre,acc,hc,e,ha=>by
  have hl:s.length=pre.length+cur.length+rest.length+1:=by rw[e];simp;omega
  have hlt:pre.length+cur.length<s.length:=by omega
  have hb:s[pre.length+cur.length]=b:=by
   simp only[e]
   rw[List.getElem_append_right (by simp)]
   simp
  by_cases h10:b=10
  ·have hx:cutL (pre.length:Int) ((pre.length+cur.length+1:Nat):Int) s=cur++[10]:=by
    have:=cut_at pre (cur++[10]) rest
    rw[show pre++(cur++[10])++rest=s from by rw[e,h10];simp,show(cur++[(10:UInt8)]).length=cur.length+1 by simp] at this
    exact this
   have:w_S_l1Cut_4 (s,acc,(pre.length:Int),((pre.length+cur.length:Nat):Int),())=w_S_l1Cut_4 (s,acc++[cur++[10]],((pre.length+cur.length+1:Nat):Int),((pre.length+cur.length+1:Nat):Int),()):=by
    refine fix_go ?_
    show b_S_l1Cut_4 s acc (pre.length:Int) ((pre.length+cur.length:Nat):Int)=_
    unfold b_S_l1Cut_4
    rw[decide_eq_true (by omega:((pre.length+cur.length:Nat):Int)<(s.length:Int)),cond_true,inB_lt hlt,cond_true,toNat_cast,getD_of hlt,hb,h10,show((((10:UInt8).toNat:Nat):Int)==10)=true from rfl,cond_true,wrap64 (by omega) (by omega)]
    rw[show((pre.length+cur.length:Nat):Int)+1=((pre.length+cur.length+1:Nat):Int) from rfl,show cutB (pre.length:Int) ((pre.length+cur.length+1:Nat):Int) s.length=true from by unfold cutB;simp;omega,cond_true,hx,roomB_ok (by simp;omega),cond_true,Option.bind_some]
    dsimp only
    rw[wrap64 (by omega) (by omega)]
    rfl
   rw[this]
   have ih:=l1Cut_go s hs rest [] (pre++(cur++[10])) (acc++[cur++[10]]) (by simp) (by rw[e,h10];simp) (by simp;omega)
   rw[show(pre++(cur++[(10:UInt8)])).length=pre.length+cur.length+1 by simp;omega] at ih
   simp only[List.length_nil,Nat.add_zero,List.nil_append] at ih
   rw[ih,h10,cutP_line rest hc]
   simp
  ·have:w_S_l1Cut_4 (s,acc,(pre.length:Int),((pre.length+cur.length:Nat):Int),())=w_S_l1Cut_4 (s,acc,(pre.length:Int),((pre.length+(cur++[b]).length:Nat):Int),()):=by
    refine fix_go ?_
    show b_S_l1Cut_4 s acc (pre.length:Int) ((pre.length+cur.length:Nat):Int)=_
    unfold b_S_l1Cut_4
    have hne:(((b.toNat:Nat):Int)==10)=false:=by
     rw[show(10:Int)=(((10:UInt8).toNat:Nat):Int) from rfl,byte_eq]
     exact beq_eq_false_iff_ne.2 h10
    rw[decide_eq_true (by omega:((pre.length+cur.length:Nat):Int)<(s.length:Int)),cond_true,inB_lt hlt,cond_true,toNat_cast,getD_of hlt,hb,hne,cond_false,Option.bind_some]
    dsimp only
    rw[wrap64 (by omega) (by omega),List.length_append]
    rfl
   rw[this]
   have ih:=l1Cut_go s hs rest (cur++[b]) pre acc (by simp only[List.mem_append,List.mem_singleton,not_or];exact⟨hc,fun h=>h10 h.symm⟩) (by rw[e];simp) ha
   rw[ih]
   simp
theorem l1Cut_S (s:List UInt8)(hs:s.length≤100000):f_S_l1Cut s=some ((cutP s,()),()):=by
 unfold f_S_l1Cut
 exact l1Cut_go s hs s [] [] [] (by simp) (by simp) (Nat.le_refl _)
def splitC (c:UInt8):List UInt8→TX
 |[]=>[[]]
 |b::s=>if b=c then[]::splitC c s else match splitC c s with
  |[]=>[[b]]
  |h::t=>(b::h)::t
theorem splitC_go {c b:UInt8}(h:b≠c)(s:List UInt8):splitC c (b::s)=match splitC c s with
 |[]=>[[b]]
 |h::t=>(b::h)::t:=by simp[splitC,h]
theorem splitC_not {c:UInt8}:∀{t:List UInt8},c∉t→splitC c t=[t]
 |[],_=>rfl
 |b::t,h=>by
  rw[splitC_go (fun e=>h (by rw[e];exact List.mem_cons_self ..)),splitC_not (t:=t) fun m=>h (List.mem_cons_of_mem _ m)]
theorem splitC_at {c:UInt8}(r:List UInt8):∀{t:List UInt8},c∉t→splitC c (t++c::r)=t::splitC c r
 |[],_=>by simp[splitC]
 |b::t,h=>by
  rw[List.cons_append,splitC_go (fun e=>h (by rw[e];exact List.mem_cons_self ..)),splitC_at r (t:=t) fun m=>h (List.mem_cons_of_mem _ m)]
theorem splitC_ne (c:UInt8)(s:List UInt8):splitC c s≠[]:=by
 cases s with
 |nil=>simp[splitC]
 |cons b s=>
  unfold splitC
  split
  ·simp
  ·split<;>simp
theorem l1Split_go (s:List UInt8)(c:UInt8)(hs:s.length≤100000):∀(rest cur pre:List UInt8) (acc:TX),c∉cur→s=pre++cur++rest→acc.length≤pre.length→
 (w_S_l1Split_4 (s,(c.toNat:Int),acc,(pre.length:Int),((pre.length+cur.length:Nat):Int),())).bind (fun l3=>
 bif cutB l3.2.2.1 (l3.1.length:Int) l3.1.length then
  bif roomB (l3.2.1.length+[(cutL l3.2.2.1 (l3.1.length:Int) l3.1)].length) then
   (some (((l3.2.1++[(cutL l3.2.2.1 (l3.1.length:Int) l3.1)]),()),()):Option (PVs [S_string]×PVs []))
  else
   none
 else
  none)=some ((acc++splitC c (cur++rest),()),())
 |[],cur,pre,acc,hc,e,ha=>by
  have hl:s.length=pre.length+cur.length:=by rw[e];simp
  have:w_S_l1Split_4 (s,(c.toNat:Int),acc,(pre.length:Int),((pre.length+cur.length:Nat):Int),())=some (s,acc,(pre.length:Int),()):=by
   refine fix_end ?_
   show b_S_l1Split_4 s (c.toNat:Int) acc (pre.length:Int) ((pre.length+cur.length:Nat):Int)=_
   unfold b_S_l1Split_4
   rw[decide_eq_false (by omega:¬((pre.length+cur.length:Nat):Int)<(s.length:Int)),cond_false]
  rw[this,Option.bind_some]
  dsimp only
  rw[List.append_nil] at e ⊢
  have hx:cutL (pre.length:Int) (s.length:Int) s=cur:=by
   have:=cut_at pre cur []
   rw[List.append_nil,←e,←hl] at this
   exact this
  rw[show cutB (pre.length:Int) (s.length:Int) s.length=true from by unfold cutB;simp;omega,cond_true,hx,roomB_ok (by simp;omega),cond_true]
  rw[splitC_not hc]
 |b::rest,cur,pre,acc,hc,e,ha=>by
  have hl:s.length=pre.length+cur.length+rest.length+1:=by rw[e];simp;omega
  have hlt:pre.length+cur.length<s.length:=by omega
  have hb:s[pre.length+cur.length]=b:=by
   simp only[e]
   rw[List.getElem_append_right (by simp)]
   simp
  by_cases h10:b=c
  ·have hx:cutL (pre.length:Int) ((pre.length+cur.length:Nat):Int) s=cur:=by
    rw[e];exact cut_at pre cur (b::rest)
   have:w_S_l1Split_4 (s,(c.toNat:Int),acc,(pre.length:Int),((pre.length+cur.length:Nat):Int),())=w_S_l1Split_4 (s,(c.toNat:Int),acc++[cur],((pre.length+cur.length+1:Nat):Int),((pre.length+cur.length+1:Nat):Int),()):=by
    refine fix_go ?_
    show b_S_l1Split_4 s (c.toNat:Int) acc (pre.length:Int) ((pre.length+cur.length:Nat):Int)=_
    unfold b_S_l1Split_4
    rw[decide_eq_true (by omega:((pre.length+cur.length:Nat):Int)<(s.length:Int)),cond_true,inB_lt hlt,cond_true,toNat_cast,getD_of hlt,hb,byte_eq,beq_iff_eq.2 h10,cond_true]
    rw[show cutB (pre.length:Int) ((pre.length+cur.length:Nat):Int) s.length=true from by unfold cutB;simp;omega,cond_true,hx,roomB_ok (by simp;omega),cond_true,wrap64 (by omega) (by omega),Option.bind_some]
    dsimp only
    rw[wrap64 (by omega) (by omega)]
    rfl
   rw[this]
   have ih:=l1Split_go s c hs rest [] (pre++(cur++[b])) (acc++[cur]) (by simp) (by rw[e];simp) (by simp;omega)
   rw[show(pre++(cur++[b])).length=pre.length+cur.length+1 by simp;omega] at ih
   simp only[List.length_nil,Nat.add_zero,List.nil_append] at ih
   rw[ih,h10,splitC_at rest hc]
   simp
  ·have:w_S_l1Split_4 (s,(c.toNat:Int),acc,(pre.length:Int),((pre.length+cur.length:Nat):Int),())=w_S_l1Split_4 (s,(c.toNat:Int),acc,(pre.length:Int),((pre.length+(cur++[b]).length:Nat):Int),()):=by
    refine fix_go ?_
    show b_S_l1Split_4 s (c.toNat:Int) acc (pre.length:Int) ((pre.length+cur.length:Nat):Int)=_
    unfold b_S_l1Split_4
    rw[decide_eq_true (by omega:((pre.length+cur.length:Nat):Int)<(s.length:Int)),cond_true,inB_lt hlt,cond_true,toNat_cast,getD_of hlt,hb,byte_eq,beq_eq_false_iff_ne.2 h10,cond_false,Option.bind_some]
    dsimp only
    rw[wrap64 (by omega) (by omega),List.length_append]
    rfl
   rw[this]
   have ih:=l1Split_go s c hs rest (cur++[b]) pre acc (by simp only[List.mem_append,List.mem_singleton,not_or];exact⟨hc,fun h=>h10 h.symm⟩) (by rw[e];simp) ha
   rw[ih]
   simp
theorem l1Split_S (s:List UInt8)(c:UInt8)(hs:s.length≤100000):f_S_l1Split s (c.toNat:Int)=some ((splitC c s,()),()):=by
 unfold f_S_l1Split
 exact l1Split_go s c hs s [] [] [] (by simp) (by simp) (Nat.le_refl _)
end R
end

section
/- Numbers and counts, as both sides read them. -/
open Go Go.Dn
namespace R
set_option linter.unusedVariables false
def digG (n:Nat)(x:UInt8):Nat⊕Unit:=if isDg x=true then .inl (dstep n x) else .inr ()
theorem run_dig:∀(l:List UInt8) (n:Nat),run digG n l=if l.all isDg=true then .inl (l.foldl dstep n) else .inr ()
 |[],n=>rfl
 |x::l,n=>by
  unfold run digG
  by_cases h:isDg x=true
  ·rw[if_pos h]
   dsimp only
   rw[show run (fun n x=>if isDg x=true then Sum.inl (dstep n x) else Sum.inr ()) (dstep n x) l=run digG (dstep n x) l from rfl,run_dig l]
   rw[List.all_cons,h,Bool.true_and,List.foldl_cons]
  ·rw[if_neg h]
   dsimp only
   rw[List.all_cons,if_neg (by simp[h])]
theorem dig_test (x:UInt8):isDg x=(!(decide (((x.toNat:Nat):Int)<48))&& !(decide (((x.toNat:Nat):Int)>57))):=by
 unfold isDg
 rw[Bool.eq_iff_iff]
 simp only[Bool.and_eq_true,decide_eq_true_eq,Bool.not_eq_true',decide_eq_false_iff_not]
 omega
theorem read_loop {s:List UInt8}(hs:s.length≤6):w_S_l1Read_5 (s,0,0,())=some (match (if s.all isDg=true then .inl (dval s) else .inr ():Nat⊕Unit) with| .inl b=>.inl ((b:Int),())| .inr _=>.inr (-1,())):=by
 have hpow:∀i,i≤6→10^i≤1000000:=fun i hi=>Nat.le_trans (Nat.pow_le_pow_right (by omega) hi) (by decide)
 have h:=(fix_run (B:=fun d=>b_S_l1Read_5 d.1 d.2.1 d.2.2.1) s digG (fun(n:Nat) i=>(s,(n:Int),(i:Int),())) (fun b=>(.inl ((b:Int),()):(PV (.int .i64)×Unit)⊕(PV (.int .i64)×Unit))) (fun _=>.inr (-1,())) (fun i n=>n<10^i)
  (fun i hi a b hI hg=>by
    have hp:=hpow i (by omega)
    unfold digG at hg
    split at hg
    ·rename_i hd
     obtain rfl:=Sum.inl.inj hg
     have h10:=dig_lt hd
     have hd0:=hd
     unfold isDg at hd0
     rw[Bool.and_eq_true,decide_eq_true_eq,decide_eq_true_eq] at hd0
     rw[dig_test,Bool.and_eq_true,Bool.not_eq_true',Bool.not_eq_true'] at hd
     refine⟨by unfold dstep;rw[Nat.pow_succ];omega,?_⟩
     show b_S_l1Read_5 s (a:Int) (i:Int)=_
     unfold b_S_l1Read_5
     rw[decide_eq_true (by omega:(i:Int)<(s.length:Int)),cond_true,inB_lt hi,cond_true,toNat_cast,getD_of hi,hd.1,cond_false,cond_true,hd.2,Option.bind_some]
     dsimp only
     rw[cond_false,inB_lt hi,cond_true,toNat_cast,getD_of hi,wrap8 (by omega) (by omega),wrap64 (x:=10*(a:Int)) (by omega) (by omega),wrap64 (x:=((s[i].toNat:Nat):Int) -48) (by omega) (by omega),wrap64 (by omega) (by omega),wrap64 (by omega) (by omega)]
     unfold dstep
     rw[show 10*(a:Int)+(((s[i].toNat:Nat):Int) -48)=((10*a+(s[i].toNat -48):Nat):Int) by omega]
     rfl
    ·cases hg)
  (fun i hi a r hI hg=>by
    unfold digG at hg
    split at hg
    ·cases hg
    ·rename_i hd
     rw[dig_test] at hd
     show b_S_l1Read_5 s (a:Int) (i:Int)=_
     unfold b_S_l1Read_5
     rw[decide_eq_true (by omega:(i:Int)<(s.length:Int)),cond_true,inB_lt hi,cond_true,toNat_cast,getD_of hi,cond_true]
     cases h1:decide (((s[i].toNat:Nat):Int)<48)
     ·cases h2:decide (((s[i].toNat:Nat):Int)>57)
      ·rw[h1,h2] at hd;exact absurd rfl hd
      ·rfl
     ·rfl)
  (fun a hI=>by
    show b_S_l1Read_5 s (a:Int) (s.length:Int)=_
    unfold b_S_l1Read_5
    rw[decide_eq_false (Int.lt_irrefl _),cond_false]) 0 (by decide)).1
 rw[show w_S_l1Read_5 (s,0,0,())=_ from h,run_dig]
 unfold dval
 by_cases hd:s.all isDg=true
 ·rw[if_pos hd]
 ·rw[if_neg hd]
theorem number_S' (s:List UInt8)(hs:s.length≤100000):f_S_ReadNumber s=some ((if canon s=true then(dval s:Int) else 0,canon s,()),()):=by
 have hl:∀v:Int,f_S_l1Read s=some ((v,()),())→(canon s=true→v=(dval s:Int))→(canon s=false→s.length≤4→v<0)→f_S_ReadNumber s=some ((if canon s=true then(dval s:Int) else 0,canon s,()),()):=by
  intro v h h1 h2
  unfold f_S_ReadNumber
  rw[h,Option.bind_some]
  dsimp only
  cases hc:canon s with
  |true=>
   have h4:=(canon_at hc).1
   rw[h1 hc,decide_eq_false (by omega:¬(s.length:Int)>4),cond_false,Option.bind_some]
   dsimp only
   rw[decide_eq_false (by omega:¬(dval s:Int)<0),cond_false]
   rfl
  |false=>
   by_cases h4:s.length≤4
   ·have:=h2 hc h4
    rw[decide_eq_false (by omega:¬(s.length:Int)>4),cond_false,Option.bind_some]
    dsimp only
    rw[decide_eq_true this]
    rfl
   ·rw[decide_eq_true (by omega:(s.length:Int)>4)]
    rfl
 have hin:f_S_l1In (s.length:Int) 1 6=some ((decide ((s.length:Int)≥1)&&decide ((s.length:Int)≤6),()),()):=in_S _ _ _
 by_cases h16:1≤s.length∧s.length≤6
 ·have e16:(decide ((s.length:Int)≥1)&&decide ((s.length:Int)≤6))=true:=by
   rw[decide_eq_true (by omega),decide_eq_true (by omega)];rfl
  obtain⟨c,r,rfl⟩:∃c r,s=c::r:=by
   cases s with
   |nil=>simp at h16
   |cons c r=>exact⟨c,r,rfl⟩
  have hb:(((((c::r).getD (0:Int).toNat 0).toNat:Nat):Int)==48)=(c==48):=by
   show(((c.toNat:Nat):Int)==48)=_
   rw[show(48:Int)=(((48:UInt8).toNat:Nat):Int) from rfl,byte_eq]
  have hzero:c=48∧r≠[]→canon (c::r)=false:=by
   rintro⟨rfl,hr⟩
   obtain⟨d,q,rfl⟩:=List.exists_cons_of_ne_nil hr
   unfold canon lead
   simp
  by_cases hz:c=48∧r≠[]
  ·refine hl (-1) ?_ (fun h=>by rw[hzero hz] at h;cases h) fun _ _=>by omega
   unfold f_S_l1Read
   rw[hin,Option.bind_some,e16,show inB 0 (c::r).length=true from inB_lt (i:=0) (by simp),show(((((c::r).getD (0:Int).toNat 0).toNat:Nat):Int)==48)=true from by rw[hb,hz.1];rfl]
   have:0<r.length:=List.length_pos_iff.2 hz.2
   simp only[Bool.not_true,cond_false,cond_true]
   rw[decide_eq_true (by simp;omega:((c::r).length:Int)>1),Option.bind_some]
   rfl
  ·have hlead:lead (c::r)=true:=by
    cases r with
    |nil=>rfl
    |cons d q=>
     have:c≠48:=fun e=>hz ⟨e,by simp⟩
     simp[lead,this]
   have hgo:f_S_l1Read (c::r)=(w_S_l1Read_5 (c::r,0,0,())).bind fun x14=>
    match x14 with
    | .inl l12=>some ((l12.1,()),())
    | .inr l13=>some ((l13.1,()),()):=by
    unfold f_S_l1Read
    rw[hin,Option.bind_some,e16,show inB 0 (c::r).length=true from inB_lt (i:=0) (by simp),hb]
    simp only[Bool.not_true,cond_false,cond_true]
    cases hc48:c==48
    ·rw[cond_false,Option.bind_some];rfl
    ·have hr:r=[]:=Classical.byContradiction fun hn=>hz ⟨beq_iff_eq.1 hc48,hn⟩
     subst hr
     rfl
   rw[read_loop (by omega)] at hgo
   by_cases hd:(c::r).all isDg=true
   ·rw[if_pos hd] at hgo
    refine hl _ hgo (fun _=>rfl) fun hc h4=> ?_
    unfold canon at hc
    rw[hd,hlead,decide_eq_true h4] at hc
    cases hc
   ·rw[if_neg hd] at hgo
    refine hl _ hgo (fun hc=>absurd (canon_at hc).2.1 hd) fun _ _=>by show(-1:Int)<0;omega
 ·have e16:(decide ((s.length:Int)≥1)&&decide ((s.length:Int)≤6))=false:=by
   rw[Bool.and_eq_false_iff,decide_eq_false_iff_not,decide_eq_false_iff_not]
   omega
  refine hl (-1) ?_ (fun h=> ?_) fun _ _=>by omega
  ·unfold f_S_l1Read
   rw[hin,Option.bind_some,e16]
   rfl
  ·have h1:=(canon_at h).1
   have h2:=List.length_pos_iff.2 (canon_at h).2.2.2
   omega
theorem number_I' (s:List UInt8)(hs:s.length≤100000):f_I_readNumber s=some ((numV s,canon s,()),()):=by
 unfold f_I_readNumber numF
 rw[decide_eq_true (by omega:s.length≤1000000),cond_true,numB_canon]
end R
end

section
/- Ranges by their first and last line, as both sides read them. -/
open Go Go.Dn
namespace R
set_option linter.unusedVariables false
def twoN (s:List UInt8):Option (Nat×Nat×Bool):=match comma s with
 |none=>if canon s=true then some (dval s,dval s,false) else none
 |some (a,b)=>if canon a=true∧canon b=true then some (dval a,dval b,true) else none
def endR (less:Nat)(s:List UInt8):PVs [.int .i64,.int .i64,.bool]:=match twoN s with
 |none=>(0,0,false,())
 |some (n,m,two)=>bif decide (n≤1000)&&(decide (m≤1000)&& !(two&&decide (m+less<n))) then((n:Int),(m:Int),true,()) else(0,0,false,())
theorem twoN_one {s:List UInt8}{n m:Nat}(h:twoN s=some (n,m,false)):n=m:=by
 unfold twoN at h
 split at h
 ·split at h
  ·cases h;rfl
  ·cases h
 ·split at h
  ·cases h
  ·cases h
theorem twoN_lt {s:List UInt8}{n m:Nat}{t:Bool}(h:twoN s=some (n,m,t)):n<10000∧m<10000:=by
 unfold twoN at h
 split at h
 ·split at h
  ·rename_i hc
   cases h
   exact⟨canon_lt hc,canon_lt hc⟩
  ·cases h
 ·split at h
  ·rename_i hc
   cases h
   exact⟨canon_lt hc.1,canon_lt hc.2⟩
  ·cases h
theorem comma_len {s a b:List UInt8}(hc:comma s=some (a,b)):a.length≤s.length∧b.length≤s.length:=by
 by_cases hm:(44:UInt8)∈s
 ·obtain⟨t,r,rfl,ht⟩:=first_of hm
  rw[comma_at r ht] at hc
  obtain⟨rfl,rfl⟩:=Prod.mk.inj (Option.some.inj hc)
  constructor<;>simp<;>omega
 ·rw[comma_no hm] at hc;cases hc
theorem readTwo_I (s:List UInt8)(hs:s.length≤100000):(∃n m t,twoN s=some (n,m,t)∧f_I_readTwo s=some (((n:Int),(m:Int),t,true,()),()))∨(twoN s=none∧∃n m t,f_I_readTwo s=some ((n,m,t,false,()),())):=by
 unfold f_I_readTwo twoN
 rw[comma_I s hs,Option.bind_some]
 cases hc:comma s with
 |none=>
  dsimp only
  rw[number_I' s hs,Option.bind_some,Bool.not_false,cond_true]
  cases hn:canon s with
  |false=>exact .inr ⟨by simp,_,_,_,rfl⟩
  |true=>exact .inl ⟨dval s,dval s,false,by simp,by rw[numV_canon hn]⟩
 |some p=>
  obtain⟨a,b⟩:=p
  obtain⟨h1,h2⟩:=comma_len hc
  dsimp only
  rw[number_I' a (by omega),Option.bind_some,Bool.not_true,cond_false,number_I' b (by omega),Option.bind_some]
  cases ha:canon a with
  |false=>exact .inr ⟨by simp,_,_,_,rfl⟩
  |true=>
   cases hb:canon b with
   |false=>exact .inr ⟨by simp,_,_,_,rfl⟩
   |true=>exact .inl ⟨dval a,dval b,true,by simp,by rw[numV_canon ha,numV_canon hb];rfl⟩
theorem readEnd_I (s:List UInt8)(hs:s.length≤100000):f_I_ReadEnd s=some (endR 1 s,()):=by
 unfold f_I_ReadEnd f_I_readEnds endR
 rcases readTwo_I s hs with⟨n,m,t,h1,h2⟩|⟨h1,n,m,t,h2⟩
 ·obtain⟨l1,l2⟩:=twoN_lt h1
  rw[h1,h2,Option.bind_some]
  dsimp only
  rw[Bool.not_true,cond_false]
  by_cases hm:n≤1000∧m≤1000
  ·rw[decide_eq_true hm.1,decide_eq_true hm.2,Bool.true_and,Bool.true_and]
   have hmax:¬((bif decide ((m:Int)>(n:Int)) then(m:Int) else(n:Int))>1000):=by
    cases decide ((m:Int)>(n:Int))
    ·rw[cond_false];omega
    ·rw[cond_true];omega
   rw[decide_eq_false hmax,cond_false]
   cases t with
   |false=>rfl
   |true=>
    rw[cond_true,wrap64 (by omega) (by omega)]
    by_cases hlt:m+1<n
    ·rw[decide_eq_true (by omega:(n:Int)>(m:Int)+1),decide_eq_true hlt];rfl
    ·rw[decide_eq_false (by omega:¬(n:Int)>(m:Int)+1),decide_eq_false hlt];rfl
  ·have hmax:(bif decide ((m:Int)>(n:Int)) then(m:Int) else(n:Int))>1000:=by
    by_cases h:(m:Int)>(n:Int)
    ·rw[decide_eq_true h,cond_true];omega
    ·rw[decide_eq_false h,cond_false];omega
   rw[decide_eq_true hmax,cond_true,Option.bind_some]
   have:(decide (n≤1000)&&(decide (m≤1000)&& !(t&&decide (m+1<n))))=false:=by
    rw[Bool.eq_false_iff]
    intro h
    simp only[Bool.and_eq_true,decide_eq_true_eq] at h
    exact hm ⟨h.1,h.2.1⟩
   rw[this]
   rfl
 ·rw[h1,h2]
  rfl
theorem readPair_S (s:List UInt8)(hs:s.length≤100000):f_S_ReadPair s=some (endR 0 s,()):=by
 have key:(∃n m t,twoN s=some (n,m,t)∧f_S_l4Two s=some ((bif decide (n≤1000)&&decide (m≤1000) then((n:Int),(m:Int),true,()) else(0,0,false,())),()))∨(twoN s=none∧f_S_l4Two s=some ((0,0,false,()),())):=by
  unfold f_S_l4Two twoN
  rw[show(44:Int)=(((44:UInt8).toNat:Nat):Int) from rfl,l1Split_S s 44 hs,Option.bind_some]
  dsimp only
  by_cases hm:(44:UInt8)∈s
  ·obtain⟨a,b,rfl,ht⟩:=first_of hm
   have hla:a.length≤100000:=by simp at hs;omega
   have hlb:b.length≤100000:=by simp at hs;omega
   rw[comma_at b ht,splitC_at b ht,show inB 0 (a::splitC 44 b).length=true from inB_lt (i:=0) (by simp),cond_true]
   rw[show(a::splitC 44 b).getD (0:Int).toNat []=a from rfl,number_S' a hla,Option.bind_some]
   dsimp only
   cases ha:canon a with
   |false=>exact .inr ⟨by simp,rfl⟩
   |true=>
    rw[Bool.not_true,cond_false,if_pos rfl]
    by_cases hb:(44:UInt8)∈b
    ·refine .inr ⟨?_,?_⟩
     ·rw[if_neg]
      intro h
      have:=canon_dg h.2 44 hb
      cases this
     ·obtain⟨b1,b2,rfl,hb1⟩:=first_of hb
      rw[splitC_at b2 hb1]
      have hlen:1≤(splitC 44 b2).length:=List.length_pos_iff.2 (splitC_ne 44 b2)
      rw[decide_eq_true (by simp;omega:((a::b1::splitC 44 b2).length:Int)>2)]
      rfl
    ·rw[splitC_not hb,show decide (((a::[b]).length:Int)>2)=false from rfl,cond_false]
     have h1:=canon_lt ha
     by_cases hn:dval a≤1000
     ·rw[decide_eq_false (by omega:¬(dval a:Int)>1000),Option.bind_some]
      dsimp only
      rw[cond_false,show(((a::[b]).length:Int)==1)=false from rfl,cond_false,show inB 1 (a::[b]).length=true from rfl,cond_true,show(a::[b]).getD (1:Int).toNat []=b from rfl,number_S' b hlb,Option.bind_some]
      dsimp only
      cases hbc:canon b with
      |false=>exact .inr ⟨by simp,rfl⟩
      |true=>
       have h2:=canon_lt hbc
       refine .inl ⟨dval a,dval b,true,by simp,?_⟩
       rw[Bool.not_true,cond_false,if_pos rfl,decide_eq_true hn,Bool.true_and]
       by_cases hmm:dval b≤1000
       ·rw[decide_eq_false (by omega:¬(dval b:Int)>1000),decide_eq_true hmm];rfl
       ·rw[decide_eq_true (by omega:(dval b:Int)>1000),decide_eq_false hmm];rfl
     ·rw[decide_eq_true (by omega:(dval a:Int)>1000),Option.bind_some]
      dsimp only
      rw[cond_true]
      cases hbc:canon b with
      |false=>exact .inr ⟨by simp,rfl⟩
      |true=>
       refine .inl ⟨dval a,dval b,true,by simp,?_⟩
       rw[decide_eq_false hn];rfl
  ·rw[comma_no hm,splitC_not hm,show inB 0 [s].length=true from rfl,cond_true,show[s].getD (0:Int).toNat []=s from rfl,number_S' s hs,Option.bind_some]
   dsimp only
   cases hn:canon s with
   |false=>exact .inr ⟨by simp,rfl⟩
   |true=>
    refine .inl ⟨dval s,dval s,false,by simp,?_⟩
    rw[Bool.not_true,cond_false,if_pos rfl,show decide (([s].length:Int)>2)=false from rfl,cond_false]
    by_cases h:dval s≤1000
    ·rw[decide_eq_false (by omega:¬(dval s:Int)>1000),decide_eq_true h];rfl
    ·rw[decide_eq_true (by omega:(dval s:Int)>1000),decide_eq_false h];rfl
 unfold f_S_ReadPair endR
 rcases key with⟨n,m,t,h1,h2⟩|⟨h1,h2⟩
 ·rw[h1,h2,Option.bind_some]
  dsimp only
  by_cases hm:n≤1000∧m≤1000
  ·rw[decide_eq_true hm.1,decide_eq_true hm.2]
   show((some ((n:Int),(m:Int),decide ((n:Int)>(m:Int)),()):Option ((PV (.int .i64)×PV (.int .i64)×PV .bool×Unit))).bind _)=some ((bif !(t&&decide (m+0<n)) then _ else _),())
   rw[Option.bind_some]
   dsimp only
   cases t with
   |false=>
    obtain rfl:=twoN_one h1
    rw[decide_eq_false (Int.lt_irrefl _)]
    rfl
   |true=>
    by_cases hlt:m+0<n
    ·rw[decide_eq_true (by omega:(n:Int)>(m:Int)),decide_eq_true hlt];rfl
    ·rw[decide_eq_false (by omega:¬(n:Int)>(m:Int)),decide_eq_false hlt];rfl
  ·have e1:(decide (n≤1000)&&decide (m≤1000))=false:=by
    rw[Bool.eq_false_iff];intro h;simp only[Bool.and_eq_true,decide_eq_true_eq] at h;exact hm h
   have e2:(decide (n≤1000)&&(decide (m≤1000)&& !(t&&decide (m+0<n))))=false:=by
    rw[←Bool.and_assoc,e1];rfl
   rw[e1,e2]
   rfl
 ·rw[h1,h2]
  rfl
theorem dec_no44 (n:Nat)(h:n<10000):(44:UInt8)∉dec n:=fun hm=>by
 have:=canon_dg (canon_dec h).1 44 hm
 cases this
theorem twoN_pair {a m:Nat}(ha:a≤999)(hm:a+m≤1000):∃t,twoN (pairT a m)=some (numb a m,a+m,t):=by
 unfold pairT twoN
 have hn:numb a m<10000:=by unfold numb;split<;>omega
 obtain⟨c1,c2⟩:=canon_dec hn
 obtain⟨c3,c4⟩:=canon_dec (show a+m<10000 by omega)
 by_cases h:m≤1
 ·rw[if_pos h,comma_no (dec_no44 _ hn)]
  dsimp only
  rw[if_pos c1,c2]
  have:numb a m=a+m:=by unfold numb;split<;>omega
  rw[this]
  exact⟨_,rfl⟩
 ·rw[if_neg h,show dec (numb a m)++([44]++dec (a+m))=dec (numb a m)++44::dec (a+m) from rfl,comma_at _ (dec_no44 _ hn)]
  dsimp only
  rw[if_pos ⟨c1,c3⟩,c2,c4]
  exact⟨_,rfl⟩
theorem endR_pair {less a m:Nat}(ha:a≤999)(hm:a+m≤1000):endR less (pairT a m)=(((numb a m:Nat):Int),((a+m:Nat):Int),true,()):=by
 obtain⟨t,h⟩:=twoN_pair ha hm
 unfold endR
 rw[h]
 dsimp only
 have hn:numb a m≤a+m∨(m=0∧numb a m=a):=by unfold numb;split<;>omega
 have:(decide (numb a m≤1000)&&(decide (a+m≤1000)&& !(t&&decide (a+m+less<numb a m))))=true:=by
  rw[decide_eq_true (by omega),decide_eq_true (by omega),decide_eq_false (by omega)]
  simp
 rw[this]
 rfl
theorem endR_rng (less:Nat)(s:List UInt8):0≤(endR less s).1∧(endR less s).1≤1000:=by
 unfold endR
 split
 ·exact⟨Int.le_refl _,by decide⟩
 ·rename_i n m t _
  cases h:decide (n≤1000)&&(decide (m≤1000)&& !(t&&decide (m+less<n)))
  ·exact⟨Int.le_refl _,by show(0:Int)≤1000;decide⟩
  ·simp only[Bool.and_eq_true,decide_eq_true_eq] at h
   rw[cond_true]
   exact⟨Int.natCast_nonneg _,by show(n:Int)≤1000;omega⟩
theorem pairT_ch {a m:Nat}(ha:a≤999)(hm:a+m≤1000):∀c∈pairT a m,isDg c=true∨c=44:=by
 intro c hc
 have hn:numb a m<10000:=by unfold numb;split<;>omega
 unfold pairT at hc
 split at hc
 ·exact .inl (canon_dg (canon_dec hn).1 c hc)
 ·rcases List.mem_append.1 hc with hc|hc
  ·exact .inl (canon_dg (canon_dec hn).1 c hc)
  ·rcases List.mem_cons.1 hc with rfl|hc
   ·exact .inr rfl
   ·exact .inl (canon_dg (canon_dec (show a+m<10000 by omega)).1 c hc)
end R
end

section
/- The rows of one half, as the program takes them. -/
open Go Go.Dn
namespace R
set_option linter.unusedVariables false
abbrev noneL:List UInt8:=[92,32,110,111,110,101,10]
def restQ (rest:TX):TX:=if rest.head?=some noneL then rest.drop 1 else rest
def lineQ (t:List UInt8)(rest:TX):List UInt8:=if rest.head?=some noneL then plainB t else t
abbrev mkRow (k:Int)(s:List UInt8):PV Y_impl_Row:=(k,(s,()))
theorem restQ_len (rest:TX):(restQ rest).length≤rest.length:=by
 unfold restQ
 split
 ·rw[List.length_drop];omega
 ·exact Nat.le_refl _
theorem restQ_mem {rest:TX}{l:List UInt8}(h:l∈restQ rest):l∈rest:=by
 unfold restQ at h
 split at h
 ·exact List.mem_of_mem_drop h
 ·exact h
theorem plainB_len (t:List UInt8):(plainB t).length≤t.length:=by
 unfold plainB
 cases endP t
 ·exact Nat.le_refl _
 ·rw[cond_true,List.length_take];omega
theorem lineQ_len (t:List UInt8)(rest:TX):(lineQ t rest).length≤t.length:=by
 unfold lineQ
 split
 ·exact plainB_len t
 ·exact Nat.le_refl _
theorem drop_one {α:Type}(l:α)(ls:List α):cutL 1 ((l::ls).length:Int) (l::ls)=ls:=by
 unfold cutL
 rw[toNat_cast,List.take_length]
 rfl
theorem drop_ok {α:Type}(l:α)(ls:List α):cutB 1 ((l::ls).length:Int) (l::ls).length=true:=by
 unfold cutB;simp;omega
def rowH (sg:UInt8)(l:List UInt8):Bool:=decide (1<l.length)&&(l.getD 1 0==32&&([32,33,sg]:List UInt8).contains (l.getD 0 0))
def kdH (kd:Int)(l:List UInt8):Int:=bif l.getD 0 0==32 then 1 else kd
def takeH (sg:UInt8)(kd:Int):Nat→TX→RW×TX
 |0,ls=>([],ls)
 |_+1,[]=>([],[])
 |f+1,l::ls=>bif rowH sg l then(mkRow (kdH kd l) (lineQ (l.drop 2) ls)::(takeH sg kd f (restQ ls)).1,(takeH sg kd f (restQ ls)).2) else([],l::ls)
theorem b32 (c:UInt8):(((c.toNat:Nat):Int)==32)=(c==32):=byte_eq c 32
theorem cut01 {l:List UInt8}(h:1<l.length):cutB 0 1 l.length=true∧cutL 0 1 l=[l.getD 0 0]∧cutB 2 (l.length:Int) l.length=true∧cutL 2 (l.length:Int) l=l.drop 2:=by
 match l,h with
 |a::b::t,_=>
  refine⟨by unfold cutB;simp;omega,by unfold cutL;simp,by unfold cutB;simp;omega,by unfold cutL;rw[toNat_cast,List.take_length];rfl⟩
theorem take_step (sg:UInt8)(kd:Int)(l:List UInt8)(ls:TX)(acc:RW)(hl:l.length≤3000)(hls:ls.length≤3000)(ha:acc.length≤3000):
 b_I_takeHalf_2 (l::ls) [sg] kd acc=some (bif rowH sg l then .inl (restQ ls,[sg],kd,acc++[mkRow (kdH kd l) (lineQ (l.drop 2) ls)],()) else .inr (l::ls,acc,())):=by
 have e0:(l::ls).getD ((0:Int).toNat) []=l:=rfl
 have i0:inB 0 (l::ls).length=true:=inB_lt (i:=0) (by simp)
 unfold b_I_takeHalf_2 rowH
 rw[decide_eq_true (by simp:((l::ls).length:Int)>0)]
 simp only[e0,i0,cond_true]
 by_cases h1:1<l.length
 ·obtain⟨k1,k2,k3,k4⟩:=cut01 h1
  have i1:inB 1 l.length=true:=inB_lt (i:=1) h1
  have i2:inB 0 l.length=true:=inB_lt (i:=0) (by omega)
  rw[decide_eq_true (by omega:(l.length:Int)>1),decide_eq_true h1]
  simp only[cond_true,i1,i2,b32,k1,k2,k3,k4,Bool.true_and,show((1:Int).toNat)=1 from rfl,show((0:Int).toNat)=0 from rfl]
  cases hc:(l.getD 1 0==32)
  ·rfl
  ·rw[cond_true,show decide ([32,33].length+[sg].length≤1099511627776)=true from rfl,cond_true,show f_strings_Contains ([32,33]++[sg]) [l.getD 0 0]=some ((([32,33,sg]:List UInt8).contains (l.getD 0 0),()),()) from rfl,Option.bind_some,Bool.true_and]
   dsimp only
   cases hs:([32,33,sg]:List UInt8).contains (l.getD 0 0)
   ·rfl
   ·rw[cond_true,cond_true]
    unfold kdH
    cases ls with
    |nil=>
     have e1:restQ []=[]:=rfl
     have e2:lineQ (l.drop 2) []=l.drop 2:=rfl
     cases(l.getD 0 0==32)
     ·simp only[cond_false,Option.bind_some,drop_ok,drop_one,cond_true,e1,e2,show decide ((([]:TX).length:Int)>0)=false from rfl]
      rw[roomB_ok (by simp;omega)];rfl
     ·simp only[cond_true,Option.bind_some,drop_ok,drop_one,e1,e2,show decide ((([]:TX).length:Int)>0)=false from rfl,cond_false]
      rw[roomB_ok (by simp;omega)];rfl
    |cons n ls=>
     have j0:inB 0 (n::ls).length=true:=inB_lt (i:=0) (by simp)
     have j1:decide (((n::ls).length:Int)>0)=true:=decide_eq_true (by simp)
     have j2:(n::ls).getD 0 []=n:=rfl
     have hpl:=plain_I (l.drop 2) (by rw[List.length_drop];omega)
     cases hn:(n==noneL)
     ·have hne:(n::ls).head?≠some noneL:=by
       intro h
       have:n=noneL:=Option.some.inj h
       rw[this] at hn
       simp at hn
      have e1:restQ (n::ls)=n::ls:=if_neg hne
      have e2:lineQ (l.drop 2) (n::ls)=l.drop 2:=if_neg hne
      cases(l.getD 0 0==32)
      ·simp only[cond_false,Option.bind_some,drop_ok,drop_one,cond_true,e1,e2,j0,j1,j2,hn,show((0:Int).toNat)=0 from rfl]
       rw[roomB_ok (by simp;omega)];rfl
      ·simp only[cond_false,Option.bind_some,drop_ok,drop_one,cond_true,e1,e2,j0,j1,j2,hn,show((0:Int).toNat)=0 from rfl]
       rw[roomB_ok (by simp;omega)];rfl
     ·have hne:(n::ls).head?=some noneL:=by
       rw[show n=noneL from by simpa using hn];rfl
      have e1:restQ (n::ls)=ls:=if_pos hne
      have e2:lineQ (l.drop 2) (n::ls)=plainB (l.drop 2):=if_pos hne
      cases(l.getD 0 0==32)
      ·simp only[cond_false,Option.bind_some,drop_ok,drop_one,cond_true,e1,e2,j0,j1,j2,hn,hpl,show((0:Int).toNat)=0 from rfl]
       rw[roomB_ok (by simp;omega)];rfl
      ·simp only[cond_false,Option.bind_some,drop_ok,drop_one,cond_true,e1,e2,j0,j1,j2,hn,hpl,show((0:Int).toNat)=0 from rfl]
       rw[roomB_ok (by simp;omega)];rfl
 ·rw[decide_eq_false (by omega:¬(l.length:Int)>1),decide_eq_false h1]
  rfl
theorem takeH_len (sg:UInt8)(kd:Int):∀(fu:Nat) (ls:TX),(takeH sg kd fu ls).1.length+(takeH sg kd fu ls).2.length≤ls.length
 |0,ls=>by simp[takeH]
 |_+1,[]=>Nat.le_refl _
 |f+1,l::ls=>by
  unfold takeH
  have ih:=takeH_len sg kd f (restQ ls)
  have:=restQ_len ls
  cases rowH sg l
  ·simp
  ·rw[cond_true]
   simp only[List.length_cons]
   omega
theorem takeH_mem (sg:UInt8)(kd:Int):∀(fu:Nat) (ls:TX) (x:List UInt8),x∈(takeH sg kd fu ls).2→x∈ls
 |0,ls,x,h=>h
 |_+1,[],x,h=>h
 |f+1,l::ls,x,h=>by
  unfold takeH at h
  cases hc:rowH sg l<;>rw[hc] at h
  ·exact h
  ·exact List.mem_cons_of_mem _ (restQ_mem (takeH_mem sg kd f _ x h))
theorem takeH_rows (sg:UInt8)(kd:Int):∀(fu:Nat) (ls:TX),(∀l∈ls,l.length≤3000)→∀r∈(takeH sg kd fu ls).1,(r.1=1∨r.1=kd)∧List.length r.2.1≤3000
 |0,ls,_,r,h=>by simp[takeH] at h
 |_+1,[],_,r,h=>by simp[takeH] at h
 |f+1,l::ls,hl,r,h=>by
  unfold takeH at h
  cases hc:rowH sg l<;>rw[hc] at h
  ·cases h
  ·rcases List.mem_cons.1 h with rfl|h
   ·refine⟨?_,?_⟩
    ·show kdH kd l=1∨kdH kd l=kd
     unfold kdH
     cases(l.getD 0 0==32)
     ·exact .inr rfl
     ·exact .inl rfl
    ·have:=lineQ_len (l.drop 2) ls
     rw[List.length_drop] at this
     have:=hl l (List.mem_cons_self ..)
     show(lineQ (l.drop 2) ls).length≤3000
     omega
   ·exact takeH_rows sg kd f _ (fun x hx=>hl x (List.mem_cons_of_mem _ (restQ_mem hx))) r h
theorem take_loop (sg:UInt8)(kd:Int):∀(fu:Nat) (ls:TX) (acc:RW),ls.length≤fu→(∀l∈ls,l.length≤3000)→acc.length+ls.length≤3000→
 w_I_takeHalf_2 (ls,[sg],kd,acc,())=some ((takeH sg kd fu ls).2,acc++(takeH sg kd fu ls).1,())
 |fu,[],acc,_,_,_=>by
  refine(fix_end (B:=fun d=>b_I_takeHalf_2 d.1 d.2.1 d.2.2.1 d.2.2.2.1) (r:=([],acc,())) rfl).trans ?_
  cases fu<;>simp[takeH]
 |0,l::ls,acc,h,_,_=>absurd h (by simp)
 |fu+1,l::ls,acc,h,hl,ha=>by
  have hs:=take_step sg kd l ls acc (hl l (List.mem_cons_self ..)) (by simp at ha;omega) (by omega)
  unfold takeH
  cases hc:rowH sg l<;>rw[hc] at hs
  ·refine(fix_end (B:=fun d=>b_I_takeHalf_2 d.1 d.2.1 d.2.2.1 d.2.2.2.1) (r:=(l::ls,acc,())) hs).trans ?_
   simp
  ·have hr:=restQ_len ls
   have ih:=take_loop sg kd fu (restQ ls) (acc++[mkRow (kdH kd l) (lineQ (l.drop 2) ls)]) (by simp at h;omega) (fun x hx=>hl x (List.mem_cons_of_mem _ (restQ_mem hx))) (by simp at ha ⊢;omega)
   refine(fix_go (B:=fun d=>b_I_takeHalf_2 d.1 d.2.1 d.2.2.1 d.2.2.2.1) (t:=(restQ ls,[sg],kd,acc++[mkRow (kdH kd l) (lineQ (l.drop 2) ls)],())) hs).trans (ih.trans ?_)
   simp
theorem takeHalf_I (sg:UInt8)(kd:Int)(ls:TX)(h1:ls.length≤3000)(h2:∀l∈ls,l.length≤3000):f_I_takeHalf ls [sg] kd=some (((takeH sg kd ls.length ls).1,(takeH sg kd ls.length ls).2,()),()):=by
 unfold f_I_takeHalf
 rw[take_loop sg kd ls.length ls [] (Nat.le_refl _) h2 (by simpa using h1),Option.bind_some]
 rfl
end R
end

section
/- Both sides' rows put together. -/
open Go Go.Dn
namespace R
set_option linter.unusedVariables false
def mg:Nat→RW→RW→Option RW
 |0,_,_=>some []
 |f+1,[],[]=>some []
 |f+1,[],y::b=>bif y.1==1 then none else(mg f [] b).map (y::·)
 |f+1,x::a,[]=>bif x.1==1 then none else(mg f a []).map (x::·)
 |f+1,x::a,y::b=>bif x.1==1 then(bif y.1==1 then(mg f a b).map (x::·) else(mg f (x::a) b).map (y::·)) else(mg f a (y::b)).map (x::·)
abbrev MR:=PV S_impl_Row×Unit
theorem mg_end (acc:RW):b_I_merged_2 [] [] acc=some (.inr (.inl (acc,()))):=rfl
theorem mg_a (x:PV Y_impl_Row)(a b acc:RW)(hx:(x.1==1)=false)(ha:a.length≤10000)(hb:b.length≤10000)(hc:acc.length≤100000):b_I_merged_2 (x::a) b acc=some (.inl (a,b,acc++[x],())):=by
 unfold b_I_merged_2
 have e0:(x::a).getD ((0:Int).toNat) (dflt Y_impl_Row)=x:=rfl
 have i0:inB 0 (x::a).length=true:=inB_lt (i:=0) (by simp)
 rw[wrap64 (by simp;omega) (by simp;omega),decide_eq_true (by simp;omega:((x::a).length:Int)+(b.length:Int)>0),decide_eq_true (by simp:((x::a).length:Int)>0)]
 simp only[cond_true,i0,e0,hx,Bool.not_false,Option.bind_some,drop_ok,drop_one]
 rw[roomB_ok (by simp;omega)]
 rfl
theorem mg_b (y:PV Y_impl_Row)(a b acc:RW)(h:∀x∈a.head?,(x.1==1)=true)(hy:(y.1==1)=false)(ha:a.length≤10000)(hb:b.length≤10000)(hc:acc.length≤100000):b_I_merged_2 a (y::b) acc=some (.inl (a,b,acc++[y],())):=by
 unfold b_I_merged_2
 have e0:(y::b).getD ((0:Int).toNat) (dflt Y_impl_Row)=y:=rfl
 have i0:inB 0 (y::b).length=true:=inB_lt (i:=0) (by simp)
 have d0:decide (((y::b).length:Int)>0)=true:=decide_eq_true (by simp)
 rw[wrap64 (by simp;omega) (by simp;omega),decide_eq_true (by simp;omega:(a.length:Int)+((y::b).length:Int)>0)]
 cases a with
 |nil=>
  simp only[cond_true,show decide ((([]:RW).length:Int)>0)=false from rfl,cond_false,Option.bind_some,d0,i0,e0,hy,Bool.not_false,drop_ok,drop_one]
  rw[roomB_ok (by simp;omega)]
  rfl
 |cons x a=>
  have hx:=h x rfl
  have e1:(x::a).getD ((0:Int).toNat) (dflt Y_impl_Row)=x:=rfl
  have i1:inB 0 (x::a).length=true:=inB_lt (i:=0) (by simp)
  have d1:decide (((x::a).length:Int)>0)=true:=decide_eq_true (by simp)
  simp only[cond_true,d1,i1,e1,hx,Bool.not_true,cond_false,Option.bind_some,d0,i0,e0,hy,Bool.not_false,drop_ok,drop_one]
  rw[roomB_ok (by simp;omega)]
  rfl
theorem mg_ab (x y:PV Y_impl_Row)(a b acc:RW)(hx:(x.1==1)=true)(hy:(y.1==1)=true)(ha:a.length≤10000)(hb:b.length≤10000)(hc:acc.length≤100000):b_I_merged_2 (x::a) (y::b) acc=some (.inl (a,b,acc++[x],())):=by
 unfold b_I_merged_2
 have e0:(y::b).getD ((0:Int).toNat) (dflt Y_impl_Row)=y:=rfl
 have i0:inB 0 (y::b).length=true:=inB_lt (i:=0) (by simp)
 have d0:decide (((y::b).length:Int)>0)=true:=decide_eq_true (by simp)
 have e1:(x::a).getD ((0:Int).toNat) (dflt Y_impl_Row)=x:=rfl
 have i1:inB 0 (x::a).length=true:=inB_lt (i:=0) (by simp)
 have d1:decide (((x::a).length:Int)>0)=true:=decide_eq_true (by simp)
 rw[wrap64 (by simp;omega) (by simp;omega),decide_eq_true (by simp;omega:((x::a).length:Int)+((y::b).length:Int)>0)]
 simp only[cond_true,d1,i1,e1,hx,Bool.not_true,cond_false,Option.bind_some,d0,i0,e0,hy,Bool.not_false,drop_ok,drop_one]
 rw[roomB_ok (by simp;omega)]
 rfl
theorem mg_no1 (x:PV Y_impl_Row)(a acc:RW)(hx:(x.1==1)=true)(ha:a.length≤10000):b_I_merged_2 (x::a) [] acc=some (.inr (.inr ([],()))):=by
 unfold b_I_merged_2
 have e1:(x::a).getD ((0:Int).toNat) (dflt Y_impl_Row)=x:=rfl
 have i1:inB 0 (x::a).length=true:=inB_lt (i:=0) (by simp)
 have d1:decide (((x::a).length:Int)>0)=true:=decide_eq_true (by simp)
 rw[wrap64 (by simp;omega) (by simp;omega),decide_eq_true (by simp<;>omega:((x::a).length:Int)+(([]:RW).length:Int)>0)]
 have n0:decide ((([]:RW).length:Int)>0)=false:=rfl
 simp only[cond_true,d1,i1,e1,hx,Bool.not_true,cond_false,Option.bind_some,n0]
theorem mg_no2 (y:PV Y_impl_Row)(b acc:RW)(hy:(y.1==1)=true)(hb:b.length≤10000):b_I_merged_2 [] (y::b) acc=some (.inr (.inr ([],()))):=by
 unfold b_I_merged_2
 have e0:(y::b).getD ((0:Int).toNat) (dflt Y_impl_Row)=y:=rfl
 have i0:inB 0 (y::b).length=true:=inB_lt (i:=0) (by simp)
 have d0:decide (((y::b).length:Int)>0)=true:=decide_eq_true (by simp)
 rw[wrap64 (by simp;omega) (by simp;omega),decide_eq_true (by simp<;>omega:(([]:RW).length:Int)+((y::b).length:Int)>0)]
 simp only[cond_true,show decide ((([]:RW).length:Int)>0)=false from rfl,cond_false,Option.bind_some,d0,i0,e0,hy,Bool.not_true]
def mgOut (acc:RW):Option RW→MR⊕MR
 |some r=>.inl (acc++r,())
 |none=>.inr ([],())
theorem mgOut_map (acc:RW)(x:PV Y_impl_Row)(o:Option RW):mgOut acc (o.map (x::·))=mgOut (acc++[x]) o:=by
 cases o<;>simp[mgOut]
noncomputable abbrev BM (d:PV S_impl_Row×PV S_impl_Row×PV S_impl_Row×Unit):=b_I_merged_2 d.1 d.2.1 d.2.2.1
theorem mg_go {a b acc a' b' acc':RW}{r:MR⊕MR}(h:b_I_merged_2 a b acc=some (.inl (a',b',acc',())))(h2:w_I_merged_2 (a',b',acc',())=some r):w_I_merged_2 (a,b,acc,())=some r:=
 Eq.trans (fix_go (B:=BM) (s:=(a,b,acc,())) (t:=(a',b',acc',())) h) h2
theorem mg_stop {a b acc:RW}{r:MR⊕MR}(h:b_I_merged_2 a b acc=some (.inr r)):w_I_merged_2 (a,b,acc,())=some r:=
 fix_end (B:=BM) (s:=(a,b,acc,())) h
theorem mg_loop:∀(fu:Nat) (a b acc:RW),a.length+b.length≤fu→fu≤10000→acc.length+fu≤100000→w_I_merged_2 (a,b,acc,())=some (mgOut acc (mg fu a b)):=by
 intro fu
 induction fu with
 |zero=>
  intro a b acc h _ _
  obtain rfl:a=[]:=List.eq_nil_of_length_eq_zero (by omega)
  obtain rfl:b=[]:=List.eq_nil_of_length_eq_zero (by omega)
  rw[mg_stop (mg_end acc)]
  simp[mg,mgOut]
 |succ fu ih=>
  intro a b acc h h1 h2
  cases a with
  |nil=>
   cases b with
   |nil=>
    rw[mg_stop (mg_end acc)]
    simp[mg,mgOut]
   |cons y b=>
    rw[List.length_nil,List.length_cons] at h
    simp only[mg]
    cases hy:(y.1==1)
    ·rw[cond_false,mgOut_map]
     exact mg_go (mg_b y [] b acc (fun x hx=>by cases hx) hy (Nat.zero_le _) (by omega) (by omega)) (ih [] b _ (by rw[List.length_nil];omega) (by omega) (by rw[List.length_append,List.length_singleton];omega))
    ·exact mg_stop (mg_no2 y b acc hy (by omega))
  |cons x a=>
   rw[List.length_cons] at h
   cases b with
   |nil=>
    rw[List.length_nil] at h
    simp only[mg]
    cases hx:(x.1==1)
    ·rw[cond_false,mgOut_map]
     exact mg_go (mg_a x a [] acc hx (by omega) (Nat.zero_le _) (by omega)) (ih a [] _ (by rw[List.length_nil];omega) (by omega) (by rw[List.length_append,List.length_singleton];omega))
    ·exact mg_stop (mg_no1 x a acc hx (by omega))
   |cons y b=>
    rw[List.length_cons] at h
    simp only[mg]
    cases hx:(x.1==1)
    ·rw[cond_false,mgOut_map]
     exact mg_go (mg_a x a (y::b) acc hx (by omega) (by rw[List.length_cons];omega) (by omega)) (ih a (y::b) _ (by rw[List.length_cons];omega) (by omega) (by rw[List.length_append,List.length_singleton];omega))
    ·rw[cond_true]
     cases hy:(y.1==1)
     ·rw[cond_false,mgOut_map]
      exact mg_go (mg_b y (x::a) b acc (fun z hz=>by obtain rfl:=Option.some.inj hz;exact hx) hy (by rw[List.length_cons];omega) (by omega) (by omega)) (ih (x::a) b _ (by rw[List.length_cons];omega) (by omega) (by rw[List.length_append,List.length_singleton];omega))
     ·rw[cond_true,mgOut_map]
      exact mg_go (mg_ab x y a b acc hx hy (by omega) (by omega) (by omega)) (ih a b _ (by omega) (by omega) (by rw[List.length_append,List.length_singleton];omega))
theorem merged_I (a b:RW)(h:a.length+b.length≤10000):f_I_merged a b=some (((mg (a.length+b.length) a b).getD [],()),()):=by
 unfold f_I_merged
 rw[mg_loop (a.length+b.length) a b [] (Nat.le_refl _) h (by simp;omega),Option.bind_some]
 cases mg (a.length+b.length) a b<;>rfl
theorem mg_mem:∀(fu:Nat) (a b r:RW),mg fu a b=some r→r.length≤a.length+b.length∧∀x∈r,x∈a∨x∈b
 |0,a,b,r,h=>by
  obtain rfl:[]=r:=Option.some.inj h
  exact⟨Nat.zero_le _,fun x hx=>by cases hx⟩
 |f+1,[],[],r,h=>by
  obtain rfl:[]=r:=Option.some.inj h
  exact⟨Nat.zero_le _,fun x hx=>by cases hx⟩
 |f+1,[],y::b,r,h=>by
  simp only[mg] at h
  cases hy:(y.1==1)<;>rw[hy] at h
  ·obtain⟨r',h1,rfl⟩:=Option.map_eq_some_iff.1 h
   obtain⟨k1,k2⟩:=mg_mem f [] b r' h1
   refine⟨by simp at k1 ⊢;omega,fun x hx=> ?_⟩
   rcases List.mem_cons.1 hx with rfl|hx
   ·exact .inr (List.mem_cons_self ..)
   ·exact(k2 x hx).imp id (List.mem_cons_of_mem _)
  ·cases h
 |f+1,x::a,[],r,h=>by
  simp only[mg] at h
  cases hx:(x.1==1)<;>rw[hx] at h
  ·obtain⟨r',h1,rfl⟩:=Option.map_eq_some_iff.1 h
   obtain⟨k1,k2⟩:=mg_mem f a [] r' h1
   refine⟨by simp at k1 ⊢;omega,fun z hz=> ?_⟩
   rcases List.mem_cons.1 hz with rfl|hz
   ·exact .inl (List.mem_cons_self ..)
   ·exact(k2 z hz).imp (List.mem_cons_of_mem _) id
  ·cases h
 |f+1,x::a,y::b,r,h=>by
  simp only[mg] at h
  cases hx:(x.1==1)<;>rw[hx] at h
  ·obtain⟨r',h1,rfl⟩:=Option.map_eq_some_iff.1 h
   obtain⟨k1,k2⟩:=mg_mem f a (y::b) r' h1
   refine⟨by simp at k1 ⊢;omega,fun z hz=> ?_⟩
   rcases List.mem_cons.1 hz with rfl|hz
   ·exact .inl (List.mem_cons_self ..)
   ·exact(k2 z hz).imp (List.mem_cons_of_mem _) id
  ·rw[cond_true] at h
   cases hy:(y.1==1)<;>rw[hy] at h
   ·obtain⟨r',h1,rfl⟩:=Option.map_eq_some_iff.1 h
    obtain⟨k1,k2⟩:=mg_mem f (x::a) b r' h1
    refine⟨by simp at k1 ⊢;omega,fun z hz=> ?_⟩
    rcases List.mem_cons.1 hz with rfl|hz
    ·exact .inr (List.mem_cons_self ..)
    ·exact(k2 z hz).imp id (List.mem_cons_of_mem _)
   ·obtain⟨r',h1,rfl⟩:=Option.map_eq_some_iff.1 h
    obtain⟨k1,k2⟩:=mg_mem f a b r' h1
    refine⟨by simp at k1 ⊢;omega,fun z hz=> ?_⟩
    rcases List.mem_cons.1 hz with rfl|hz
    ·exact .inl (List.mem_cons_self ..)
    ·exact(k2 z hz).imp (List.mem_cons_of_mem _) (List.mem_cons_of_mem _)
def NG:RW→Prop
 |[]=>True
 |x::rs=>(x.1=1∨x.1=2∨x.1=3)∧(x.1=3→∀y∈rs.head?,y.1≠2)∧NG rs
def oldR (rs:RW):RW:=rs.filter fun x=> !(x.1==3)
def newR (rs:RW):RW:=rs.filter fun x=> !(x.1==2)
theorem old_head:∀{rs:RW},NG rs→(∀y∈rs.head?,y.1≠2)→∀z∈(oldR rs).head?,(z.1==1)=true
 |[],_,_,z,hz=>by cases hz
 |x::rs,h,hh,z,hz=>by
  have h2:x.1≠2:=hh x rfl
  rcases h.1 with h1|h1|h1
  ·have:oldR (x::rs)=x::oldR rs:=by unfold oldR;rw[List.filter_cons_of_pos (by rw[h1];rfl)]
   rw[this] at hz
   obtain rfl:=Option.some.inj hz
   rw[h1];rfl
  ·exact absurd h1 h2
  ·have:oldR (x::rs)=oldR rs:=by unfold oldR;rw[List.filter_cons_of_neg (by rw[h1];decide)]
   rw[this] at hz
   exact old_head h.2.2 (h.2.1 h1) z hz
theorem mg_rows:∀(rs:RW) (fu:Nat),NG rs→(oldR rs).length+(newR rs).length≤fu→mg fu (oldR rs) (newR rs)=some rs
 |[],fu,_,_=>by cases fu<;>rfl
 |x::rs,fu,h,hf=>by
  rcases h.1 with h1|h1|h1
  ·have e1:oldR (x::rs)=x::oldR rs:=by unfold oldR;rw[List.filter_cons_of_pos (by rw[h1];rfl)]
   have e2:newR (x::rs)=x::newR rs:=by unfold newR;rw[List.filter_cons_of_pos (by rw[h1];rfl)]
   rw[e1,e2] at hf ⊢
   cases fu with
   |zero=>simp at hf
   |succ f=>
    simp only[mg]
    rw[h1,show((1:Int)==1)=true from rfl,cond_true,cond_true,mg_rows rs f h.2.2 (by simp at hf;omega)]
    rfl
  ·have e1:oldR (x::rs)=x::oldR rs:=by unfold oldR;rw[List.filter_cons_of_pos (by rw[h1];rfl)]
   have e2:newR (x::rs)=newR rs:=by unfold newR;rw[List.filter_cons_of_neg (by rw[h1];decide)]
   rw[e1,e2] at hf ⊢
   cases fu with
   |zero=>simp at hf
   |succ f=>
    have ih:=mg_rows rs f h.2.2 (by simp at hf;omega)
    cases hn:newR rs with
    |nil=>rw[hn] at ih;simp only[mg];rw[h1,show((2:Int)==1)=false from rfl,cond_false,ih];rfl
    |cons y b=>rw[hn] at ih;simp only[mg];rw[h1,show((2:Int)==1)=false from rfl,cond_false,ih];rfl
  ·have e1:oldR (x::rs)=oldR rs:=by unfold oldR;rw[List.filter_cons_of_neg (by rw[h1];decide)]
   have e2:newR (x::rs)=x::newR rs:=by unfold newR;rw[List.filter_cons_of_pos (by rw[h1];rfl)]
   rw[e1,e2] at hf ⊢
   cases fu with
   |zero=>simp at hf
   |succ f=>
    have ih:=mg_rows rs f h.2.2 (by simp at hf;omega)
    have hd:=old_head h.2.2 (h.2.1 h1)
    cases ho:oldR rs with
    |nil=>rw[ho] at ih;simp only[mg];rw[h1,show((3:Int)==1)=false from rfl,cond_false,ih];rfl
    |cons z a=>
     rw[ho] at ih hd
     have hz:=hd z rfl
     simp only[mg]
     rw[hz,cond_true,h1,show((3:Int)==1)=false from rfl,cond_false,ih];rfl
end R
end

section
/- The lines of one half, as the reference takes them. -/
open Go Go.Dn
namespace R
set_option linter.unusedVariables false
abbrev LN8:=List (PV Y_spec_l8Line)
def rowS (sg:UInt8)(l:List UInt8):Bool:=([32,sg,33]:List UInt8).contains (l.getD 0 0)&&(decide (3≤l.length)&&l.getD 1 0==32)
def lineS (t:List UInt8)(rest:TX):List UInt8:=if rest.head?=some noneL then t.take (t.length -1) else t
def mkL8 (l:List UInt8)(ls:TX):PV Y_spec_l8Line:=(((l.getD 0 0).toNat:Int),(lineS (l.drop 2) ls,()))
def stepC (ls:TX):Nat:=if ls.head?=some noneL then 2 else 1
def takeS (sg:UInt8):Nat→TX→LN8×Nat
 |0,_=>([],0)
 |_+1,[]=>([],0)
 |f+1,l::ls=>bif rowS sg l then(mkL8 l ls::(takeS sg f (restQ ls)).1,stepC ls+(takeS sg f (restQ ls)).2) else([],0)
theorem beq_swap (a b:UInt8):(((a.toNat:Nat):Int)==((b.toNat:Nat):Int))=(b==a):=by
 rw[byte_eq,Bool.eq_iff_iff]
 simp only[beq_iff_eq]
 exact⟨Eq.symm,Eq.symm⟩
theorem sign_S (t0:TX)(sg:UInt8)(acc:LN8)(n:Int)(l:List UInt8)(hl:1≤l.length):
 ∃k:Int,w_S_l8Take_6 (t0,[32,sg,33],acc,n,l,0,())=some (t0,[32,sg,33],acc,n,l,k,())∧(k==3)= !([32,sg,33]:List UInt8).contains (l.getD 0 0):=by
 have i0:inB 0 l.length=true:=inB_lt (i:=0) hl
 have key:∀(i:Int) (c:UInt8),0≤i→i<3→([32,sg,33]:List UInt8).getD i.toNat 0=c→b_S_l8Take_6 t0 [32,sg,33] acc n l i=some (bif !(l.getD 0 0==c) then .inl (t0,[32,sg,33],acc,n,l,i+1,()) else .inr (t0,[32,sg,33],acc,n,l,i,())):=by
  intro i c h0 h1 hc
  unfold b_S_l8Take_6
  rw[show(([32,sg,33]:List UInt8).length:Int)=3 from rfl,decide_eq_true h1,cond_true,show inB i ([32,sg,33]:List UInt8).length=true from by obtain⟨j,rfl⟩:=Int.eq_ofNat_of_zero_le h0;exact inB_lt (by simp;omega),cond_true,i0,cond_true,hc,show((0:Int).toNat)=0 from rfl,beq_swap,wrap64 (by omega) (by omega)]
  cases(l.getD 0 0==c)<;>rfl
 have s0:=key 0 32 (by omega) (by omega) rfl
 have s1:=key 1 sg (by omega) (by omega) rfl
 have s2:=key 2 33 (by omega) (by omega) rfl
 have s3:b_S_l8Take_6 t0 [32,sg,33] acc n l 3=some (.inr (t0,[32,sg,33],acc,n,l,3,())):=by
  unfold b_S_l8Take_6
  rfl
 have go:∀{i:Int} {r},b_S_l8Take_6 t0 [32,sg,33] acc n l i=some (.inl (t0,[32,sg,33],acc,n,l,i+1,()))→w_S_l8Take_6 (t0,[32,sg,33],acc,n,l,i+1,())=some r→w_S_l8Take_6 (t0,[32,sg,33],acc,n,l,i,())=some r:=
  fun {i r} h h2=>Eq.trans (fix_go (B:=fun d=>b_S_l8Take_6 d.1 d.2.1 d.2.2.1 d.2.2.2.1 d.2.2.2.2.1 d.2.2.2.2.2.1) (s:=(t0,[32,sg,33],acc,n,l,i,())) (t:=(t0,[32,sg,33],acc,n,l,i+1,())) h) h2
 have stop:∀{i:Int} {r},b_S_l8Take_6 t0 [32,sg,33] acc n l i=some (.inr r)→w_S_l8Take_6 (t0,[32,sg,33],acc,n,l,i,())=some r:=
  fun {i r} h=>fix_end (B:=fun d=>b_S_l8Take_6 d.1 d.2.1 d.2.2.1 d.2.2.2.1 d.2.2.2.2.1 d.2.2.2.2.2.1) (s:=(t0,[32,sg,33],acc,n,l,i,())) h
 have hcont:([32,sg,33]:List UInt8).contains (l.getD 0 0)=(l.getD 0 0==32||(l.getD 0 0==sg||l.getD 0 0==33)):=by
  simp only[List.contains_cons,List.contains_nil,Bool.or_false]
 rw[hcont]
 cases c0:(l.getD 0 0==32)
 ·cases c1:(l.getD 0 0==sg)
  ·cases c2:(l.getD 0 0==33)
   ·exact⟨3,go (i:=0) (by rw[s0,c0];rfl) (go (i:=1) (by rw[s1,c1];rfl) (go (i:=2) (by rw[s2,c2];rfl) (stop s3))),rfl⟩
   ·exact⟨2,go (i:=0) (by rw[s0,c0];rfl) (go (i:=1) (by rw[s1,c1];rfl) (stop (by rw[show(1:Int)+1=2 from rfl,s2,c2];rfl))),rfl⟩
  ·exact⟨1,go (i:=0) (by rw[s0,c0];rfl) (stop (by rw[show(0:Int)+1=1 from rfl,s1,c1];rfl)),rfl⟩
 ·exact⟨0,stop (by rw[s0,c0];rfl),rfl⟩
theorem stepC_pre (rest:TX):∃u,rest=u++restQ rest∧u.length+1=stepC rest:=by
 unfold restQ stepC
 by_cases h:rest.head?=some noneL
 ·rw[if_pos h,if_pos h]
  cases rest with
  |nil=>cases h
  |cons n ls=>exact⟨[n],rfl,rfl⟩
 ·rw[if_neg h,if_neg h]
  exact⟨[],rfl,rfl⟩
theorem takeS_step {L pre ls:TX}{l:List UInt8}(sg:UInt8)(acc:LN8)(hL:L=pre++l::ls)(h1:1≤l.length)(hl:l.length≤3000)(hLl:L.length≤3000)(ha:acc.length≤3000):
 b_S_l8Take_3 L [32,sg,33] acc (pre.length:Int)=some (bif rowS sg l then .inl (L,[32,sg,33],acc++[mkL8 l ls],((pre.length+stepC ls:Nat):Int),()) else .inr (acc,(pre.length:Int),())):=by
 have hlen:L.length=pre.length+(ls.length+1):=by rw[hL];simp
 have hn:pre.length<L.length:=by omega
 have hg:L.getD pre.length []=l:=by rw[hL];simp
 obtain⟨k,hk,hk3⟩:=sign_S L sg acc (pre.length:Int) l h1
 have i0:inB 0 l.length=true:=inB_lt (i:=0) h1
 unfold b_S_l8Take_3 rowS
 rw[decide_eq_true (by omega:(pre.length:Int)<(L.length:Int)),cond_true,inB_lt hn,cond_true,toNat_cast,hg,hk,Option.bind_some]
 dsimp only
 rw[show(([32,sg,33]:List UInt8).length:Int)=3 from rfl,hk3]
 cases hc:([32,sg,33]:List UInt8).contains (l.getD 0 0)
 ·rfl
 ·rw[Bool.not_true,cond_false,Bool.true_and]
  by_cases h3:3≤l.length
  ·have i1:inB 1 l.length=true:=inB_lt (i:=1) (by omega)
   have c2:cutB 2 (l.length:Int) l.length=true:=(cut01 (by omega)).2.2.1
   have e2:cutL 2 (l.length:Int) l=l.drop 2:=(cut01 (by omega)).2.2.2
   rw[decide_eq_false (by omega:¬(l.length:Int)<3),cond_false,i1,cond_true,decide_eq_true h3,Bool.true_and]
   simp only[b32,show((1:Int).toNat)=1 from rfl,show((0:Int).toNat)=0 from rfl]
   cases hs:(l.getD 1 0==32)
   ·rfl
   ·rw[Bool.not_true,cond_false,i0,cond_true,c2,cond_true,cond_true]
    unfold mkL8
    have hw:IntKind.wrap .i64 ((pre.length:Int)+1)=((pre.length+1:Nat):Int):=by rw[wrap64 (by omega) (by omega)];omega
    rw[hw,e2]
    cases ls with
    |nil=>
     have n0:decide (((pre.length+1:Nat):Int)<(L.length:Int))=false:=decide_eq_false (by rw[hlen,List.length_nil];omega)
     have z1:lineS (l.drop 2) []=l.drop 2:=rfl
     have z2:stepC []=1:=rfl
     simp only[n0,cond_false,Option.bind_some,z1,z2]
     rw[roomB_ok (by simp;omega)]
     rfl
    |cons m ls=>
     have n0:decide (((pre.length+1:Nat):Int)<(L.length:Int))=true:=decide_eq_true (by have hq:=hlen;simp only[List.length_cons] at hq;omega)
     have i2:inB ((pre.length+1:Nat):Int) L.length=true:=inB_lt (by have hq:=hlen;simp only[List.length_cons] at hq;omega)
     have g2:L.getD (pre.length+1) []=m:=by
      rw[hL,List.getD_eq_getElem?_getD,List.getElem?_append_right (by omega)]
      simp
     have hd:(l.drop 2).length=l.length -2:=List.length_drop
     have w2:IntKind.wrap .i64 (((l.drop 2).length:Int) -1)=(((l.drop 2).length -1:Nat):Int):=by rw[wrap64 (by omega) (by omega)];omega
     have c3:cutB 0 (((l.drop 2).length -1:Nat):Int) (l.drop 2).length=true:=by unfold cutB;simp
     have e3:cutL 0 (((l.drop 2).length -1:Nat):Int) (l.drop 2)=(l.drop 2).take ((l.drop 2).length -1):=by unfold cutL;rw[toNat_cast];rfl
     have w3:IntKind.wrap .i64 (((pre.length+1:Nat):Int)+1)=((pre.length+2:Nat):Int):=by rw[wrap64 (by omega) (by omega)];omega
     cases hm:(m==noneL)
     ·have hne:(m::ls).head?≠some noneL:=by
       intro h
       have:m=noneL:=Option.some.inj h
       rw[this] at hm
       simp at hm
      have z1:lineS (l.drop 2) (m::ls)=l.drop 2:=if_neg hne
      have z2:stepC (m::ls)=1:=if_neg hne
      simp only[n0,cond_true,i2,toNat_cast,g2,hm,Option.bind_some,cond_false,z1,z2]
      rw[roomB_ok (by simp;omega)]
      rfl
     ·have hne:(m::ls).head?=some noneL:=by
       rw[show m=noneL from by simpa using hm];rfl
      have z1:lineS (l.drop 2) (m::ls)=(l.drop 2).take ((l.drop 2).length -1):=if_pos hne
      have z2:stepC (m::ls)=2:=if_pos hne
      simp only[n0,cond_true,i2,toNat_cast,g2,hm,Option.bind_some,z1,z2,w2,c3,e3,w3]
      rw[roomB_ok (by simp;omega)]
      rfl
  ·rw[decide_eq_true (by omega:(l.length:Int)<3),cond_true,decide_eq_false h3,Bool.false_and]
   rfl
theorem takeS_len (sg:UInt8):∀(fu:Nat) (ls:TX),(takeS sg fu ls).1.length≤ls.length∧(takeS sg fu ls).2≤ls.length∧((takeS sg fu ls).2=0↔(takeS sg fu ls).1=[])
 |0,ls=>⟨Nat.zero_le _,Nat.zero_le _,by simp[takeS]⟩
 |_+1,[]=>⟨Nat.zero_le _,Nat.zero_le _,by simp[takeS]⟩
 |f+1,l::ls=>by
  unfold takeS
  obtain⟨k1,k2,k3⟩:=takeS_len sg f (restQ ls)
  obtain⟨u,hu,hu2⟩:=stepC_pre ls
  have hlu:ls.length=u.length+(restQ ls).length:=by conv=>lhs;rw[hu];simp
  cases rowS sg l
  ·exact⟨Nat.zero_le _,Nat.zero_le _,by simp⟩
  ·rw[cond_true]
   refine⟨by simp;omega,by simp;omega,by simp;omega⟩
theorem takeS_mem (sg:UInt8):∀(fu:Nat) (ls:TX),(∀l∈ls,l.length≤3000)→∀x∈(takeS sg fu ls).1,List.length x.2.1≤3000
 |0,ls,_,x,h=>by cases h
 |_+1,[],_,x,h=>by cases h
 |f+1,l::ls,hl,x,h=>by
  unfold takeS at h
  cases hc:rowS sg l<;>rw[hc] at h
  ·cases h
  ·rcases List.mem_cons.1 h with rfl|h
   ·have:=hl l (List.mem_cons_self ..)
    show(lineS (l.drop 2) ls).length≤3000
    unfold lineS
    split
    ·rw[List.length_take,List.length_drop];omega
    ·rw[List.length_drop];omega
   ·exact takeS_mem sg f _ (fun y hy=>hl y (List.mem_cons_of_mem _ (restQ_mem hy))) x h
noncomputable abbrev BT (d:PV S_string×PV .str×PV S_spec_l8Line×PV (.int .i64)×Unit):=b_S_l8Take_3 d.1 d.2.1 d.2.2.1 d.2.2.2.1
theorem takeS_loop (sg:UInt8){L:TX}(hLl:L.length≤3000)(hall:∀l∈L,1≤l.length∧l.length≤3000):∀(fu:Nat) (pre ls:TX) (acc:LN8),L=pre++ls→ls.length≤fu→acc.length≤pre.length→
 w_S_l8Take_3 (L,[32,sg,33],acc,(pre.length:Int),())=some (acc++(takeS sg fu ls).1,((pre.length+(takeS sg fu ls).2:Nat):Int),()):=by
 intro fu
 induction fu with
 |zero=>
  intro pre ls acc hL h ha
  obtain rfl:ls=[]:=List.eq_nil_of_length_eq_zero (by omega)
  have hp:pre.length=L.length:=by rw[hL];simp
  have hs:b_S_l8Take_3 L [32,sg,33] acc (pre.length:Int)=some (.inr (acc,(pre.length:Int),())):=by
   unfold b_S_l8Take_3
   rw[decide_eq_false (by omega:¬(pre.length:Int)<(L.length:Int)),cond_false]
  rw[show w_S_l8Take_3 (L,[32,sg,33],acc,(pre.length:Int),())=_ from fix_end (B:=BT) (s:=(L,[32,sg,33],acc,(pre.length:Int),())) hs]
  simp[takeS]
 |succ fu ih=>
  intro pre ls acc hL h ha
  cases ls with
  |nil=>
   have hp:pre.length=L.length:=by rw[hL];simp
   have hs:b_S_l8Take_3 L [32,sg,33] acc (pre.length:Int)=some (.inr (acc,(pre.length:Int),())):=by
    unfold b_S_l8Take_3
    rw[decide_eq_false (by omega:¬(pre.length:Int)<(L.length:Int)),cond_false]
   rw[show w_S_l8Take_3 (L,[32,sg,33],acc,(pre.length:Int),())=_ from fix_end (B:=BT) (s:=(L,[32,sg,33],acc,(pre.length:Int),())) hs]
   simp[takeS]
  |cons l ls=>
   have hm:=hall l (by rw[hL];simp)
   have hlen:L.length=pre.length+(ls.length+1):=by rw[hL];simp
   have hs:=takeS_step sg acc hL hm.1 hm.2 hLl (by omega)
   unfold takeS
   cases hc:rowS sg l<;>rw[hc] at hs
   ·rw[show w_S_l8Take_3 (L,[32,sg,33],acc,(pre.length:Int),())=_ from fix_end (B:=BT) (s:=(L,[32,sg,33],acc,(pre.length:Int),())) hs]
    simp
   ·obtain⟨u,hu,hu2⟩:=stepC_pre ls
    have hlu:ls.length=u.length+(restQ ls).length:=by conv=>lhs;rw[hu];simp
    have:=ih (pre++l::u) (restQ ls) (acc++[mkL8 l ls]) (by rw[hL,List.append_assoc,List.cons_append,←hu]) (by simp at h;omega) (by simp;omega)
    have hpl:(pre++l::u).length=pre.length+stepC ls:=by simp;omega
    rw[hpl] at this
    refine(Eq.trans (fix_go (B:=BT) (s:=(L,[32,sg,33],acc,(pre.length:Int),())) hs) this).trans ?_
    rw[cond_true,List.append_assoc,Nat.add_assoc]
    rfl
theorem takeS_S (sg:UInt8)(L:TX)(hLl:L.length≤3000)(hall:∀l∈L,1≤l.length∧l.length≤3000):f_S_l8Take L [32,sg,33]=some (((takeS sg L.length L).1,(((takeS sg L.length L).2:Nat):Int),()),()):=by
 unfold f_S_l8Take
 have:=takeS_loop sg hLl hall L.length [] L [] rfl (Nat.le_refl _) (Nat.zero_le _)
 rw[List.length_nil,Nat.zero_add] at this
 rw[show w_S_l8Take_3 (L,[32,sg,33],[],0,())=_ from this,Option.bind_some]
 rfl
end R
end

section
/- The rows of a group, as the reference puts them together. -/
open Go Go.Dn
namespace R
set_option linter.unusedVariables false
def spB (x:PV Y_spec_l8Line):Bool:=x.1==32
def keepS (l:LN8):LN8:=l.filter spB
theorem keep_fold:∀(l acc:LN8),l.foldl (fun a x=>bif spB x then a++[x] else a) acc=acc++keepS l
 |[],acc=>by simp[keepS]
 |x::l,acc=>by
  rw[List.foldl_cons,keep_fold l]
  unfold keepS
  cases h:spB x
  ·rw[cond_false,List.filter_cons_of_neg (by rw[h];simp)]
  ·rw[cond_true,List.filter_cons_of_pos h,List.append_assoc];rfl
theorem keep4_S (l:LN8)(t3:Bool)(hl:l.length≤10000):w_S_l8Rows_4 ([],l,t3,l,(l.length:Int),0,())=some (keepS l,l,t3,()):=by
 have:=fix_fold (B:=fun d=>b_S_l8Rows_4 d.1 d.2.1 d.2.2.1 d.2.2.2.1 d.2.2.2.2.1 d.2.2.2.2.2.1) l (fun a x=>bif spB x then a++[x] else a) (fun a i=>(a,l,t3,l,(l.length:Int),(i:Int),())) (fun a=>(a,l,t3,())) (fun i a=>a.length≤i)
  (fun i hi a hI=>by
    refine⟨by cases spB l[i]<;>simp<;>omega,?_⟩
    show b_S_l8Rows_4 a l t3 l l.length i=_
    unfold b_S_l8Rows_4
    rw[decide_eq_true (by omega:(i:Int)<(l.length:Int)),cond_true,inB_lt hi,cond_true,toNat_cast,getD_of hi]
    unfold spB
    cases(l[i].1==32)
    ·rw[cond_false,Option.bind_some]
     dsimp only
     rw[wrap64 (x:=(i:Int)+1) (by omega) (by omega)]
     rfl
    ·rw[cond_true,roomB_ok (by simp;omega),cond_true,Option.bind_some]
     dsimp only
     rw[wrap64 (x:=(i:Int)+1) (by omega) (by omega)]
     rfl)
  (fun a _=>by
    show b_S_l8Rows_4 a l t3 l l.length l.length=_
    unfold b_S_l8Rows_4
    rw[decide_eq_false (Int.lt_irrefl _),cond_false]) [] (Nat.zero_le _)
 rw[show w_S_l8Rows_4 ([],l,t3,l,(l.length:Int),0,())=_ from this.1,keep_fold]
 rfl
theorem keep12_S (o l:LN8)(hl:l.length≤10000):w_S_l8Rows_12 (o,[],l,(l.length:Int),0,())=some (o,keepS l,()):=by
 have:=fix_fold (B:=fun d=>b_S_l8Rows_12 d.1 d.2.1 d.2.2.1 d.2.2.2.1 d.2.2.2.2.1) l (fun a x=>bif spB x then a++[x] else a) (fun a i=>(o,a,l,(l.length:Int),(i:Int),())) (fun a=>(o,a,())) (fun i a=>a.length≤i)
  (fun i hi a hI=>by
    refine⟨by cases spB l[i]<;>simp<;>omega,?_⟩
    show b_S_l8Rows_12 o a l l.length i=_
    unfold b_S_l8Rows_12
    rw[decide_eq_true (by omega:(i:Int)<(l.length:Int)),cond_true,inB_lt hi,cond_true,toNat_cast,getD_of hi]
    unfold spB
    cases(l[i].1==32)
    ·rw[cond_false,Option.bind_some]
     dsimp only
     rw[wrap64 (x:=(i:Int)+1) (by omega) (by omega)]
     rfl
    ·rw[cond_true,roomB_ok (by simp;omega),cond_true,Option.bind_some]
     dsimp only
     rw[wrap64 (x:=(i:Int)+1) (by omega) (by omega)]
     rfl)
  (fun a _=>by
    show b_S_l8Rows_12 o a l l.length l.length=_
    unfold b_S_l8Rows_12
    rw[decide_eq_false (Int.lt_irrefl _),cond_false]) [] (Nat.zero_le _)
 rw[show w_S_l8Rows_12 (o,[],l,(l.length:Int),0,())=_ from this.1,keep_fold]
 rfl
def rwF:Nat→LN8→LN8→RW
 |0,_,_=>[]
 |f+1,[],[]=>[]
 |f+1,[],y::b=>bif spB y then rwF f [] b else mkRow 3 y.2.1::rwF f [] b
 |f+1,x::a,[]=>bif spB x then mkRow 1 x.2.1::rwF f a [] else mkRow 2 x.2.1::rwF f a []
 |f+1,x::a,y::b=>bif spB x then(bif spB y then mkRow 1 x.2.1::rwF f a b else mkRow 3 y.2.1::rwF f (x::a) b) else mkRow 2 x.2.1::rwF f a (y::b)
noncomputable abbrev BR (d:PV S_spec_l8Line×PV S_spec_l8Line×PV S_impl_Row×PV (.int .i64)×PV (.int .i64)×Unit):=b_S_l8Rows_19 d.1 d.2.1 d.2.2.1 d.2.2.2.1 d.2.2.2.2.1
theorem rw_go {o n:LN8}{acc acc':RW}{i j i' j':Int}{r}(h:b_S_l8Rows_19 o n acc i j=some (.inl (o,n,acc',i',j',())))(h2:w_S_l8Rows_19 (o,n,acc',i',j',())=some r):w_S_l8Rows_19 (o,n,acc,i,j,())=some r:=
 Eq.trans (fix_go (B:=BR) (s:=(o,n,acc,i,j,())) (t:=(o,n,acc',i',j',())) h) h2
theorem rw_step {o n:LN8}{acc:RW}{i j:Nat}(hi:i≤20000)(hj:j≤20000)(ha:acc.length≤100000)(hne:i<o.length∨j<n.length):
 b_S_l8Rows_19 o n acc i j=some (.inl (match (o[i]? :Option (PV Y_spec_l8Line)),(n[j]? :Option (PV Y_spec_l8Line)) with
  |some x,some y=>bif spB x then(bif spB y then(o,n,acc++[mkRow 1 x.2.1],((i+1:Nat):Int),((j+1:Nat):Int),()) else(o,n,acc++[mkRow 3 y.2.1],(i:Int),((j+1:Nat):Int),())) else(o,n,acc++[mkRow 2 x.2.1],((i+1:Nat):Int),(j:Int),())
  |some x,none=>bif spB x then(o,n,acc++[mkRow 1 x.2.1],((i+1:Nat):Int),((j+1:Nat):Int),()) else(o,n,acc++[mkRow 2 x.2.1],((i+1:Nat):Int),(j:Int),())
  |none,some y=>bif spB y then(o,n,acc,((i+1:Nat):Int),((j+1:Nat):Int),()) else(o,n,acc++[mkRow 3 y.2.1],(i:Int),((j+1:Nat):Int),())
  |none,none=>(o,n,acc,(i:Int),(j:Int),()))):=by
 have wi:IntKind.wrap .i64 ((i:Int)+1)=((i+1:Nat):Int):=by rw[wrap64 (by omega) (by omega)];omega
 have wj:IntKind.wrap .i64 ((j:Int)+1)=((j+1:Nat):Int):=by rw[wrap64 (by omega) (by omega)];omega
 have hr:roomB (acc.length+(0+1))=true:=roomB_ok (by omega)
 have z0:([]:List (PV Y_impl_Row)).length=0:=rfl
 by_cases h1:i<o.length
 ·have e1:(o[i]? :Option (PV Y_spec_l8Line))=some o[i]:=List.getElem?_eq_getElem h1
  have i1:inB (i:Int) o.length=true:=inB_lt h1
  have d1:decide ((i:Int)<(o.length:Int))=true:=decide_eq_true (by omega)
  by_cases h2:j<n.length
  ·have e2:(n[j]? :Option (PV Y_spec_l8Line))=some n[j]:=List.getElem?_eq_getElem h2
   have i2:inB (j:Int) n.length=true:=inB_lt h2
   have d2:decide ((j:Int)<(n.length:Int))=true:=decide_eq_true (by omega)
   rw[e1,e2]
   dsimp only
   unfold b_S_l8Rows_19 spB
   cases hx:(o[i].1==32)
   ·simp only[d1,cond_true,Option.bind_some,i1,toNat_cast,getD_of h1,hx,Bool.not_false,List.length_cons,List.length_nil,hr,wi,cond_false]
   ·cases hy:(n[j].1==32)
    ·simp only[d1,cond_true,Option.bind_some,i1,toNat_cast,getD_of h1,hx,Bool.not_true,cond_false,d2,i2,getD_of h2,hy,Bool.not_false,List.length_cons,List.length_nil,hr,wj]
    ·simp only[d1,cond_true,Option.bind_some,i1,toNat_cast,getD_of h1,hx,Bool.not_true,cond_false,d2,i2,getD_of h2,hy,List.length_cons,List.length_nil,hr,wi,wj]
  ·have d2:decide ((j:Int)<(n.length:Int))=false:=decide_eq_false (by omega)
   rw[e1,show(n[j]? :Option (PV Y_spec_l8Line))=none from List.getElem?_eq_none (by omega)]
   dsimp only
   unfold b_S_l8Rows_19 spB
   cases hx:(o[i].1==32)
   ·simp only[d1,cond_true,Option.bind_some,i1,toNat_cast,getD_of h1,hx,Bool.not_false,List.length_cons,List.length_nil,hr,wi,cond_false]
   ·simp only[d1,cond_true,Option.bind_some,i1,toNat_cast,getD_of h1,hx,Bool.not_true,cond_false,d2,List.length_cons,List.length_nil,hr,wi,wj]
 ·have h2:j<n.length:=by omega
  have d1:decide ((i:Int)<(o.length:Int))=false:=decide_eq_false (by omega)
  have e2:(n[j]? :Option (PV Y_spec_l8Line))=some n[j]:=List.getElem?_eq_getElem h2
  have i2:inB (j:Int) n.length=true:=inB_lt h2
  have d2:decide ((j:Int)<(n.length:Int))=true:=decide_eq_true (by omega)
  rw[show(o[i]? :Option (PV Y_spec_l8Line))=none from List.getElem?_eq_none (by omega),e2]
  dsimp only
  unfold b_S_l8Rows_19 spB
  cases hy:(n[j].1==32)
  ·simp only[d1,d2,cond_false,cond_true,Option.bind_some,i2,toNat_cast,getD_of h2,hy,Bool.not_false,List.length_cons,List.length_nil,hr,wj]
  ·simp only[d1,d2,cond_false,cond_true,Option.bind_some,i2,toNat_cast,getD_of h2,hy,Bool.not_true,wi,wj]
theorem rw_end {o n:LN8}{acc:RW}{i j:Nat}(h1:o.length≤i)(h2:n.length≤j):w_S_l8Rows_19 (o,n,acc,(i:Int),(j:Int),())=some (acc,()):=by
 refine fix_end (B:=BR) (s:=(o,n,acc,(i:Int),(j:Int),())) ?_
 show b_S_l8Rows_19 o n acc i j=_
 unfold b_S_l8Rows_19
 rw[decide_eq_false (by omega:¬(i:Int)<(o.length:Int)),cond_false,decide_eq_false (by omega:¬(j:Int)<(n.length:Int)),cond_false,Option.bind_some]
theorem rw_loop (o n:LN8):∀(fu:Nat) (i j:Nat) (acc:RW),(o.drop i).length+(n.drop j).length≤fu→i+fu≤20000→j+fu≤20000→acc.length+fu≤100000→
 w_S_l8Rows_19 (o,n,acc,(i:Int),(j:Int),())=some (acc++rwF fu (o.drop i) (n.drop j),()):=by
 intro fu
 induction fu with
 |zero=>
  intro i j acc h _ _ _
  rw[List.length_drop,List.length_drop] at h
  rw[rw_end (by omega) (by omega)]
  simp[rwF]
 |succ fu ih=>
  intro i j acc h h1 h2 h3
  rw[List.length_drop,List.length_drop] at h
  have hdr:∀(l:LN8) (k:Nat),(hk:k<l.length)→l.drop k=l[k]::l.drop (k+1):=fun l k hk=>List.drop_eq_getElem_cons hk
  have next:∀(i' j':Nat) (acc':RW),(o.length -i')+(n.length -j')≤fu→i'≤i+1→j'≤j+1→acc'.length≤acc.length+1→w_S_l8Rows_19 (o,n,acc',(i':Int),(j':Int),())=some (acc'++rwF fu (o.drop i') (n.drop j'),()):=
   fun i' j' acc' q1 q2 q3 q4=>ih i' j' acc' (by rw[List.length_drop,List.length_drop];exact q1) (by omega) (by omega) (by omega)
  by_cases c1:i<o.length
  ·have e1:(o[i]? :Option (PV Y_spec_l8Line))=some o[i]:=List.getElem?_eq_getElem c1
   by_cases c2:j<n.length
   ·have e2:(n[j]? :Option (PV Y_spec_l8Line))=some n[j]:=List.getElem?_eq_getElem c2
    have hs:=rw_step (acc:=acc) (i:=i) (j:=j) (o:=o) (n:=n) (by omega) (by omega) (by omega) (.inl c1)
    rw[e1,e2] at hs
    dsimp only at hs
    rw[hdr o i c1,hdr n j c2]
    simp only[rwF]
    cases hx:spB o[i]<;>rw[hx] at hs
    ·rw[cond_false] at hs ⊢
     rw[rw_go hs (next (i+1) j _ (by omega) (by omega) (by omega) (by simp)),hdr n j c2,List.append_assoc]
     rfl
    ·rw[cond_true] at hs ⊢
     cases hy:spB n[j]<;>rw[hy] at hs
     ·rw[cond_false] at hs ⊢
      rw[rw_go hs (next i (j+1) _ (by omega) (by omega) (by omega) (by simp)),hdr o i c1,List.append_assoc]
      rfl
     ·rw[cond_true] at hs ⊢
      rw[rw_go hs (next (i+1) (j+1) _ (by omega) (by omega) (by omega) (by simp)),List.append_assoc]
      rfl
   ·have e2:(n[j]? :Option (PV Y_spec_l8Line))=none:=List.getElem?_eq_none (by omega)
    have hs:=rw_step (acc:=acc) (i:=i) (j:=j) (o:=o) (n:=n) (by omega) (by omega) (by omega) (.inl c1)
    rw[e1,e2] at hs
    dsimp only at hs
    rw[hdr o i c1,List.drop_eq_nil_of_le (show n.length≤j by omega)]
    simp only[rwF]
    cases hx:spB o[i]<;>rw[hx] at hs
    ·rw[cond_false] at hs ⊢
     rw[rw_go hs (next (i+1) j _ (by omega) (by omega) (by omega) (by simp)),List.drop_eq_nil_of_le (show n.length≤j by omega),List.append_assoc]
     rfl
    ·rw[cond_true] at hs ⊢
     rw[rw_go hs (next (i+1) (j+1) _ (by omega) (by omega) (by omega) (by simp)),List.drop_eq_nil_of_le (show n.length≤j+1 by omega),List.append_assoc]
     rfl
  ·have e1:(o[i]? :Option (PV Y_spec_l8Line))=none:=List.getElem?_eq_none (by omega)
   by_cases c2:j<n.length
   ·have e2:(n[j]? :Option (PV Y_spec_l8Line))=some n[j]:=List.getElem?_eq_getElem c2
    have hs:=rw_step (acc:=acc) (i:=i) (j:=j) (o:=o) (n:=n) (by omega) (by omega) (by omega) (.inr c2)
    rw[e1,e2] at hs
    dsimp only at hs
    rw[hdr n j c2,List.drop_eq_nil_of_le (show o.length≤i by omega)]
    simp only[rwF]
    cases hy:spB n[j]<;>rw[hy] at hs
    ·rw[cond_false] at hs ⊢
     rw[rw_go hs (next i (j+1) _ (by omega) (by omega) (by omega) (by simp)),List.drop_eq_nil_of_le (show o.length≤i by omega),List.append_assoc]
     rfl
    ·rw[cond_true] at hs ⊢
     rw[rw_go hs (next (i+1) (j+1) _ (by omega) (by omega) (by omega) (by omega)),List.drop_eq_nil_of_le (show o.length≤i+1 by omega)]
   ·rw[rw_end (by omega) (by omega),List.drop_eq_nil_of_le (show n.length≤j by omega),List.drop_eq_nil_of_le (show o.length≤i by omega)]
    simp[rwF]
def rowsOf (o n:LN8)(a b:Bool):RW:=
 let o':=bif a then keepS n else o
 let n':=bif b then keepS o' else n
 rwF (o'.length+n'.length) o' n'
theorem keepS_len (l:LN8):(keepS l).length≤l.length:=List.length_filter_le _ _
theorem rows_S8 (o n:LN8)(a b:Bool)(ho:o.length≤3000)(hn:n.length≤3000):f_S_l8Rows o n a b=some ((rowsOf o n a b,()),()):=by
 have fin:∀(o' n':LN8),o'.length≤3000→n'.length≤3000→((w_S_l8Rows_19 (o',n',[],0,0,())).bind fun l15=>some ((l15.1,()),()):Option (PVs [S_impl_Row]×PVs []))=some ((rwF (o'.length+n'.length) o' n',()),()):=by
  intro o' n' h1 h2
  have:=rw_loop o' n' (o'.length+n'.length) 0 0 [] (by simp) (by omega) (by omega) (by simp;omega)
  rw[show w_S_l8Rows_19 (o',n',[],0,0,())=_ from this,Option.bind_some]
  rfl
 unfold f_S_l8Rows rowsOf
 have k1:=keepS_len o
 have k2:=keepS_len n
 have k3:=keepS_len (keepS n)
 cases a
 ·rw[cond_false,Option.bind_some]
  dsimp only
  cases b
  ·rw[cond_false,Option.bind_some]
   exact fin o n ho hn
  ·rw[cond_true,keep12_S o o (by omega),Option.bind_some,Option.bind_some]
   exact fin o (keepS o) ho (by omega)
 ·rw[cond_true,keep4_S n b (by omega),Option.bind_some,Option.bind_some]
  dsimp only
  cases b
  ·rw[cond_false,Option.bind_some]
   exact fin (keepS n) n (by omega) hn
  ·rw[cond_true,keep12_S (keepS n) (keepS n) (by omega),Option.bind_some,Option.bind_some]
   exact fin (keepS n) (keepS (keepS n)) (by omega) (by omega)
end R
end

section
/- Groups side by side, as the program reads them. -/
open Go Go.Dn
namespace R
set_option linter.unusedVariables false
abbrev starL:List UInt8:=[42,42,42,42,42,42,42,42,42,42,42,42,42,42,42,10]
abbrev pS1:List UInt8:=[42,42,42,32]
abbrev qS1:List UInt8:=[32,42,42,42,42,10]
abbrev pS2:List UInt8:=[45,45,45,32]
abbrev qS2:List UInt8:=[32,45,45,45,45,10]
def preI (p l:List UInt8):List UInt8:=bif l.take p.length==p then l.drop p.length else l
def midI (p q l:List UInt8):List UInt8:=bif (preI p l).drop ((preI p l).length -q.length)==q then(preI p l).take ((preI p l).length -q.length) else preI p l
def hasI (p q l:List UInt8):Bool:=(l.take p.length==p)&&((preI p l).drop ((preI p l).length -q.length)==q)
def headN (p q l:List UInt8):Int:=(endR 1 (midI p q l)).1
def headB (p q l:List UInt8):Bool:=hasI p q l&&(endR 1 (midI p q l)).2.2.1
theorem preI_len (p l:List UInt8):(preI p l).length≤l.length:=by
 unfold preI
 cases(l.take p.length==p)
 ·exact Nat.le_refl _
 ·rw[cond_true,List.length_drop];omega
theorem midI_len (p q l:List UInt8):(midI p q l).length≤l.length:=by
 have:=preI_len p l
 unfold midI
 cases((preI p l).drop ((preI p l).length -q.length)==q)
 ·exact this
 ·rw[cond_true,List.length_take];omega
theorem headN_rng (p q l:List UInt8):0≤headN p q l∧headN p q l≤1000:=endR_rng 1 _
theorem readHead_I (p q l:List UInt8)(t:TX)(hp:p.length≤100)(hq:q.length≤100)(hl:l.length≤3000):f_I_readHead (l::t) p q=some ((headN p q l,t,headB p q l,()),()):=by
 have e0:(l::t).getD ((0:Int).toNat) []=l:=rfl
 have i0:inB 0 (l::t).length=true:=inB_lt (i:=0) (by simp)
 have hne:(((l::t).length:Int)==0)=false:=beq_eq_false_iff_ne.2 (by simp only[List.length_cons];omega)
 have h1:=preI_len p l
 have h2:=midI_len p q l
 unfold f_I_readHead
 rw[hne,cond_false,i0,cond_true,e0,cutPrefix_I l p (by omega) hp,Option.bind_some]
 dsimp only
 rw[show(bif l.take p.length==p then l.drop p.length else l)=preI p l from rfl,cutSuffix_I (preI p l) q (by omega) hq,Option.bind_some]
 dsimp only
 rw[show(bif (preI p l).drop ((preI p l).length -q.length)==q then(preI p l).take ((preI p l).length -q.length) else preI p l)=midI p q l from rfl,readEnd_I _ (by omega),Option.bind_some]
 dsimp only
 rw[drop_ok,cond_true,drop_one]
 unfold headN headB hasI
 cases(l.take p.length==p)
 ·rfl
 ·cases((preI p l).drop ((preI p l).length -q.length)==q)<;>rfl
theorem readHead_nil (p q:List UInt8):f_I_readHead [] p q=some ((0,[],false,()),()):=rfl
theorem head_good {p q x:List UInt8}{n m:Int}(h:endR 1 x=(n,m,true,())):headN p q (p++x++q)=n∧headB p q (p++x++q)=true:=by
 have e1:((p++x++q).take p.length==p)=true:=by rw[List.append_assoc,List.take_left' rfl];exact beq_self_eq_true _
 have e2:preI p (p++x++q)=x++q:=by unfold preI;rw[e1,cond_true,List.append_assoc,List.drop_left' rfl]
 have hl:(x++q).length -q.length=x.length:=by rw[List.length_append];omega
 have e3:((preI p (p++x++q)).drop ((preI p (p++x++q)).length -q.length)==q)=true:=by rw[e2,hl,List.drop_left' rfl];exact beq_self_eq_true _
 have e4:midI p q (p++x++q)=x:=by unfold midI;rw[e3,cond_true,e2,hl,List.take_left' rfl]
 unfold headN headB hasI
 rw[e1,e3,e4,h]
 exact⟨rfl,rfl⟩
def keepR (l:RW):RW:=l.filter fun x=>x.1==1
theorem keeps_I (l:RW)(h:l.length≤10000):f_I_keeps l=some ((keepR l,()),()):=by
 unfold f_I_keeps keepF
 rw[roomB_ok (by show List.length l≤_;omega)]
 rfl
theorem keepR_len (l:RW):(keepR l).length≤l.length:=List.length_filter_le _ _
def oldH (a b:RW):RW:=bif (a.length==0) then keepR b else a
def newH (a b:RW):RW:=bif (a.length==0) then b else bif (b.length==0) then keepR a else b
def atH (n:Int)(l:RW):Int:=bif decide (0<l.length) then n -1 else n
def grpH (n m:Int)(a b:RW):PV Y_impl_Group:=(atH n (oldH a b),(atH m (newH a b),((mg ((oldH a b).length+(newH a b).length) (oldH a b) (newH a b)).getD [],())))
theorem len0 (l:RW):((l.length:Int)==0)=(l.length==0):=by
 rw[Bool.eq_iff_iff]
 simp only[beq_iff_eq]
 omega
theorem at_eq (n:Int)(l:RW)(h0:0≤n)(h1:n≤1000):(bif decide ((l.length:Int)>0) then IntKind.wrap .i64 (n -1) else n)=atH n l:=by
 unfold atH
 rw[wrap64 (by omega) (by omega)]
 by_cases h:0<l.length
 ·rw[decide_eq_true (by omega:(l.length:Int)>0),decide_eq_true h]
 ·rw[decide_eq_false (by omega:¬(l.length:Int)>0),decide_eq_false h]
theorem sides_step (out:GR)(l1 l2:List UInt8)(t1 r2 r3:TX)(a b:RW)(h1:headB pS1 qS1 l1=true)(ha:takeH 45 2 t1.length t1=(a,l2::r2))(h2:headB pS2 qS2 l2=true)(hb:takeH 43 3 r2.length r2=(b,r3))
 (hn:t1.length≤3000)(hm:∀l∈l1::t1,l.length≤3000)(ho:out.length<20):
 b_I_readSides_2 (starL::l1::t1) out=some (.inl (r3,out++[grpH (headN pS1 qS1 l1) (headN pS2 qS2 l2) a b],())):=by
 have k1:=takeH_len 45 2 t1.length t1
 rw[ha] at k1
 simp only[List.length_cons] at k1
 have k2:=takeH_len 43 3 r2.length r2
 rw[hb] at k2
 simp only at k2
 have m2:∀l∈l2::r2,l.length≤3000:=fun l hl=>hm l (List.mem_cons_of_mem _ (takeH_mem 45 2 t1.length t1 l (by rw[ha];exact hl)))
 have e0:(starL::l1::t1).getD ((0:Int).toNat) []=starL:=rfl
 have i0:inB 0 (starL::l1::t1).length=true:=inB_lt (i:=0) (by simp)
 have n20:((out.length:Int)==20)=false:=beq_eq_false_iff_ne.2 (by omega)
 obtain⟨u1,u2⟩:=headN_rng pS1 qS1 l1
 obtain⟨v1,v2⟩:=headN_rng pS2 qS2 l2
 have ko:=keepR_len b
 have kn:=keepR_len a
 unfold b_I_readSides_2
 rw[decide_eq_true (by simp only[List.length_cons];omega:((starL::l1::t1).length:Int)>0),cond_true,i0,cond_true,e0,show(!(starL==starL))=false from rfl,cond_false,Option.bind_some]
 dsimp only
 rw[n20,cond_false,drop_ok,cond_true,drop_one,readHead_I pS1 qS1 l1 t1 (by decide) (by decide) (hm l1 (List.mem_cons_self ..)),Option.bind_some]
 dsimp only
 rw[h1,Bool.not_true,cond_false,takeHalf_I 45 2 t1 (by omega) (fun l hl=>hm l (List.mem_cons_of_mem _ hl)),ha,Option.bind_some]
 dsimp only
 rw[readHead_I pS2 qS2 l2 r2 (by decide) (by decide) (m2 l2 (List.mem_cons_self ..)),Option.bind_some]
 dsimp only
 rw[h2,Bool.not_true,cond_false,takeHalf_I 43 3 r2 (by omega) (fun l hl=>m2 l (List.mem_cons_of_mem _ hl)),hb,Option.bind_some]
 dsimp only
 rw[len0,len0]
 have fin:∀(o n:RW),o=oldH a b→n=newH a b→o.length≤3000→n.length≤3000→(((some (out,headN pS1 qS1 l1,r3,o,headN pS2 qS2 l2,n,()):Option ((PV S_impl_Group×PV (.int .i64)×PV S_string×PV S_impl_Row×PV (.int .i64)×PV S_impl_Row×Unit)))).bind fun j13=>
  (f_I_merged j13.2.2.2.1 j13.2.2.2.2.2.1).bind fun r15=>
    ((bif (decide ((j13.2.2.2.1.length:Int)>0)) then
       some (j13.1,j13.2.2.1,j13.2.2.2.2.2.1,((IntKind.wrap .i64 (j13.2.1 -1)),(j13.2.2.2.2.1,(r15.1.1,()))),())
      else
       some (j13.1,j13.2.2.1,j13.2.2.2.2.2.1,(j13.2.1,(j13.2.2.2.2.1,(r15.1.1,()))),()):Option ((PV S_impl_Group×PV S_string×PV S_impl_Row×PV Y_impl_Group×Unit)))).bind fun j16=>
      ((bif (decide ((j16.2.2.1.length:Int)>0)) then
         some (j16.1,j16.2.1,(j16.2.2.2.1.1,((IntKind.wrap .i64 (j16.2.2.2.1.2.1 -1)),j16.2.2.2.1.2.2)),())
        else
         some (j16.1,j16.2.1,j16.2.2.2.1,()):Option ((PV S_impl_Group×PV S_string×PV Y_impl_Group×Unit)))).bind fun j17=>
        (bif roomB (j17.1.length+[j17.2.2.1].length) then
          some (.inl (j17.2.1,(j17.1++[j17.2.2.1]),()))
        else
         none:Option ((PV S_string×PV S_impl_Group×Unit)⊕((PV S_impl_Group×Unit)⊕(PV S_impl_Group×PV .bool×Unit)))))=some (.inl (r3,out++[grpH (headN pS1 qS1 l1) (headN pS2 qS2 l2) a b],())):=by
  intro o n ho' hn' l1' l2'
  have q1:=at_eq (headN pS1 qS1 l1) o u1 u2
  have q2:=at_eq (headN pS2 qS2 l2) n v1 v2
  rw[Option.bind_some]
  dsimp only
  rw[merged_I o n (by omega),Option.bind_some]
  dsimp only
  unfold grpH
  rw[←ho',←hn']
  cases c1:decide ((o.length:Int)>0)<;>rw[c1] at q1
  ·rw[cond_false] at q1 ⊢
   rw[Option.bind_some]
   dsimp only
   cases c2:decide ((n.length:Int)>0)<;>rw[c2] at q2
   ·rw[cond_false] at q2 ⊢
    rw[Option.bind_some]
    dsimp only
    rw[roomB_ok (by simp;omega),cond_true,←q1,←q2]
   ·rw[cond_true] at q2 ⊢
    rw[Option.bind_some]
    dsimp only
    rw[roomB_ok (by simp;omega),cond_true,←q1,←q2]
  ·rw[cond_true] at q1 ⊢
   rw[Option.bind_some]
   dsimp only
   cases c2:decide ((n.length:Int)>0)<;>rw[c2] at q2
   ·rw[cond_false] at q2 ⊢
    rw[Option.bind_some]
    dsimp only
    rw[roomB_ok (by simp;omega),cond_true,←q1,←q2]
   ·rw[cond_true] at q2 ⊢
    rw[Option.bind_some]
    dsimp only
    rw[roomB_ok (by simp;omega),cond_true,←q1,←q2]
 cases hz:(a.length==0)
 ·rw[cond_false]
  cases hy:(b.length==0)
  ·rw[cond_false]
   exact fin a b (by unfold oldH;rw[hz];rfl) (by unfold newH;rw[hz,hy];rfl) (by omega) (by omega)
  ·rw[cond_true,keeps_I a (by omega),Option.bind_some]
   exact fin a (keepR a) (by unfold oldH;rw[hz];rfl) (by unfold newH;rw[hz,hy];rfl) (by omega) (by omega)
 ·rw[cond_true,keeps_I b (by omega),Option.bind_some]
  exact fin (keepR b) b (by unfold oldH;rw[hz];rfl) (by unfold newH;rw[hz];rfl) (by omega) (by omega)
end R
end

section
/- Groups side by side, as the program reads them: whatever the lines are. -/
open Go Go.Dn
namespace R
set_option linter.unusedVariables false
def GW (g:PV Y_impl_Group):Prop:=List.length g.2.2.1≤10000∧∀r∈(g.2.2.1:RW),List.length r.2.1≤3000
theorem GW.smG {gs:GR}(h1:gs.length≤10000)(h:∀x∈gs,GW x):SmG gs:=
 ⟨by omega,fun x hx=>⟨by have:=(h x hx).1;omega,fun r hr=>by have:=(h x hx).2 r hr;omega⟩⟩
theorem keepR_mem {l:RW}{x:PV Y_impl_Row}(h:x∈keepR l):x∈l:=(List.mem_filter.1 h).1
theorem grpH_W (n m:Int){a b:RW}(h:a.length+b.length≤3000)(ha:∀r∈a,List.length r.2.1≤3000)(hb:∀r∈b,List.length r.2.1≤3000):GW (grpH n m a b):=by
 have ko:=keepR_len b
 have kn:=keepR_len a
 have ho:(oldH a b).length≤3000∧∀r∈oldH a b,List.length r.2.1≤3000:=by
  unfold oldH
  cases(a.length==0)
  ·exact⟨by rw[cond_false];omega,ha⟩
  ·exact⟨by rw[cond_true];omega,fun r hr=>hb r (keepR_mem hr)⟩
 have hn:(newH a b).length≤3000∧∀r∈newH a b,List.length r.2.1≤3000:=by
  unfold newH
  cases(a.length==0)
  ·rw[cond_false]
   cases(b.length==0)
   ·exact⟨by rw[cond_false];omega,hb⟩
   ·exact⟨by rw[cond_true];omega,fun r hr=>ha r (keepR_mem hr)⟩
  ·exact⟨by rw[cond_true];omega,hb⟩
 unfold grpH GW
 dsimp only
 cases hm:mg ((oldH a b).length+(newH a b).length) (oldH a b) (newH a b) with
 |none=>exact⟨Nat.zero_le _,fun r hr=>by cases hr⟩
 |some r=>
  obtain⟨k1,k2⟩:=mg_mem _ _ _ _ hm
  exact⟨by show r.length≤_;omega,fun x hx=>(k2 x hx).elim (ho.2 x) (hn.2 x)⟩
theorem sides_total (out:GR)(ls:TX)(hn:ls.length≤3000)(hm:∀l∈ls,l.length≤3000)(ho:out.length≤20):
 (∃r3 g,b_I_readSides_2 ls out=some (.inl (r3,out++[g],()))∧out.length<20∧r3.length<ls.length∧(∀l∈r3,l∈ls)∧GW g)∨b_I_readSides_2 ls out=some (.inr (.inl (out,())))∨b_I_readSides_2 ls out=some (.inr (.inr ([],false,()))):=by
 cases ls with
 |nil=>exact .inr (.inl rfl)
 |cons l0 t=>
  have e0:(l0::t).getD ((0:Int).toNat) []=l0:=rfl
  have i0:inB 0 (l0::t).length=true:=inB_lt (i:=0) (by simp)
  have d0:decide (((l0::t).length:Int)>0)=true:=decide_eq_true (by simp only[List.length_cons];omega)
  cases hs:(l0==starL)
  ·refine .inr (.inr ?_)
   unfold b_I_readSides_2
   rw[d0,cond_true,i0,cond_true,e0,hs]
   rfl
  ·obtain rfl:l0=starL:=by simpa using hs
   by_cases h20:out.length=20
   ·refine .inr (.inr ?_)
    unfold b_I_readSides_2
    rw[d0,cond_true,i0,cond_true,e0,show(!(starL==starL))=false from rfl,cond_false,Option.bind_some]
    dsimp only
    rw[show((out.length:Int)==20)=true from by rw[h20];rfl]
    rfl
   ·have n20:((out.length:Int)==20)=false:=beq_eq_false_iff_ne.2 (by omega)
    cases t with
    |nil=>
     refine .inr (.inr ?_)
     unfold b_I_readSides_2
     rw[d0,cond_true,i0,cond_true,e0,show(!(starL==starL))=false from rfl,cond_false,Option.bind_some]
     dsimp only
     rw[n20,cond_false,drop_ok,cond_true,drop_one,readHead_nil]
     rfl
    |cons l1 t1=>
     have hm1:∀l∈l1::t1,l.length≤3000:=fun l hl=>hm l (List.mem_cons_of_mem _ hl)
     cases h1:headB pS1 qS1 l1
     ·refine .inr (.inr ?_)
      unfold b_I_readSides_2
      rw[d0,cond_true,i0,cond_true,e0,show(!(starL==starL))=false from rfl,cond_false,Option.bind_some]
      dsimp only
      rw[n20,cond_false,drop_ok,cond_true,drop_one,readHead_I pS1 qS1 l1 t1 (by decide) (by decide) (hm1 l1 (List.mem_cons_self ..)),Option.bind_some]
      dsimp only
      rw[h1]
      rfl
     ·have hlen:t1.length≤2998:=by simp only[List.length_cons] at hn;omega
      obtain⟨a,r1,ha⟩:∃a r1,takeH 45 2 t1.length t1=(a,r1):=⟨_,_,rfl⟩
      have k1:=takeH_len 45 2 t1.length t1
      have rw1:=takeH_rows 45 2 t1.length t1 (fun l hl=>hm1 l (List.mem_cons_of_mem _ hl))
      have mem1:∀l∈r1,l∈t1:=fun l hl=>takeH_mem 45 2 t1.length t1 l (by rw[ha];exact hl)
      rw[ha] at k1 rw1
      simp only at k1 rw1
      have bad:∀(H:(r1=[]∨∃l2 r2,r1=l2::r2∧headB pS2 qS2 l2=false)),b_I_readSides_2 (starL::l1::t1) out=some (.inr (.inr ([],false,()))):=by
       intro H
       unfold b_I_readSides_2
       rw[d0,cond_true,i0,cond_true,e0,show(!(starL==starL))=false from rfl,cond_false,Option.bind_some]
       dsimp only
       rw[n20,cond_false,drop_ok,cond_true,drop_one,readHead_I pS1 qS1 l1 t1 (by decide) (by decide) (hm1 l1 (List.mem_cons_self ..)),Option.bind_some]
       dsimp only
       rw[h1,Bool.not_true,cond_false,takeHalf_I 45 2 t1 (by omega) (fun l hl=>hm1 l (List.mem_cons_of_mem _ hl)),ha,Option.bind_some]
       dsimp only
       rcases H with rfl|⟨l2,r2,rfl,h2⟩
       ·rw[readHead_nil]
        rfl
       ·rw[readHead_I pS2 qS2 l2 r2 (by decide) (by decide) (hm1 l2 (List.mem_cons_of_mem _ (mem1 l2 (List.mem_cons_self ..)))),Option.bind_some]
        dsimp only
        rw[h2]
        rfl
      cases r1 with
      |nil=>exact .inr (.inr (bad (.inl rfl)))
      |cons l2 r2=>
       cases h2:headB pS2 qS2 l2
       ·exact .inr (.inr (bad (.inr ⟨l2,r2,rfl,h2⟩)))
       ·obtain⟨b,r3,hb⟩:∃b r3,takeH 43 3 r2.length r2=(b,r3):=⟨_,_,rfl⟩
        have k2:=takeH_len 43 3 r2.length r2
        have rw2:=takeH_rows 43 3 r2.length r2 (fun l hl=>hm1 l (List.mem_cons_of_mem _ (mem1 l (List.mem_cons_of_mem _ hl))))
        have mem2:∀l∈r3,l∈r2:=fun l hl=>takeH_mem 43 3 r2.length r2 l (by rw[hb];exact hl)
        rw[hb] at k2 rw2
        simp only at k2 rw2
        simp only[List.length_cons] at k1
        refine .inl ⟨r3,_,sides_step out l1 l2 t1 r2 r3 a b h1 ha h2 hb (by omega) hm1 (by omega),by omega,by simp only[List.length_cons];omega,fun l hl=>List.mem_cons_of_mem _ (List.mem_cons_of_mem _ (mem1 l (List.mem_cons_of_mem _ (mem2 l hl)))),grpH_W _ _ (by omega) (fun r hr=>(rw1 r hr).2) (fun r hr=>(rw2 r hr).2)⟩
noncomputable abbrev BS (d:PV S_string×PV S_impl_Group×Unit):=b_I_readSides_2 d.1 d.2.1
theorem sides_go {ls r3:TX}{out:GR}{g:PV Y_impl_Group}{r}(h:b_I_readSides_2 ls out=some (.inl (r3,out++[g],())))(h2:w_I_readSides_2 (r3,out++[g],())=some r):w_I_readSides_2 (ls,out,())=some r:=
 Eq.trans (fix_go (B:=BS) (s:=(ls,out,())) (t:=(r3,out++[g],())) h) h2
theorem sides_stop {ls:TX}{out:GR}{r}(h:b_I_readSides_2 ls out=some (.inr r)):w_I_readSides_2 (ls,out,())=some r:=fix_end (B:=BS) (s:=(ls,out,())) h
theorem sides_loop:∀(n:Nat) (ls:TX) (out:GR),ls.length≤n→ls.length≤3000→(∀l∈ls,l.length≤3000)→out.length≤20→(∀x∈out,GW x)→
 ∃(gs:GR),gs.length≤20∧(∀x∈gs,GW x)∧(w_I_readSides_2 (ls,out,())=some (.inl (gs,()))∨w_I_readSides_2 (ls,out,())=some (.inr (gs,false,()))):=by
 intro n
 induction n with
 |zero=>
  intro ls out h _ _ ho hg
  obtain rfl:ls=[]:=List.eq_nil_of_length_eq_zero (by omega)
  exact⟨out,ho,hg,.inl (sides_stop rfl)⟩
 |succ n ih=>
  intro ls out h h1 hm ho hg
  rcases sides_total out ls h1 hm ho with⟨r3,g,e,h20,hl,hmem,hw⟩|e|e
  ·obtain⟨gs,q1,q2,q3⟩:=ih r3 (out++[g]) (by omega) (by omega) (fun l hl=>hm l (hmem l hl)) (by simp;omega) (fun x hx=>by
    rcases List.mem_append.1 hx with hx|hx
    ·exact hg x hx
    ·obtain rfl:=List.mem_singleton.1 hx
     exact hw)
   exact⟨gs,q1,q2,q3.imp (sides_go e) (sides_go e)⟩
  ·exact⟨out,ho,hg,.inl (sides_stop e)⟩
  ·exact⟨[],Nat.zero_le _,fun x hx=>(by cases hx),.inr (sides_stop e)⟩
theorem readSides_I (ls:TX)(h1:ls.length≤3000)(hm:∀l∈ls,l.length≤3000):∃(gs:GR) (q:Bool),f_I_readSides ls=some ((gs,q,()),())∧SmG gs:=by
 obtain⟨gs,q1,q2,q3⟩:=sides_loop ls.length ls [] (Nat.le_refl _) h1 hm (Nat.zero_le _) (fun x hx=>by cases hx)
 unfold f_I_readSides
 rcases q3 with e|e
 ·rw[e]
  exact⟨gs,true,rfl,GW.smG (by omega) q2⟩
 ·rw[e]
  exact⟨gs,false,rfl,GW.smG (by omega) q2⟩
end R
end

section
/- Groups written side by side are read back by the program. -/
open Go Go.Dn
namespace R
set_option linter.unusedVariables false
theorem endP_no {u:List UInt8}(h:(10:UInt8)∉u):endP u=false:=by
 cases he:endP u with
 |false=>rfl
 |true=>
  unfold endP at he
  exact absurd (List.mem_of_mem_drop (by rw[beq_iff_eq.1 he];simp)) h
theorem endP_last (s:List UInt8):endP s=(s.getLast?==some 10):=by
 unfold endP
 rcases List.eq_nil_or_concat s with rfl|⟨t,a,rfl⟩
 ·rfl
 ·rw[List.concat_eq_append,List.length_append,List.length_singleton,Nat.add_sub_cancel,List.drop_left,List.getLast?_append]
  simp
theorem endP_app {s t:List UInt8}(h:t≠[]):endP (s++t)=endP t:=by
 rw[endP_last,endP_last,List.getLast?_append]
 rcases List.eq_nil_or_concat t with rfl|⟨u,a,rfl⟩
 ·exact absurd rfl h
 ·rw[List.concat_eq_append,List.getLast?_append];simp
theorem endP_isL {l:List UInt8}(h:isL l):endP l=true:=by
 obtain⟨t,rfl,_⟩:=h
 rw[endP_app (by simp)];decide
theorem lineP_form {s:List UInt8}(h:lineP s=true):s≠[]∧((isL s∧endP s=true)∨((10:UInt8)∉s∧endP s=false)):=by
 have hl:=line_len h
 have hne:s≠[]:=fun e=>by rw[e] at hl;simp at hl
 refine⟨hne,?_⟩
 unfold lineP at h
 rw[Bool.and_eq_true,Bool.not_eq_true'] at h
 have h10:(10:UInt8)∉s.take (s.length -1):=by
  have:=h.2
  unfold hasEnd at this
  simpa using this
 rcases List.eq_nil_or_concat s with rfl|⟨t,c,rfl⟩
 ·exact absurd rfl hne
 ·rw[List.concat_eq_append] at*
  rw[List.length_append,List.length_singleton,Nat.add_sub_cancel,List.take_left' rfl] at h10
  by_cases hc:c=10
  ·subst hc
   exact .inl ⟨⟨t,rfl,h10⟩,endP_isL ⟨t,rfl,h10⟩⟩
  ·have:(10:UInt8)∉t++[c]:=by
    simp only[List.mem_append,List.mem_singleton,not_or]
    exact⟨h10,fun e=>hc e.symm⟩
   exact .inr ⟨this,endP_no this⟩
theorem noneL_isL:isL noneL:=⟨[92,32,110,111,110,101],rfl,by decide⟩
def NN (r:TX):Prop:=r.head?≠some noneL
def rowLn (sg line:List UInt8):TX:=bif endP line then[sg++line] else[sg++line++[10],noneL]
theorem rowLn_flat (sg line:List UInt8):(rowLn sg line).flatten=showL sg line:=by
 unfold rowLn showL
 cases endP line
 ·simp
 ·simp
def RG (rows:RW):Prop:=∀k,k<rows.length→(kd rows k=1∨kd rows k=2∨kd rows k=3)∧lineP (rows.getD k W0).2.1=true
def SgOk (c:Int)(sg:UInt8)(q:Int):Prop:=(c=3∧sg=45∧q=2)∨(c=2∧sg=43∧q=3)
theorem sign_form {rows:RW}{c q:Int}{sg:UInt8}{k:Nat}(h:SgOk c sg q)(hk:kd rows k=1∨kd rows k=2∨kd rows k=3)(hc:(kd rows k==c)=false):
 ∃s:UInt8,signL rows c k=[s,32]∧s≠10∧s≠92∧([32,33,sg]:List UInt8).contains s=true∧(bif s==32 then(1:Int) else q)=kd rows k:=by
 unfold signL
 rcases h with⟨rfl,rfl,rfl⟩|⟨rfl,rfl,rfl⟩
 ·rcases hk with hk|hk|hk
  ·rw[hk];exact⟨32,rfl,by decide,by decide,by decide,rfl⟩
  ·rw[hk]
   cases runA rows 3 k
   ·exact⟨45,rfl,by decide,by decide,by decide,rfl⟩
   ·exact⟨33,rfl,by decide,by decide,by decide,rfl⟩
  ·rw[hk] at hc;cases hc
 ·rcases hk with hk|hk|hk
  ·rw[hk];exact⟨32,rfl,by decide,by decide,by decide,rfl⟩
  ·rw[hk] at hc;cases hc
  ·rw[hk]
   cases runA rows 2 k
   ·exact⟨43,rfl,by decide,by decide,by decide,rfl⟩
   ·exact⟨33,rfl,by decide,by decide,by decide,rfl⟩
def hG (rows:RW)(c:Int):Nat→Nat→TX
 |0,_=>[]
 |f+1,k=>(bif kd rows k==c then[] else rowLn (signL rows c k) (rows.getD k W0).2.1)++hG rows c f (k+1)
theorem half_flat (rows:RW)(c:Int):∀(f k:Nat),halfL rows c (k+f)=halfL rows c k++(hG rows c f k).flatten
 |0,k=>by simp[hG]
 |f+1,k=>by
  rw[show k+(f+1)=(k+1)+f by omega,half_flat rows c f (k+1)]
  show(halfL rows c k++pieceL rows c k)++(hG rows c f (k+1)).flatten=halfL rows c k++((bif kd rows k==c then[] else rowLn (signL rows c k) (rows.getD k W0).2.1)++hG rows c f (k+1)).flatten
  unfold pieceL
  rw[List.flatten_append]
  cases(kd rows k==c)
  ·rw[cond_false,cond_false,rowLn_flat,List.append_assoc]
  ·simp
theorem line_isL {rows:RW}{c q:Int}{sg:UInt8}{k:Nat}(h:SgOk c sg q)(hr:RG rows)(hk:k<rows.length)(hc:(kd rows k==c)=false):∀l∈rowLn (signL rows c k) (rows.getD k W0).2.1,isL l:=by
 obtain⟨h1,h2⟩:=hr k hk
 obtain⟨s,e,s10,_⟩:=sign_form h h1 hc
 intro l hl
 unfold rowLn at hl
 rw[e] at hl
 rcases(lineP_form h2).2 with⟨⟨t,ht,h10⟩,he⟩|⟨h10,he⟩<;>rw[he] at hl
 ·obtain rfl:=List.mem_singleton.1 hl
  refine⟨s::32::t,by rw[ht];rfl,fun hm=> ?_⟩
  rcases List.mem_cons.1 hm with hm|hm
  ·exact s10 hm.symm
  ·rcases List.mem_cons.1 hm with hm|hm
   ·cases hm
   ·exact h10 hm
 ·rcases List.mem_cons.1 hl with rfl|hl
  ·refine⟨s::32::(rows.getD k W0).2.1,rfl,fun hm=> ?_⟩
   rcases List.mem_cons.1 hm with hm|hm
   ·exact s10 hm.symm
   ·rcases List.mem_cons.1 hm with hm|hm
    ·cases hm
    ·exact h10 hm
  ·obtain rfl:=List.mem_singleton.1 hl
   exact noneL_isL
theorem hG_isL {rows:RW}{c q:Int}{sg:UInt8}(h:SgOk c sg q)(hr:RG rows):∀(f k:Nat),k+f=rows.length→∀l∈hG rows c f k,isL l
 |0,k,_,l,hl=>by cases hl
 |f+1,k,hk,l,hl=>by
  unfold hG at hl
  rcases List.mem_append.1 hl with hl|hl
  ·cases hc:(kd rows k==c)<;>rw[hc] at hl
   ·exact line_isL h hr (by omega) hc l hl
   ·cases hl
  ·exact hG_isL h hr f (k+1) (by omega) l hl
theorem hG_NN {rows:RW}{c q:Int}{sg:UInt8}(h:SgOk c sg q)(hr:RG rows){r:TX}(hn:NN r):∀(f k:Nat),k+f=rows.length→NN (hG rows c f k++r)
 |0,k,_=>hn
 |f+1,k,hk=>by
  unfold hG
  cases hc:(kd rows k==c)
  ·obtain⟨h1,h2⟩:=hr k (by omega)
   obtain⟨s,e,_,s92,_⟩:=sign_form h h1 hc
   unfold rowLn NN
   rw[e]
   cases endP (rows.getD k W0).2.1
   ·intro hh
    have:=Option.some.inj hh
    exact s92 (List.cons.inj this).1
   ·intro hh
    have:=Option.some.inj hh
    exact s92 (List.cons.inj this).1
  ·exact hG_NN h hr hn f (k+1) (by omega)
theorem takeH_stop {sg:UInt8}{q:Int}{r:TX}(h:∀l∈r.head?,rowH sg l=false):∀fu,takeH sg q fu r=([],r)
 |0=>rfl
 |fu+1=>by
  cases r with
  |nil=>rfl
  |cons l r=>unfold takeH;rw[h l rfl];rfl
theorem rowH_line (sg s:UInt8)(line:List UInt8)(h:([32,33,sg]:List UInt8).contains s=true)(hl:line≠[]):rowH sg (s::32::line)=true:=by
 unfold rowH
 rw[decide_eq_true (by simp),Bool.true_and]
 show((32:UInt8)==32&&([32,33,sg]:List UInt8).contains s)=true
 rw[h];rfl
theorem take_half {rows:RW}{c q:Int}{sg:UInt8}(h:SgOk c sg q)(hr:RG rows){r:TX}(hn:NN r)(hs:∀l∈r.head?,rowH sg l=false):∀(f k fu:Nat),k+f=rows.length→(hG rows c f k).length≤fu→
 takeH sg q fu (hG rows c f k++r)=((rows.drop k).filter (fun x=> !(x.1==c)),r)
 |0,k,fu,hk,_=>by
  rw[List.drop_eq_nil_of_le (by omega)]
  exact takeH_stop hs fu
 |f+1,k,fu,hk,hf=>by
  have hkl:k<rows.length:=by omega
  have hd:rows.drop k=rows[k]::rows.drop (k+1):=List.drop_eq_getElem_cons hkl
  have hg:rows.getD k W0=rows[k]:=getD_of hkl
  have hkd:kd rows k=rows[k].1:=by unfold kd;rw[hg]
  unfold hG at hf ⊢
  rw[hd]
  cases hc:(kd rows k==c)<;>rw[hc] at hf
  ·obtain⟨h1,h2⟩:=hr k hkl
   obtain⟨s,e,s10,s92,hcon,hkq⟩:=sign_form h h1 hc
   have hnn:=hG_NN h hr hn f (k+1) (by omega)
   have hmk:mkRow (kd rows k) (rows.getD k W0).2.1=rows[k]:=by rw[hkd,hg]
   rw[cond_false] at hf ⊢
   rw[List.filter_cons_of_pos (by rw[←hkd,hc];rfl)]
   unfold rowLn at hf ⊢
   rw[e] at hf ⊢
   rcases(lineP_form h2).2 with⟨_,he⟩|⟨h10,he⟩<;>rw[he] at hf ⊢
   ·rw[cond_true] at hf ⊢
    obtain⟨fu,rfl⟩:∃f',fu=f'+1:=⟨fu -1,by simp at hf;omega⟩
    have ih:=take_half h hr hn hs f (k+1) fu (by omega) (by simp at hf;omega)
    show takeH sg q (fu+1) ((s::32::(rows.getD k W0).2.1)::(hG rows c f (k+1)++r))=_
    have hq:restQ (hG rows c f (k+1)++r)=hG rows c f (k+1)++r:=by unfold restQ;rw[if_neg hnn]
    have hl:lineQ (rows.getD k W0).2.1 (hG rows c f (k+1)++r)=(rows.getD k W0).2.1:=by unfold lineQ;rw[if_neg hnn]
    unfold takeH
    rw[rowH_line sg s _ hcon (lineP_form h2).1,cond_true,hq,ih]
    show(mkRow (bif s==32 then 1 else q) (lineQ (rows.getD k W0).2.1 (hG rows c f (k+1)++r))::_,r)=_
    rw[hl,hkq,hmk]
   ·rw[cond_false] at hf ⊢
    obtain⟨fu,rfl⟩:∃f',fu=f'+1:=⟨fu -1,by simp at hf;omega⟩
    have ih:=take_half h hr hn hs f (k+1) fu (by omega) (by simp at hf;omega)
    show takeH sg q (fu+1) ((s::32::((rows.getD k W0).2.1++[10]))::(noneL::(hG rows c f (k+1)++r)))=_
    have hq:restQ (noneL::(hG rows c f (k+1)++r))=hG rows c f (k+1)++r:=by unfold restQ;rw[if_pos (show(noneL::(hG rows c f (k+1)++r)).head?=some noneL from rfl)];rfl
    have hl:lineQ ((rows.getD k W0).2.1++[10]) (noneL::(hG rows c f (k+1)++r))=(rows.getD k W0).2.1:=by
     unfold lineQ
     rw[if_pos (show(noneL::(hG rows c f (k+1)++r)).head?=some noneL from rfl)]
     unfold plainB
     rw[show endP ((rows.getD k W0).2.1++[10])=true from by rw[endP_app (by simp)];decide,cond_true,List.length_append,List.length_singleton,Nat.add_sub_cancel,List.take_left' rfl]
    unfold takeH
    rw[rowH_line sg s _ hcon (by simp),cond_true,hq,ih]
    show(mkRow (bif s==32 then 1 else q) (lineQ ((rows.getD k W0).2.1++[10]) (noneL::(hG rows c f (k+1)++r)))::_,r)=_
    rw[hl,hkq,hmk]
  ·rw[cond_true] at hf ⊢
   rw[List.filter_cons_of_neg (by rw[←hkd,hc];simp)]
   exact take_half h hr hn hs f (k+1) fu (by omega) (by simpa using hf)
def hd1 (x:PV Y_impl_Group):List UInt8:=pS1++pairT (Int.toNat x.1) (sideL x.2.2.1 3).length++qS1
def hd2 (x:PV Y_impl_Group):List UInt8:=pS2++pairT (Int.toNat x.2.1) (sideL x.2.2.1 2).length++qS2
def optL (x:PV Y_impl_Group)(d c:Int):TX:=bif hasK x.2.2.1 d then hG x.2.2.1 c (List.length x.2.2.1) 0 else[]
def scL (x:PV Y_impl_Group):TX:=starL::hd1 x::(optL x 2 3++(hd2 x::optL x 3 2))
theorem optL_flat (x:PV Y_impl_Group)(d c:Int):(optL x d c).flatten=opt x d c:=by
 unfold optL opt
 cases hasK x.2.2.1 d
 ·rfl
 ·have:=half_flat x.2.2.1 c (List.length x.2.2.1) 0
  rw[Nat.zero_add] at this
  rw[cond_true,cond_true,this]
  rfl
theorem scL_flat (x:PV Y_impl_Group):(scL x).flatten=sideT x:=by
 unfold scL sideT top1 top2
 rw[List.flatten_cons,List.flatten_cons,List.flatten_append,List.flatten_cons,optL_flat,optL_flat]
 unfold hd1 hd2
 simp
theorem goodG_facts {x:PV Y_impl_Group}(h:goodG x=true):RG x.2.2.1∧(∀k,k+1<List.length x.2.2.1→kd x.2.2.1 k=3→kd x.2.2.1 (k+1)≠2)∧(hasK x.2.2.1 2=true∨hasK x.2.2.1 3=true)∧
 (∃a:Nat,x.1=(a:Int)∧a≤999∧a+(sideL x.2.2.1 3).length≤1000)∧(∃b:Nat,x.2.1=(b:Int)∧b≤999∧b+(sideL x.2.2.1 2).length≤1000):=by
 obtain⟨⟨a,ea,ha⟩,⟨b,eb,hb⟩,s1,s2⟩:=group_facts h
 unfold goodG inI at h
 simp only[Bool.and_eq_true,decide_eq_true_eq,Bool.not_eq_true'] at h
 obtain⟨_,_,⟨h1,h2⟩,h3,h4,_,_,h5,h6⟩:=h
 have hbad:∀k,k<List.length x.2.2.1→badRow x.2.2.1 k=false:=fun k hk=>by
  cases hb:badRow x.2.2.1 k with
  |false=>rfl
  |true=>rw[anyN_iff.2 ⟨k,hk,hb⟩] at h3;cases h3
 have hrg:RG x.2.2.1:=fun k hk=>by
  have hb:=hbad k hk
  unfold badRow inI at hb
  simp only[Bool.or_eq_false_iff,Bool.not_eq_false',Bool.and_eq_true,decide_eq_true_eq] at hb
  obtain⟨⟨b1,b2⟩,b3,_⟩:=hb
  have e:∀z:Int,z≥1→z≤3→z=1∨z=2∨z=3:=fun z _ _=>by omega
  exact⟨e _ b1 b2,b3⟩
 refine⟨hrg,fun k hk h3 h2=> ?_,?_,⟨a,ea,ha,?_⟩,⟨b,eb,hb,?_⟩⟩
 ·have hb:=hbad (k+1) hk
  unfold badRow at hb
  rw[Nat.add_sub_cancel,h2,h3] at hb
  simp only[Bool.or_eq_false_iff] at hb
  have:=hb.2.2
  rw[decide_eq_true (by omega:(((k+1:Nat):Int)>0))] at this
  cases this
 ·obtain⟨k,hk,hc⟩:=anyN_iff.1 h4
  unfold chg at hc
  have hk1:=(hrg k hk).1
  have hm:∀c:Int,kd x.2.2.1 k=c→hasK x.2.2.1 c=true:=fun c hc=>by
   unfold hasK
   rw[List.any_eq_true]
   refine⟨_,List.getElem_mem hk,?_⟩
   unfold kd at hc
   rw[getD_of hk] at hc
   rw[hc]
   exact beq_self_eq_true _
  rcases hk1 with hk1|hk1|hk1
  ·rw[hk1] at hc;cases hc
  ·exact .inl (hm 2 hk1)
  ·exact .inr (hm 3 hk1)
 ·rw[ea,wrap64 (by omega) (by omega)] at h5;omega
 ·rw[eb,wrap64 (by omega) (by omega)] at h6;omega
theorem NG_of:∀{rows:RW},RG rows→(∀k,k+1<rows.length→kd rows k=3→kd rows (k+1)≠2)→NG rows
 |[],_,_=>trivial
 |x::rows,hr,hc=>by
  refine⟨(hr 0 (by simp)).1,fun h3 y hy=> ?_,NG_of (fun k hk=>hr (k+1) (by simpa using hk)) (fun k hk=>hc (k+1) (by simpa using hk))⟩
  cases rows with
  |nil=>cases hy
  |cons z rows=>
   obtain rfl:=Option.some.inj hy
   exact hc 0 (by simp) h3
theorem hd_row (sg:UInt8)(x:PV Y_impl_Group):rowH sg (hd2 x)=false∧hd2 x≠noneL∧rowH sg starL=false:=by
 refine⟨?_,?_,?_⟩
 ·unfold rowH hd2
  show(decide _&&((45:UInt8)==32&&_))=false
  rw[show((45:UInt8)==32)=false from rfl,Bool.false_and,Bool.and_false]
 ·unfold hd2
  intro h
  have:=(List.cons.inj h).1
  cases this
 ·unfold rowH
  show(decide _&&((42:UInt8)==32&&_))=false
  rw[show((42:UInt8)==32)=false from rfl,Bool.false_and,Bool.and_false]
theorem has_no {rows:RW}{c:Int}(h:hasK rows c=false):∀x∈rows,(x.1==c)=false:=fun x hx=>by
 unfold hasK at h
 have:=List.any_eq_false.1 h x hx
 simpa using this
theorem filter_len_ne {rows:RW}{c d:Int}(h:hasK rows c=true)(hcd:c≠d):((rows.filter fun x=> !(x.1==d)).length==0)=false:=by
 unfold hasK at h
 obtain⟨x,hx,hc⟩:=List.any_eq_true.1 h
 have:x∈rows.filter fun x=> !(x.1==d):=List.mem_filter.2 ⟨hx,by
  rw[beq_iff_eq.1 hc,Bool.not_eq_true',beq_eq_false_iff_ne];exact hcd⟩
 rw[beq_eq_false_iff_ne]
 intro h0
 rw[List.eq_nil_of_length_eq_zero h0] at this
 cases this
def MoreOk (r:TX):Prop:=r=[]∨∃t,r=starL::t
theorem MoreOk.nn {r:TX}(h:MoreOk r):NN r∧∀(sg:UInt8),∀l∈r.head?,rowH sg l=false:=by
 rcases h with rfl|⟨t,rfl⟩
 ·exact⟨by unfold NN;simp,fun sg l hl=>by cases hl⟩
 ·refine⟨fun h=> ?_,fun sg l hl=> ?_⟩
  ·have:=Option.some.inj h
   cases this
  ·obtain rfl:=Option.some.inj hl
   exact(hd_row sg (0,(0,([],())))).2.2
theorem halves {x:PV Y_impl_Group}(h:goodG x=true){more:TX}(hm:MoreOk more):
 takeH 45 2 (optL x 2 3++(hd2 x::(optL x 3 2++more))).length (optL x 2 3++(hd2 x::(optL x 3 2++more)))=(bif hasK x.2.2.1 2 then oldR x.2.2.1 else[],hd2 x::(optL x 3 2++more))∧
 takeH 43 3 (optL x 3 2++more).length (optL x 3 2++more)=(bif hasK x.2.2.1 3 then newR x.2.2.1 else[],more)∧
 oldH (bif hasK x.2.2.1 2 then oldR x.2.2.1 else[]) (bif hasK x.2.2.1 3 then newR x.2.2.1 else[])=oldR x.2.2.1∧
 newH (bif hasK x.2.2.1 2 then oldR x.2.2.1 else[]) (bif hasK x.2.2.1 3 then newR x.2.2.1 else[])=newR x.2.2.1:=by
 obtain⟨hr,hadj,hch,_⟩:=goodG_facts h
 obtain⟨m1,m2⟩:=hm.nn
 refine⟨?_,?_,?_,?_⟩
 ·have hs:∀l∈(hd2 x::(optL x 3 2++more):TX).head?,rowH 45 l=false:=fun l hl=>by obtain rfl:=Option.some.inj hl;exact(hd_row 45 x).1
  have hn:NN (hd2 x::(optL x 3 2++more)):=fun h=>(hd_row 45 x).2.1 (Option.some.inj h)
  unfold optL
  cases hasK x.2.2.1 2
  ·exact takeH_stop hs _
  ·rw[cond_true,cond_true]
   have:=take_half (c:=3) (q:=2) (sg:=45) (.inl ⟨rfl,rfl,rfl⟩) hr hn hs (List.length x.2.2.1) 0 (hG x.2.2.1 3 (List.length x.2.2.1) 0++(hd2 x::(optL x 3 2++more))).length (by omega) (by simp)
   rw[List.drop_zero] at this
   exact this
 ·unfold optL
  cases hasK x.2.2.1 3
  ·exact takeH_stop (m2 43) _
  ·rw[cond_true,cond_true]
   have:=take_half (c:=2) (q:=3) (sg:=43) (.inr ⟨rfl,rfl,rfl⟩) hr m1 (m2 43) (List.length x.2.2.1) 0 (hG x.2.2.1 2 (List.length x.2.2.1) 0++more).length (by omega) (by simp)
   rw[List.drop_zero] at this
   exact this
 ·cases h2:hasK x.2.2.1 2
  ·have h3:hasK x.2.2.1 3=true:=by rcases hch with h|h;rw[h2] at h;cases h;exact h
   rw[h3,cond_false,cond_true]
   unfold oldH
   rw[show(([]:RW).length==0)=true from rfl,cond_true]
   unfold keepR newR oldR
   rw[List.filter_filter]
   refine List.filter_congr fun y hy=> ?_
   obtain⟨i,hi,rfl⟩:=List.mem_iff_getElem.1 hy
   have hk:=(hr i hi).1
   unfold kd at hk
   rw[getD_of hi] at hk
   have:=has_no h2 _ hy
   rcases hk with hk|hk|hk
   ·rw[hk];rfl
   ·rw[hk] at this;cases this
   ·rw[hk];rfl
  ·rw[cond_true]
   unfold oldH oldR
   rw[filter_len_ne h2 (by decide),cond_false]
 ·cases h2:hasK x.2.2.1 2
  ·have h3:hasK x.2.2.1 3=true:=by rcases hch with h|h;rw[h2] at h;cases h;exact h
   rw[h3]
   rfl
  ·rw[cond_true]
   unfold newH
   rw[show((oldR x.2.2.1).length==0)=false from filter_len_ne h2 (by decide),cond_false]
   cases h3:hasK x.2.2.1 3
   ·rw[cond_false,show(([]:RW).length==0)=true from rfl,cond_true]
    unfold keepR newR oldR
    rw[List.filter_filter]
    refine List.filter_congr fun y hy=> ?_
    obtain⟨i,hi,rfl⟩:=List.mem_iff_getElem.1 hy
    have hk:=(hr i hi).1
    unfold kd at hk
    rw[getD_of hi] at hk
    have:=has_no h3 _ hy
    rcases hk with hk|hk|hk
    ·rw[hk];rfl
    ·rw[hk];rfl
    ·rw[hk] at this;cases this
   ·rw[cond_true,show((newR x.2.2.1).length==0)=false from filter_len_ne h3 (by decide),cond_false]
theorem side_old (rows:RW):(oldR rows).length=(sideL rows 3).length:=by unfold oldR sideL;rw[List.length_map]
theorem side_new (rows:RW):(newR rows).length=(sideL rows 2).length:=by unfold newR sideL;rw[List.length_map]
theorem atH_numb {a:Nat}{l:RW}{m:Nat}(h:l.length=m):atH ((numb a m:Nat):Int) l=(a:Int):=by
 unfold atH numb
 rw[h]
 by_cases hm:0<m
 ·rw[decide_eq_true hm,cond_true,if_pos hm];omega
 ·rw[decide_eq_false hm,cond_false,if_neg hm]
theorem side_step_good {x:PV Y_impl_Group}(h:goodG x=true){more:TX}(hm:MoreOk more)(out:GR)(ho:out.length<20)(hn:(scL x++more).length≤3000)(hl:∀l∈scL x++more,l.length≤3000):
 b_I_readSides_2 (scL x++more) out=some (.inl (more,out++[x],())):=by
 obtain⟨hr,hadj,hch,⟨a,ea,ha,ha2⟩,⟨b,eb,hb,hb2⟩⟩:=goodG_facts h
 obtain⟨t1,t2,t3,t4⟩:=halves h hm
 have e:scL x++more=starL::hd1 x::(optL x 2 3++(hd2 x::(optL x 3 2++more))):=by unfold scL;simp
 have g1:=head_good (p:=pS1) (q:=qS1) (endR_pair (less:=1) ha ha2)
 have g2:=head_good (p:=pS2) (q:=qS2) (endR_pair (less:=1) hb hb2)
 have f1:hd1 x=pS1++pairT a (sideL x.2.2.1 3).length++qS1:=by unfold hd1;rw[ea,toNat_cast]
 have f2:hd2 x=pS2++pairT b (sideL x.2.2.1 2).length++qS2:=by unfold hd2;rw[eb,toNat_cast]
 rw[←f1] at g1
 rw[←f2] at g2
 rw[e] at hl hn ⊢
 rw[sides_step out (hd1 x) (hd2 x) _ (optL x 3 2++more) more _ _ g1.2 t1 g2.2 t2 (by simp only[List.length_cons] at hn;omega) (fun l hl'=>hl l (List.mem_cons_of_mem _ hl')) ho]
 have:grpH (headN pS1 qS1 (hd1 x)) (headN pS2 qS2 (hd2 x)) (bif hasK x.2.2.1 2 then oldR x.2.2.1 else[]) (bif hasK x.2.2.1 3 then newR x.2.2.1 else[])=x:=by
  unfold grpH
  rw[t3,t4,g1.1,g2.1,atH_numb (side_old _),atH_numb (side_new _),mg_rows x.2.2.1 _ (NG_of hr hadj) (Nat.le_refl _),←ea,←eb]
  rfl
 rw[this]
theorem more_ok:∀(gs:GR),MoreOk (gs.flatMap scL)
 |[]=>.inl rfl
 |x::gs=>.inr ⟨_,by rw[List.flatMap_cons];unfold scL;rfl⟩
theorem sides_good:∀(gs:GR) (out:GR),(∀x∈gs,goodG x=true)→out.length+gs.length≤20→(gs.flatMap scL).length≤3000→(∀l∈gs.flatMap scL,l.length≤3000)→w_I_readSides_2 (gs.flatMap scL,out,())=some (.inl (out++gs,()))
 |[],out,_,_,_,_=>by rw[List.append_nil];exact sides_stop rfl
 |x::gs,out,hg,ho,hn,hl=>by
  rw[List.flatMap_cons] at hn hl ⊢
  have hs:=side_step_good (hg x (List.mem_cons_self ..)) (more_ok gs) out (by simp at ho;omega) hn hl
  have ih:=sides_good gs (out++[x]) (fun y hy=>hg y (List.mem_cons_of_mem _ hy)) (by simp at ho ⊢;omega) (by rw[List.length_append] at hn;omega) (fun l hl'=>hl l (List.mem_append_right _ hl'))
  rw[List.append_assoc] at ih
  exact sides_go hs ih
end R
end

section
/- What the program answers to a text side by side. -/
open Go Go.Dn
namespace R
set_option linter.unusedVariables false
theorem pairT_no10 {a m:Nat}(ha:a≤999)(hm:a+m≤1000):(10:UInt8)∉pairT a m:=fun h=>by
 rcases pairT_ch ha hm 10 h with h|h<;>cases h
theorem hd_isL {x:PV Y_impl_Group}(h:goodG x=true):isL (hd1 x)∧isL (hd2 x):=by
 obtain⟨_,_,_,⟨a,ea,ha,ha2⟩,⟨b,eb,hb,hb2⟩⟩:=goodG_facts h
 refine⟨⟨pS1++pairT a (sideL x.2.2.1 3).length++[32,42,42,42,42],by unfold hd1;rw[ea,toNat_cast];simp,fun hm=> ?_⟩,⟨pS2++pairT b (sideL x.2.2.1 2).length++[32,45,45,45,45],by unfold hd2;rw[eb,toNat_cast];simp,fun hm=> ?_⟩⟩
 ·rcases List.mem_append.1 hm with hm|hm
  ·rcases List.mem_append.1 hm with hm|hm
   ·revert hm;decide
   ·exact pairT_no10 ha ha2 hm
  ·revert hm;decide
 ·rcases List.mem_append.1 hm with hm|hm
  ·rcases List.mem_append.1 hm with hm|hm
   ·revert hm;decide
   ·exact pairT_no10 hb hb2 hm
  ·revert hm;decide
theorem star_isL:isL starL:=⟨[42,42,42,42,42,42,42,42,42,42,42,42,42,42,42],rfl,by decide⟩
theorem scL_isL {x:PV Y_impl_Group}(h:goodG x=true):∀l∈scL x,isL l:=by
 obtain⟨hr,_⟩:=goodG_facts h
 obtain⟨h1,h2⟩:=hd_isL h
 have ho:∀(d c q:Int) (sg:UInt8),SgOk c sg q→∀l∈optL x d c,isL l:=fun d c q sg hs l hl=>by
  unfold optL at hl
  cases hd:hasK x.2.2.1 d<;>rw[hd] at hl
  ·cases hl
  ·exact hG_isL hs hr _ 0 (by omega) l hl
 intro l hl
 unfold scL at hl
 rcases List.mem_cons.1 hl with rfl|hl
 ·exact star_isL
 rcases List.mem_cons.1 hl with rfl|hl
 ·exact h1
 rcases List.mem_append.1 hl with hl|hl
 ·exact ho 2 3 2 45 (.inl ⟨rfl,rfl,rfl⟩) l hl
 rcases List.mem_cons.1 hl with rfl|hl
 ·exact h2
 ·exact ho 3 2 3 43 (.inr ⟨rfl,rfl,rfl⟩) l hl
theorem goods {gs:GR}(hg:goodGs gs=true):(∀x∈gs,goodG x=true)∧gs.length≤20:=by
 refine⟨fun x hx=> ?_,?_⟩
 ·obtain⟨i,hi,rfl⟩:=List.mem_iff_getElem.1 hx
  exact(good_mem' hg hi).1
 ·cases gs with
  |nil=>exact Nat.zero_le _
  |cons x gs=>exact(good_mem' hg (i:=0) (by simp)).2
theorem text_lines {gs:GR}(hg:goodGs gs=true):cutP (sidesT gs)=gs.flatMap scL∧∀l∈gs.flatMap scL,isL l:=by
 have hL:∀l∈gs.flatMap scL,isL l:=fun l hl=>by
  obtain⟨x,hx,hl⟩:=List.mem_flatMap.1 hl
  exact scL_isL ((goods hg).1 x hx) l hl
 have flat:∀gs:GR,(gs.flatMap scL).flatten=sidesT gs:=by
  intro gs
  induction gs with
  |nil=>rfl
  |cons x gs ih=>
   unfold sidesT at ih ⊢
   rw[List.flatMap_cons,List.flatMap_cons,List.flatten_append,ih,scL_flat]
 refine⟨?_,hL⟩
 rw[←flat gs,cutP_lines hL]
theorem raw_good {gs:GR}(hg:goodGs gs=true)(hl:(sidesT gs).length≤3000):f_I_readSides (cutP (sidesT gs))=some ((gs,true,()),()):=by
 obtain⟨h1,h2⟩:=goods hg
 have hc:=cutP_len (sidesT gs)
 have hm:∀l∈cutP (sidesT gs),l.length≤3000:=fun l h=>by have:=cutP_mem h;omega
 obtain⟨e,_⟩:=text_lines hg
 rw[e] at hc hm ⊢
 unfold f_I_readSides
 rw[sides_good gs [] h1 (by simpa using h2) (by omega) hm]
 rfl
theorem read_I (s:List UInt8):∃(gs:GR) (c:Int) (q:Bool),f_I_ReadContext s=some ((gs,c,q,()),())∧
 ((goodGs gs=true∧sidesT gs=s∧s.length≤3000∧c=0∧q=true)∨((∀gs,goodGs gs=true→sidesT gs=s→s.length≤3000→False)∧gs=[]∧c=1∧q=false)):=by
 unfold f_I_ReadContext
 by_cases hs:s.length≤3000
 ·rw[decide_eq_true (by omega:(s.length:Int)≤3000),cond_true,linesOf_I s (by omega),Option.bind_some]
  dsimp only
  have hc:=cutP_len s
  obtain⟨gs,q,e,hsm⟩:=readSides_I (cutP s) (by omega) (fun l h=>by have:=cutP_mem h;omega)
  rw[e,Option.bind_some]
  dsimp only
  rw[sidesTextR_I hsm,Option.bind_some]
  dsimp only
  have key:∀gs0,goodGs gs0=true→sidesT gs0=s→gs=gs0∧q=true∧stOk gs=true∧stR gs=s:=fun gs0 h1 h2=>by
   have:=raw_good h1 (by rw[h2];exact hs)
   rw[h2,e] at this
   have h3:=Option.some.inj this
   have h4:=(Prod.mk.inj h3).1
   obtain⟨rfl,h5⟩:=Prod.mk.inj h4
   have h6:=(Prod.mk.inj h5).1
   have h7:stOk gs=true:=by unfold stOk;rw[h1,h2,decide_eq_true hs];rfl
   exact⟨rfl,h6,h7,by unfold stR;rw[h7,cond_true,h2]⟩
  by_cases H:q=true∧stOk gs=true∧stR gs=s
  ·obtain⟨h1,h2,h3⟩:=H
   rw[h1,h2,cond_true,cond_true,h3,Option.bind_some]
   dsimp only
   rw[beq_self_eq_true,cond_true,Option.bind_some]
   have h2':=h2
   unfold stOk at h2'
   rw[Bool.and_eq_true] at h2'
   refine⟨gs,0,true,rfl,.inl ⟨h2'.1,?_,hs,rfl,rfl⟩⟩
   unfold stR at h3
   rw[h2,cond_true] at h3
   exact h3
  ·have hno:∀gs0,goodGs gs0=true→sidesT gs0=s→s.length≤3000→False:=fun gs0 h1 h2 _=>by
    obtain⟨rfl,h5,h6,h7⟩:=key gs0 h1 h2
    exact H ⟨h5,h6,h7⟩
   refine⟨[],1,false,?_,.inr ⟨hno,rfl,rfl,rfl⟩⟩
   cases hq:q
   ·rfl
   ·rw[cond_true]
    cases ho:stOk gs
    ·rfl
    ·rw[cond_true]
     have:(stR gs==s)=false:=by
      rw[beq_eq_false_iff_ne]
      exact fun h=>H ⟨hq,ho,h⟩
     rw[this]
     rfl
 ·rw[decide_eq_false (by omega:¬(s.length:Int)≤3000),cond_false,Option.bind_some]
  exact⟨[],1,false,rfl,.inr ⟨fun _ _ _ h=>hs h,rfl,rfl,rfl⟩⟩
end R
end

section
/- One group side by side, as the reference reads it. -/
open Go Go.Dn
namespace R
set_option linter.unusedVariables false
def rangeS (p q l:List UInt8):PVs [.int .i64,.int .i64,.bool]:=
 bif decide (p.length+q.length≤l.length)&&((l.take p.length==p)&&(l.drop (l.length -q.length)==q)) then endR 0 ((l.take (l.length -q.length)).drop p.length) else(0,0,false,())
theorem rangeS_rng (p q l:List UInt8):0≤(rangeS p q l).1∧(rangeS p q l).1≤1000:=by
 unfold rangeS
 cases decide (p.length+q.length≤l.length)&&((l.take p.length==p)&&(l.drop (l.length -q.length)==q))
 ·exact⟨Int.le_refl _,by show(0:Int)≤1000;decide⟩
 ·exact endR_rng 0 _
theorem cutI {α:Type}(a b:Nat)(l:List α):cutL (a:Int) (b:Int) l=(l.take b).drop a:=by unfold cutL;rw[toNat_cast,toNat_cast]
theorem cutBI {a b n:Nat}(h1:a≤b)(h2:b≤n):cutB (a:Int) (b:Int) n=true:=by unfold cutB;simp;omega
theorem range_S8 (p q l:List UInt8)(hp:p.length≤100)(hq:q.length≤100)(hl:l.length≤3000):f_S_l8Range l p q=some (rangeS p q l,()):=by
 unfold f_S_l8Range rangeS
 rw[wrap64 (by omega) (by omega)]
 by_cases h:p.length+q.length≤l.length
 ·rw[decide_eq_false (by omega:¬(l.length:Int)<(p.length:Int)+(q.length:Int)),cond_false,decide_eq_true h,Bool.true_and]
  have w1:IntKind.wrap .i64 ((l.length:Int) -(q.length:Int))=((l.length -q.length:Nat):Int):=by rw[wrap64 (by omega) (by omega)];omega
  have c1:cutB 0 (p.length:Int) l.length=true:=cutBI (a:=0) (Nat.zero_le _) (by omega)
  have e1:cutL 0 (p.length:Int) l=l.take p.length:=by rw[show(0:Int)=((0:Nat):Int) from rfl,cutI];rfl
  have c2:cutB ((l.length -q.length:Nat):Int) (l.length:Int) l.length=true:=cutBI (by omega) (Nat.le_refl _)
  have e2:cutL ((l.length -q.length:Nat):Int) (l.length:Int) l=l.drop (l.length -q.length):=by rw[cutI,List.take_length]
  have c3:cutB (p.length:Int) ((l.length -q.length:Nat):Int) l.length=true:=cutBI (by omega) (by omega)
  rw[w1,c1,cond_true,e1]
  cases h1:(l.take p.length==p)
  ·rfl
  ·rw[Bool.not_true,cond_false,c2,cond_true,e2,Option.bind_some]
   dsimp only
   cases h2:(l.drop (l.length -q.length)==q)
   ·rfl
   ·rw[Bool.not_true,cond_false,w1,c3,cond_true,cutI,readPair_S _ (by rw[List.length_drop,List.length_take];omega),Option.bind_some]
    rfl
 ·rw[decide_eq_true (by omega:(l.length:Int)<(p.length:Int)+(q.length:Int)),cond_true,decide_eq_false h]
  rfl
theorem range_good {p q x:List UInt8}{n m:Int}(h:endR 0 x=(n,m,true,())):rangeS p q (p++x++q)=(n,m,true,()):=by
 have e1:((p++x++q).take p.length==p)=true:=by rw[List.append_assoc,List.take_left' rfl];exact beq_self_eq_true _
 have hl:(p++x++q).length -q.length=(p++x).length:=by rw[show(p++x++q).length=(p++x).length+q.length from List.length_append];omega
 have e2:((p++x++q).drop ((p++x++q).length -q.length)==q)=true:=by rw[hl,List.drop_left' rfl];exact beq_self_eq_true _
 unfold rangeS
 rw[e1,e2,decide_eq_true (by simp),hl,List.take_left' rfl,List.drop_left' rfl,h]
 rfl
theorem at_S8 (n:Int)(m:Nat)(h0:0≤n)(h1:n≤1000):f_S_l8At n (m:Int)=some ((bif decide (0<m) then n -1 else n,()),()):=by
 unfold f_S_l8At
 rw[wrap64 (by omega) (by omega)]
 by_cases h:0<m
 ·rw[decide_eq_true (by omega:(m:Int)>0),decide_eq_true h];rfl
 ·rw[decide_eq_false (by omega:¬(m:Int)>0),decide_eq_false h];rfl
def grpS (n m:Int)(rows:RW):PV Y_impl_Group:=(bif decide (0<(sideL rows 3).length) then n -1 else n,(bif decide (0<(sideL rows 2).length) then m -1 else m,(rows,())))
abbrev G00:PV Y_impl_Group:=(0,(0,(([]:PV S_impl_Row),())))
theorem rwF_len:∀(fu:Nat) (o n:LN8),(rwF fu o n).length≤o.length+n.length∧∀r∈rwF fu o n,∃x,(x∈o∨x∈n)∧r.2.1=x.2.1
 |0,o,n=>⟨Nat.zero_le _,fun r h=>by cases h⟩
 |f+1,[],[]=>⟨Nat.zero_le _,fun r h=>by cases h⟩
 |f+1,[],y::b=>by
  obtain⟨k1,k2⟩:=rwF_len f [] b
  unfold rwF
  cases spB y
  ·refine⟨by simp at k1 ⊢;omega,fun r h=> ?_⟩
   rcases List.mem_cons.1 h with rfl|h
   ·exact⟨y,.inr (List.mem_cons_self ..),rfl⟩
   ·obtain⟨x,h1,h2⟩:=k2 r h
    exact⟨x,h1.imp id (List.mem_cons_of_mem _),h2⟩
  ·refine⟨by simp at k1 ⊢;omega,fun r h=> ?_⟩
   obtain⟨x,h1,h2⟩:=k2 r h
   exact⟨x,h1.imp id (List.mem_cons_of_mem _),h2⟩
 |f+1,x::a,[]=>by
  obtain⟨k1,k2⟩:=rwF_len f a []
  unfold rwF
  cases spB x
  ·refine⟨by simp at k1 ⊢;omega,fun r h=> ?_⟩
   rcases List.mem_cons.1 h with rfl|h
   ·exact⟨x,.inl (List.mem_cons_self ..),rfl⟩
   ·obtain⟨z,h1,h2⟩:=k2 r h
    exact⟨z,h1.imp (List.mem_cons_of_mem _) id,h2⟩
  ·refine⟨by simp at k1 ⊢;omega,fun r h=> ?_⟩
   rcases List.mem_cons.1 h with rfl|h
   ·exact⟨x,.inl (List.mem_cons_self ..),rfl⟩
   ·obtain⟨z,h1,h2⟩:=k2 r h
    exact⟨z,h1.imp (List.mem_cons_of_mem _) id,h2⟩
 |f+1,x::a,y::b=>by
  unfold rwF
  cases spB x
  ·obtain⟨k1,k2⟩:=rwF_len f a (y::b)
   refine⟨by simp at k1 ⊢;omega,fun r h=> ?_⟩
   rcases List.mem_cons.1 h with rfl|h
   ·exact⟨x,.inl (List.mem_cons_self ..),rfl⟩
   ·obtain⟨z,h1,h2⟩:=k2 r h
    exact⟨z,h1.imp (List.mem_cons_of_mem _) id,h2⟩
  ·rw[cond_true]
   cases spB y
   ·obtain⟨k1,k2⟩:=rwF_len f (x::a) b
    refine⟨by simp at k1 ⊢;omega,fun r h=> ?_⟩
    rcases List.mem_cons.1 h with rfl|h
    ·exact⟨y,.inr (List.mem_cons_self ..),rfl⟩
    ·obtain⟨z,h1,h2⟩:=k2 r h
     exact⟨z,h1.imp id (List.mem_cons_of_mem _),h2⟩
   ·obtain⟨k1,k2⟩:=rwF_len f a b
    refine⟨by simp at k1 ⊢;omega,fun r h=> ?_⟩
    rcases List.mem_cons.1 h with rfl|h
    ·exact⟨x,.inl (List.mem_cons_self ..),rfl⟩
    ·obtain⟨z,h1,h2⟩:=k2 r h
     exact⟨z,h1.imp (List.mem_cons_of_mem _) (List.mem_cons_of_mem _),h2⟩
theorem keepS_mem {l:LN8}{x:PV Y_spec_l8Line}(h:x∈keepS l):x∈l:=(List.mem_filter.1 h).1
theorem rowsOf_W {o n:LN8}(a b:Bool)(ho:o.length≤3000)(hn:n.length≤3000)(mo:∀x∈o,List.length x.2.1≤3000)(mn:∀x∈n,List.length x.2.1≤3000):(rowsOf o n a b).length≤6000∧∀r∈rowsOf o n a b,List.length r.2.1≤3000:=by
 unfold rowsOf
 have h1:(bif a then keepS n else o).length≤3000∧∀x∈(bif a then keepS n else o),List.length x.2.1≤3000:=by
  cases a
  ·exact⟨ho,mo⟩
  ·exact⟨Nat.le_trans (keepS_len n) hn,fun x hx=>mn x (keepS_mem hx)⟩
 obtain⟨o',ho'⟩:∃o',o'=(bif a then keepS n else o):=⟨_,rfl⟩
 dsimp only
 rw[←ho'] at h1 ⊢
 have h2:(bif b then keepS o' else n).length≤3000∧∀x∈(bif b then keepS o' else n),List.length x.2.1≤3000:=by
  cases b
  ·exact⟨hn,mn⟩
  ·exact⟨Nat.le_trans (keepS_len o') h1.1,fun x hx=>h1.2 x (keepS_mem hx)⟩
 obtain⟨k1,k2⟩:=rwF_len (o'.length+(bif b then keepS o' else n).length) o' (bif b then keepS o' else n)
 refine⟨by have:=h2.1;have:=h1.1;omega,fun r hr=> ?_⟩
 obtain⟨x,hx,e⟩:=k2 r hr
 rw[e]
 exact hx.elim (h1.2 x) (h2.2 x)
theorem nat0 (n:Nat):((n:Int)==0)=(n==0):=by
 rw[Bool.eq_iff_iff]
 simp only[beq_iff_eq]
 omega
theorem one_good {l1 l2:List UInt8}{t1 r2:TX}{n1:Nat}{o w:LN8}{m:Nat}(hA:(rangeS pS1 qS1 l1).2.2.1=true)(hB:takeS 45 t1.length t1=(o,n1))(hC:t1.drop n1=l2::r2)(hD:(rangeS pS2 qS2 l2).2.2.1=true)(hE:takeS 43 r2.length r2=(w,m))
 (hn:(starL::l1::t1).length≤3000)(hall:∀l∈starL::l1::t1,1≤l.length∧l.length≤3000):
 f_S_l8One (starL::l1::t1)=some ((grpS (rangeS pS1 qS1 l1).1 (rangeS pS2 qS2 l2).1 (rowsOf o w (n1==0) (m==0)),((3+n1+m:Nat):Int),()),()):=by
 have hlen:(starL::l1::t1).length=t1.length+2:=rfl
 have hdl:(t1.drop n1).length=r2.length+1:=by rw[hC];rfl
 rw[List.length_drop] at hdl
 have m1:∀l∈t1,1≤l.length∧l.length≤3000:=fun l hl=>hall l (List.mem_cons_of_mem _ (List.mem_cons_of_mem _ hl))
 have m2:∀l∈l2::r2,l∈t1:=fun l hl=>by rw[←hC] at hl;exact List.mem_of_mem_drop hl
 have k2:=takeS_len 43 r2.length r2
 have k1:=takeS_len 45 t1.length t1
 have q1:=takeS_mem 45 t1.length t1 (fun l hl=>(m1 l hl).2)
 have q2:=takeS_mem 43 r2.length r2 (fun l hl=>(m1 l (m2 l (List.mem_cons_of_mem _ hl))).2)
 rw[hE] at k2 q2
 rw[hB] at k1 q1
 simp only at k2 k1 q1 q2
 obtain⟨w1,w2⟩:=rowsOf_W (o:=o) (n:=w) (n1==0) (m==0) (by omega) (by omega) q1 q2
 have hsm:SmR (rowsOf o w (n1==0) (m==0)):=⟨by omega,fun r hr=>by have:=w2 r hr;omega⟩
 obtain⟨u1,u2⟩:=rangeS_rng pS1 qS1 l1
 obtain⟨v1,v2⟩:=rangeS_rng pS2 qS2 l2
 have g2:(starL::l1::t1).getD (2+n1) []=l2:=by
  have:(t1.drop n1)[0]? =some l2:=by rw[hC];rfl
  rw[List.getElem?_drop,Nat.add_zero] at this
  rw[List.getD_eq_getElem?_getD,show 2+n1=n1+1+1 by omega,List.getElem?_cons_succ,List.getElem?_cons_succ,this]
  rfl
 have x2:IntKind.wrap .i64 (2+(n1:Int))=((2+n1:Nat):Int):=by rw[wrap64 (by omega) (by omega)];omega
 have x3:IntKind.wrap .i64 (3+(n1:Int))=((3+n1:Nat):Int):=by rw[wrap64 (by omega) (by omega)];omega
 have x4:IntKind.wrap .i64 (((3+n1:Nat):Int)+(m:Int))=((3+n1+m:Nat):Int):=by rw[wrap64 (by omega) (by omega)];omega
 have c2:cutB 2 ((starL::l1::t1).length:Int) (starL::l1::t1).length=true:=cutBI (a:=2) (by rw[hlen];omega) (Nat.le_refl _)
 have e2:cutL 2 ((starL::l1::t1).length:Int) (starL::l1::t1)=t1:=by rw[show(2:Int)=((2:Nat):Int) from rfl,cutI,List.take_length];rfl
 have c3:cutB ((3+n1:Nat):Int) ((starL::l1::t1).length:Int) (starL::l1::t1).length=true:=cutBI (by rw[hlen];omega) (Nat.le_refl _)
 have e3:cutL ((3+n1:Nat):Int) ((starL::l1::t1).length:Int) (starL::l1::t1)=r2:=by
  rw[cutI,List.take_length,show 3+n1=(n1+1)+1+1 by omega,List.drop_succ_cons,List.drop_succ_cons,←List.drop_drop,hC]
  rfl
 have e0:(starL::l1::t1).getD ((0:Int).toNat) []=starL:=rfl
 have e1:(starL::l1::t1).getD ((1:Int).toNat) []=l1:=rfl
 have i0:inB 0 (starL::l1::t1).length=true:=inB_lt (i:=0) (by rw[hlen];omega)
 have i1:inB 1 (starL::l1::t1).length=true:=inB_lt (i:=1) (by rw[hlen];omega)
 have i2:inB ((2+n1:Nat):Int) (starL::l1::t1).length=true:=inB_lt (by rw[hlen];omega)
 have hl1:=(hall l1 (List.mem_cons_of_mem _ (List.mem_cons_self ..))).2
 have hl2:=(m1 l2 (m2 l2 (List.mem_cons_self ..))).2
 unfold f_S_l8One
 rw[decide_eq_false (by rw[hlen];omega:¬((starL::l1::t1).length:Int)<3),cond_false,i0,cond_true,e0,show(!(starL==starL))=false from rfl,Option.bind_some]
 dsimp only
 rw[cond_false,i1,cond_true,e1,range_S8 pS1 qS1 l1 (by decide) (by decide) hl1,Option.bind_some]
 dsimp only
 rw[c2,cond_true,e2,takeS_S 45 t1 (by omega) m1,hB,Option.bind_some]
 dsimp only
 rw[hA,Bool.not_true,cond_false,x2,decide_eq_false (by rw[hlen];omega:¬((2+n1:Nat):Int)≥((starL::l1::t1).length:Int)),Option.bind_some]
 dsimp only
 rw[cond_false,x2,i2,cond_true,toNat_cast,g2,range_S8 pS2 qS2 l2 (by decide) (by decide) hl2,Option.bind_some]
 dsimp only
 rw[x3,c3,cond_true,e3,takeS_S 43 r2 (by omega) (fun l hl=>m1 l (m2 l (List.mem_cons_of_mem _ hl))),hE,Option.bind_some]
 dsimp only
 rw[hD,Bool.not_true,cond_false,nat0,nat0,rows_S8 o w _ _ (by omega) (by omega),Option.bind_some]
 dsimp only
 rw[old_S (g:=(0,(0,(rowsOf o w (n1==0) (m==0),())))) hsm,Option.bind_some]
 dsimp only
 rw[at_S8 _ _ u1 u2,Option.bind_some]
 dsimp only
 rw[new_S (g:=(_,(0,(rowsOf o w (n1==0) (m==0),())))) hsm,Option.bind_some]
 dsimp only
 rw[at_S8 _ _ v1 v2,Option.bind_some]
 dsimp only
 rw[x4]
 rfl
theorem one_total {L:TX}(hn:L.length≤3000)(hall:∀l∈L,1≤l.length∧l.length≤3000):f_S_l8One L=some ((G00,0,()),())∨
 ∃g k,f_S_l8One L=some ((g,((k:Nat):Int),()),())∧3≤k∧k≤L.length∧GW g:=by
 by_cases h3:L.length<3
 ·left
  unfold f_S_l8One
  rw[decide_eq_true (by omega:(L.length:Int)<3),cond_true,Option.bind_some]
  rfl
 ·obtain⟨l0,l1,t1,rfl⟩:∃l0 l1 t1,L=l0::l1::t1:=by
   match L,h3 with
   |a::b::c,_=>exact⟨a,b,c,rfl⟩
   |[a],h=>exact absurd (by simp) h
   |[],h=>exact absurd (by simp) h
  ·have hlen:(l0::l1::t1).length=t1.length+2:=rfl
   have e0:(l0::l1::t1).getD ((0:Int).toNat) []=l0:=rfl
   have e1:(l0::l1::t1).getD ((1:Int).toNat) []=l1:=rfl
   have i0:inB 0 (l0::l1::t1).length=true:=inB_lt (i:=0) (by rw[hlen];omega)
   have i1:inB 1 (l0::l1::t1).length=true:=inB_lt (i:=1) (by rw[hlen];omega)
   have d3:decide (((l0::l1::t1).length:Int)<3)=false:=decide_eq_false (by omega)
   cases hs:(l0==starL)
   ·left
    unfold f_S_l8One
    rw[d3,cond_false,i0,cond_true,e0,hs]
    rfl
   ·obtain rfl:l0=starL:=by simpa using hs
    have m1:∀l∈t1,1≤l.length∧l.length≤3000:=fun l hl=>hall l (List.mem_cons_of_mem _ (List.mem_cons_of_mem _ hl))
    have hl1:=(hall l1 (List.mem_cons_of_mem _ (List.mem_cons_self ..))).2
    have c2:cutB 2 ((starL::l1::t1).length:Int) (starL::l1::t1).length=true:=cutBI (a:=2) (by rw[hlen];omega) (Nat.le_refl _)
    have e2:cutL 2 ((starL::l1::t1).length:Int) (starL::l1::t1)=t1:=by rw[show(2:Int)=((2:Nat):Int) from rfl,cutI,List.take_length];rfl
    obtain⟨o,n1,hB⟩:∃o n1,takeS 45 t1.length t1=(o,n1):=⟨_,_,rfl⟩
    have k1:=takeS_len 45 t1.length t1
    have q1:=takeS_mem 45 t1.length t1 (fun l hl=>(m1 l hl).2)
    rw[hB] at k1 q1
    simp only at k1 q1
    have x2:IntKind.wrap .i64 (2+(n1:Int))=((2+n1:Nat):Int):=by rw[wrap64 (by omega) (by omega)];omega
    cases hA:(rangeS pS1 qS1 l1).2.2.1
    ·left
     unfold f_S_l8One
     rw[d3,cond_false,i0,cond_true,e0,show(!(starL==starL))=false from rfl,Option.bind_some]
     dsimp only
     rw[cond_false,i1,cond_true,e1,range_S8 pS1 qS1 l1 (by decide) (by decide) hl1,Option.bind_some]
     dsimp only
     rw[c2,cond_true,e2,takeS_S 45 t1 (by omega) m1,hB,Option.bind_some]
     dsimp only
     rw[hA]
     rfl
    ·cases hC:t1.drop n1 with
     |nil=>
      have hle:t1.length≤n1:=by
       have:=congrArg List.length hC
       rw[List.length_drop,List.length_nil] at this
       omega
      left
      unfold f_S_l8One
      rw[d3,cond_false,i0,cond_true,e0,show(!(starL==starL))=false from rfl,Option.bind_some]
      dsimp only
      rw[cond_false,i1,cond_true,e1,range_S8 pS1 qS1 l1 (by decide) (by decide) hl1,Option.bind_some]
      dsimp only
      rw[c2,cond_true,e2,takeS_S 45 t1 (by omega) m1,hB,Option.bind_some]
      dsimp only
      rw[hA,Bool.not_true,cond_false,x2,decide_eq_true (by rw[hlen];omega:((2+n1:Nat):Int)≥((starL::l1::t1).length:Int)),Option.bind_some]
      rfl
     |cons l2 r2=>
      have hdl:(t1.drop n1).length=r2.length+1:=by rw[hC];rfl
      rw[List.length_drop] at hdl
      have m2:∀l∈l2::r2,l∈t1:=fun l hl=>by rw[←hC] at hl;exact List.mem_of_mem_drop hl
      obtain⟨w,m,hE⟩:∃w m,takeS 43 r2.length r2=(w,m):=⟨_,_,rfl⟩
      have k2:=takeS_len 43 r2.length r2
      have q2:=takeS_mem 43 r2.length r2 (fun l hl=>(m1 l (m2 l (List.mem_cons_of_mem _ hl))).2)
      rw[hE] at k2 q2
      simp only at k2 q2
      have hl2:=(m1 l2 (m2 l2 (List.mem_cons_self ..))).2
      cases hD:(rangeS pS2 qS2 l2).2.2.1
      ·left
       have g2:(starL::l1::t1).getD (2+n1) []=l2:=by
        have:(t1.drop n1)[0]? =some l2:=by rw[hC];rfl
        rw[List.getElem?_drop,Nat.add_zero] at this
        rw[List.getD_eq_getElem?_getD,show 2+n1=n1+1+1 by omega,List.getElem?_cons_succ,List.getElem?_cons_succ,this]
        rfl
       have i2:inB ((2+n1:Nat):Int) (starL::l1::t1).length=true:=inB_lt (by rw[hlen];omega)
       have x3:IntKind.wrap .i64 (3+(n1:Int))=((3+n1:Nat):Int):=by rw[wrap64 (by omega) (by omega)];omega
       have c3:cutB ((3+n1:Nat):Int) ((starL::l1::t1).length:Int) (starL::l1::t1).length=true:=cutBI (by rw[hlen];omega) (Nat.le_refl _)
       have e3:cutL ((3+n1:Nat):Int) ((starL::l1::t1).length:Int) (starL::l1::t1)=r2:=by
        rw[cutI,List.take_length,show 3+n1=(n1+1)+1+1 by omega,List.drop_succ_cons,List.drop_succ_cons,←List.drop_drop,hC]
        rfl
       unfold f_S_l8One
       rw[d3,cond_false,i0,cond_true,e0,show(!(starL==starL))=false from rfl,Option.bind_some]
       dsimp only
       rw[cond_false,i1,cond_true,e1,range_S8 pS1 qS1 l1 (by decide) (by decide) hl1,Option.bind_some]
       dsimp only
       rw[c2,cond_true,e2,takeS_S 45 t1 (by omega) m1,hB,Option.bind_some]
       dsimp only
       rw[hA,Bool.not_true,cond_false,x2,decide_eq_false (by rw[hlen];omega:¬((2+n1:Nat):Int)≥((starL::l1::t1).length:Int)),Option.bind_some]
       dsimp only
       rw[cond_false,x2,i2,cond_true,toNat_cast,g2,range_S8 pS2 qS2 l2 (by decide) (by decide) hl2,Option.bind_some]
       dsimp only
       rw[x3,c3,cond_true,e3,takeS_S 43 r2 (by omega) (fun l hl=>m1 l (m2 l (List.mem_cons_of_mem _ hl))),hE,Option.bind_some]
       dsimp only
       rw[hD]
       rfl
      ·right
       obtain⟨w1,w2⟩:=rowsOf_W (o:=o) (n:=w) (n1==0) (m==0) (by omega) (by omega) q1 q2
       exact⟨_,3+n1+m,one_good hA hB hC hD hE hn hall,by omega,by rw[hlen];omega,by show(rowsOf o w (n1==0) (m==0)).length≤10000;omega,w2⟩
end R
end

section
/- What the reference answers to a text side by side. -/
open Go Go.Dn
namespace R
set_option linter.unusedVariables false
def toRow (c:Int)(x:PV Y_spec_l8Line):PV Y_impl_Row:=mkRow (bif spB x then 1 else c) x.2.1
theorem toRow_one {c:Int}{x:PV Y_spec_l8Line}(hc:(c==1)=false):((toRow c x).1==1)=spB x:=by
 show((bif spB x then(1:Int) else c)==1)=spB x
 cases spB x
 ·exact hc
 ·rfl
theorem isL_at {l:List UInt8}(h:isL l):(l.length=2→l.getD 1 0=10)∧(3≤l.length→endP (l.drop 2)=true):=by
 obtain⟨t,rfl,ht⟩:=h
 refine⟨fun h2=> ?_,fun h3=> ?_⟩
 ·obtain⟨a,rfl⟩:=List.length_eq_one_iff.1 (by simpa using h2:t.length=1)
  rfl
 ·rw[List.length_append,List.length_singleton] at h3
  rw[List.drop_append_of_le_length (by omega),endP_app (by simp)]
  decide
theorem rowSH (sg:UInt8){l:List UInt8}(h:isL l):rowS sg l=rowH sg l:=by
 have hcon:([32,sg,33]:List UInt8).contains (l.getD 0 0)=([32,33,sg]:List UInt8).contains (l.getD 0 0):=by
  simp only[List.contains_cons,List.contains_nil,Bool.or_false]
  cases(l.getD 0 0==32)<;>cases(l.getD 0 0==sg)<;>cases(l.getD 0 0==33)<;>rfl
 unfold rowS rowH
 rw[hcon]
 by_cases h3:3≤l.length
 ·rw[decide_eq_true h3,decide_eq_true (by omega:1<l.length),Bool.true_and,Bool.true_and,Bool.and_comm]
 ·rw[decide_eq_false h3,Bool.false_and,Bool.and_false]
  by_cases h1:1<l.length
  ·rw[(isL_at h).1 (by omega),show((10:UInt8)==32)=false from rfl,Bool.false_and,Bool.and_false]
  ·rw[decide_eq_false h1,Bool.false_and]
theorem rowH_len {sg:UInt8}{l:List UInt8}(h:isL l)(hr:rowH sg l=true):3≤l.length:=by
 rw[←rowSH sg h] at hr
 unfold rowS at hr
 simp only[Bool.and_eq_true,decide_eq_true_eq] at hr
 exact hr.2.1
theorem mkRow_L8 {sg:UInt8}{q:Int}{l:List UInt8}(ls:TX)(h:isL l)(hr:rowH sg l=true):toRow q (mkL8 l ls)=mkRow (kdH q l) (lineQ (l.drop 2) ls):=by
 have he:=(isL_at h).2 (rowH_len h hr)
 have e1:spB (mkL8 l ls)=(l.getD 0 0==32):=b32 _
 have e2:lineS (l.drop 2) ls=lineQ (l.drop 2) ls:=by
  unfold lineS lineQ plainB
  rw[he,cond_true]
 unfold toRow kdH
 rw[e1]
 show mkRow _ (lineS (l.drop 2) ls)=_
 rw[e2]
theorem takeS_H (sg:UInt8)(q:Int):∀(fu:Nat) (ls:TX),(∀l∈ls,isL l)→(takeS sg fu ls).1.map (toRow q)=(takeH sg q fu ls).1∧(takeH sg q fu ls).2=ls.drop (takeS sg fu ls).2
 |0,ls,_=>⟨rfl,rfl⟩
 |_+1,[],_=>⟨rfl,rfl⟩
 |fu+1,l::ls,hl=>by
  have h:=hl l (List.mem_cons_self ..)
  obtain⟨k1,k2⟩:=takeS_H sg q fu (restQ ls) (fun x hx=>hl x (List.mem_cons_of_mem _ (restQ_mem hx)))
  obtain⟨u,hu,hu2⟩:=stepC_pre ls
  unfold takeS takeH
  rw[rowSH sg h]
  cases hr:rowH sg l
  ·exact⟨rfl,rfl⟩
  ·rw[cond_true,cond_true]
   refine⟨?_,?_⟩
   ·rw[List.map_cons,mkRow_L8 ls h hr,k1]
   ·dsimp only
    rw[k2,←hu2,show u.length+1+(takeS sg fu (restQ ls)).2=(u.length+(takeS sg fu (restQ ls)).2)+1 by omega,List.drop_succ_cons,←List.drop_drop]
    congr 1
    conv=>rhs;rw[hu]
    rw[List.drop_left]
theorem rwF_mg:∀(fu:Nat) (o n:LN8) (r:RW),mg fu (o.map (toRow 2)) (n.map (toRow 3))=some r→rwF fu o n=r
 |0,o,n,r,h=>Option.some.inj h
 |f+1,[],[],r,h=>Option.some.inj h
 |f+1,[],y::b,r,h=>by
  simp only[List.map_nil,List.map_cons,mg,toRow_one (c:=3) (x:=y) rfl] at h
  unfold rwF
  cases hy:spB y<;>rw[hy] at h
  ·obtain⟨r',h1,rfl⟩:=Option.map_eq_some_iff.1 h
   rw[cond_false,rwF_mg f [] b r' h1]
   unfold toRow
   rw[hy];rfl
  ·cases h
 |f+1,x::a,[],r,h=>by
  simp only[List.map_nil,List.map_cons,mg,toRow_one (c:=2) (x:=x) rfl] at h
  unfold rwF
  cases hx:spB x<;>rw[hx] at h
  ·obtain⟨r',h1,rfl⟩:=Option.map_eq_some_iff.1 h
   rw[cond_false,rwF_mg f a [] r' h1]
   unfold toRow
   rw[hx];rfl
  ·cases h
 |f+1,x::a,y::b,r,h=>by
  simp only[List.map_cons,mg,toRow_one (c:=2) (x:=x) rfl,toRow_one (c:=3) (x:=y) rfl] at h
  unfold rwF
  cases hx:spB x<;>rw[hx] at h
  ·obtain⟨r',h1,rfl⟩:=Option.map_eq_some_iff.1 h
   rw[cond_false,rwF_mg f a (y::b) r' h1]
   unfold toRow
   rw[hx];rfl
  ·rw[cond_true] at h ⊢
   cases hy:spB y<;>rw[hy] at h
   ·obtain⟨r',h1,rfl⟩:=Option.map_eq_some_iff.1 h
    rw[cond_false,rwF_mg f (x::a) b r' h1]
    unfold toRow
    rw[hy];rfl
   ·obtain⟨r',h1,rfl⟩:=Option.map_eq_some_iff.1 h
    rw[cond_true,rwF_mg f a b r' h1]
    unfold toRow
    rw[hx];rfl
theorem keep_map (c d:Int)(hd:(d==1)=false):∀(l:LN8),(keepS l).map (toRow c)=keepR (l.map (toRow d))
 |[]=>rfl
 |x::l=>by
  have ih:=keep_map c d hd l
  unfold keepS keepR at ih ⊢
  rw[List.map_cons]
  cases h:spB x
  ·rw[List.filter_cons_of_neg (by rw[h];simp),List.filter_cons_of_neg (by rw[toRow_one hd,h];simp),ih]
  ·rw[List.filter_cons_of_pos h,List.filter_cons_of_pos (by rw[toRow_one hd,h]),List.map_cons,ih]
   unfold toRow
   rw[h];rfl
theorem rowsOf_eq {o w:LN8}{n1 m:Nat}{rows:RW}(h1:n1=0↔o=[])(h2:m=0↔w=[])(ho:oldH (o.map (toRow 2)) (w.map (toRow 3))=oldR rows)(hn:newH (o.map (toRow 2)) (w.map (toRow 3))=newR rows)(hr:NG rows):rowsOf o w (n1==0) (m==0)=rows:=by
 have key:∀(o' n':LN8),o'.map (toRow 2)=oldR rows→n'.map (toRow 3)=newR rows→rwF (o'.length+n'.length) o' n'=rows:=fun o' n' e1 e2=>by
  refine rwF_mg _ o' n' rows ?_
  rw[e1,e2]
  refine mg_rows rows _ hr ?_
  rw[←e1,←e2,List.length_map,List.length_map]
  exact Nat.le_refl _
 unfold rowsOf
 unfold oldH at ho
 unfold newH at hn
 rw[List.length_map] at ho hn
 rw[List.length_map] at hn
 have z1:(n1==0)=(o.length==0):=by
  rw[Bool.eq_iff_iff,beq_iff_eq,beq_iff_eq,h1,List.length_eq_zero_iff]
 have z2:(m==0)=(w.length==0):=by
  rw[Bool.eq_iff_iff,beq_iff_eq,beq_iff_eq,h2,List.length_eq_zero_iff]
 rw[z1,z2]
 cases q1:(o.length==0)<;>rw[q1] at ho hn
 ·rw[cond_false] at ho hn
  cases q2:(w.length==0)<;>rw[q2] at hn
  ·exact key o w ho hn
  ·rw[cond_true] at hn
   exact key o (keepS o) ho (by rw[keep_map 3 2 rfl];exact hn)
 ·rw[cond_true] at ho hn
  cases q2:(w.length==0)
  ·exact key (keepS w) w (by rw[keep_map 2 3 rfl];exact ho) hn
  ·have hw:w=[]:=List.length_eq_zero_iff.1 (beq_iff_eq.1 q2)
   subst hw
   exact key [] [] ho hn
theorem one_step_good {x:PV Y_impl_Group}(h:goodG x=true){more:TX}(hm:MoreOk more)(hL:∀l∈scL x++more,isL l)(hn:(scL x++more).length≤3000)(hl:∀l∈scL x++more,1≤l.length∧l.length≤3000):
 ∃k:Nat,f_S_l8One (scL x++more)=some ((x,(k:Int),()),())∧3≤k∧k≤(scL x++more).length∧(scL x++more).drop k=more:=by
 obtain⟨hr,hadj,hch,⟨a,ea,ha,ha2⟩,⟨b,eb,hb,hb2⟩⟩:=goodG_facts h
 obtain⟨t1,t2,t3,t4⟩:=halves h hm
 have e:scL x++more=starL::hd1 x::(optL x 2 3++(hd2 x::(optL x 3 2++more))):=by unfold scL;simp
 have g1:=range_good (p:=pS1) (q:=qS1) (endR_pair (less:=0) ha ha2)
 have g2:=range_good (p:=pS2) (q:=qS2) (endR_pair (less:=0) hb hb2)
 have f1:hd1 x=pS1++pairT a (sideL x.2.2.1 3).length++qS1:=by unfold hd1;rw[ea,toNat_cast]
 have f2:hd2 x=pS2++pairT b (sideL x.2.2.1 2).length++qS2:=by unfold hd2;rw[eb,toNat_cast]
 rw[←f1] at g1
 rw[←f2] at g2
 rw[e] at hL hn hl ⊢
 obtain⟨T1,hT1⟩:∃T1,T1=optL x 2 3++(hd2 x::(optL x 3 2++more)):=⟨_,rfl⟩
 obtain⟨R2,hR2⟩:∃R2,R2=optL x 3 2++more:=⟨_,rfl⟩
 rw[←hT1] at t1 hL hn hl ⊢
 rw[←hR2] at t1 t2
 have LT:∀l∈T1,isL l:=fun l hl'=>hL l (List.mem_cons_of_mem _ (List.mem_cons_of_mem _ hl'))
 obtain⟨o,n1,hB⟩:∃o n1,takeS 45 T1.length T1=(o,n1):=⟨_,_,rfl⟩
 obtain⟨s1,s2⟩:=takeS_H 45 2 T1.length T1 LT
 rw[hB,t1] at s1 s2
 simp only at s1 s2
 have LR:∀l∈R2,isL l:=fun l hl'=>LT l (List.mem_of_mem_drop (i:=n1) (by rw[←s2];exact List.mem_cons_of_mem _ hl'))
 obtain⟨w,m,hE⟩:∃w m,takeS 43 R2.length R2=(w,m):=⟨_,_,rfl⟩
 obtain⟨s3,s4⟩:=takeS_H 43 3 R2.length R2 LR
 rw[hE,t2] at s3 s4
 simp only at s3 s4
 have k1:=(takeS_len 45 T1.length T1)
 have k2:=(takeS_len 43 R2.length R2)
 rw[hB] at k1
 rw[hE] at k2
 simp only at k1 k2
 have hone:=one_good (l1:=hd1 x) (l2:=hd2 x) (t1:=T1) (r2:=R2) (by rw[g1]) hB s2.symm (by rw[g2]) hE hn hl
 have hrows:rowsOf o w (n1==0) (m==0)=x.2.2.1:=rowsOf_eq k1.2.2 k2.2.2 (by rw[s1,s3];exact t3) (by rw[s1,s3];exact t4) (NG_of hr hadj)
 have hgrp:grpS (rangeS pS1 qS1 (hd1 x)).1 (rangeS pS2 qS2 (hd2 x)).1 (rowsOf o w (n1==0) (m==0))=x:=by
  unfold grpS
  rw[hrows,g1,g2]
  have q1:=atH_numb (a:=a) (side_old x.2.2.1)
  have q2:=atH_numb (a:=b) (side_new x.2.2.1)
  unfold atH at q1 q2
  rw[side_old] at q1
  rw[side_new] at q2
  show((bif decide (0<(sideL x.2.2.1 3).length) then((numb a (sideL x.2.2.1 3).length:Nat):Int) -1 else((numb a (sideL x.2.2.1 3).length:Nat):Int)),((bif decide (0<(sideL x.2.2.1 2).length) then((numb b (sideL x.2.2.1 2).length:Nat):Int) -1 else((numb b (sideL x.2.2.1 2).length:Nat):Int)),(x.2.2.1,())))=x
  rw[q1,q2,←ea,←eb]
 rw[hgrp] at hone
 have hd1':(T1.drop n1).length=R2.length+1:=by rw[←s2];rfl
 rw[List.length_drop] at hd1'
 refine⟨3+n1+m,hone,by omega,by simp only[List.length_cons];omega,?_⟩
 rw[show 3+n1+m=(n1+(1+m))+1+1 by omega,List.drop_succ_cons,List.drop_succ_cons,←List.drop_drop,←s2,←List.drop_drop]
 exact s4.symm
noncomputable abbrev BX (d:PV .str×PV S_string×PV S_impl_Group×Unit):=b_S_ReadContext_5 d.1 d.2.1 d.2.2.1
theorem readS_step {t0:List UInt8}{ls:TX}{out:GR}{g:PV Y_impl_Group}{k:Nat}(h:f_S_l8One ls=some ((g,(k:Int),()),()))(h3:3≤k)(hk:k≤ls.length)(ho:out.length≤10000):b_S_ReadContext_5 t0 ls out=some (.inl (t0,ls.drop k,out++[g],())):=by
 unfold b_S_ReadContext_5
 rw[decide_eq_true (by omega:(ls.length:Int)>0),cond_true,h,Option.bind_some]
 dsimp only
 rw[show((k:Int)==0)=false from beq_eq_false_iff_ne.2 (by omega),cond_false,roomB_ok (by simp;omega),cond_true,cutBI hk (Nat.le_refl _),cond_true,cutI,List.take_length]
theorem readS_go {t0:List UInt8}{ls ls':TX}{out out':GR}{r}(h:b_S_ReadContext_5 t0 ls out=some (.inl (t0,ls',out',())))(h2:w_S_ReadContext_5 (t0,ls',out',())=some r):w_S_ReadContext_5 (t0,ls,out,())=some r:=
 Eq.trans (fix_go (B:=BX) (s:=(t0,ls,out,())) (t:=(t0,ls',out',())) h) h2
theorem readS_stop {t0:List UInt8}{ls:TX}{out:GR}{r}(h:b_S_ReadContext_5 t0 ls out=some (.inr r)):w_S_ReadContext_5 (t0,ls,out,())=some r:=fix_end (B:=BX) (s:=(t0,ls,out,())) h
theorem readS_loop (t0:List UInt8):∀(n:Nat) (ls:TX) (out:GR),ls.length≤n→ls.length≤3000→(∀l∈ls,1≤l.length∧l.length≤3000)→out.length+ls.length≤6000→(∀x∈out,GW x)→
 (∃(gs:GR),gs.length≤6000∧(∀x∈gs,GW x)∧w_S_ReadContext_5 (t0,ls,out,())=some (.inl (t0,gs,())))∨w_S_ReadContext_5 (t0,ls,out,())=some (.inr ([],1,false,())):=by
 intro n
 induction n with
 |zero=>
  intro ls out h _ _ ho hg
  obtain rfl:ls=[]:=List.eq_nil_of_length_eq_zero (by omega)
  exact .inl ⟨out,by omega,hg,readS_stop rfl⟩
 |succ n ih=>
  intro ls out h h1 hm ho hg
  by_cases hne:ls=[]
  ·subst hne
   exact .inl ⟨out,by omega,hg,readS_stop rfl⟩
  ·have hpos:0<ls.length:=List.length_pos_iff.2 hne
   rcases one_total h1 hm with e|⟨g,k,e,k3,kl,hw⟩
   ·refine .inr (readS_stop ?_)
    unfold b_S_ReadContext_5
    rw[decide_eq_true (by omega:(ls.length:Int)>0),cond_true,e]
    rfl
   ·have hs:=readS_step (t0:=t0) (out:=out) e k3 kl (by omega)
    rcases ih (ls.drop k) (out++[g]) (by rw[List.length_drop];omega) (by rw[List.length_drop];omega) (fun l hl=>hm l (List.mem_of_mem_drop hl)) (by rw[List.length_append,List.length_drop,List.length_singleton];omega) (fun x hx=>by
     rcases List.mem_append.1 hx with hx|hx
     ·exact hg x hx
     ·obtain rfl:=List.mem_singleton.1 hx
      exact hw) with⟨gs,q1,q2,q3⟩|q
    ·exact .inl ⟨gs,q1,q2,readS_go hs q3⟩
    ·exact .inr (readS_go hs q)
theorem readS_good (t0:List UInt8):∀(gs:GR) (out:GR),(∀x∈gs,goodG x=true)→out.length+gs.length≤20→(∀l∈gs.flatMap scL,isL l)→(gs.flatMap scL).length≤3000→(∀l∈gs.flatMap scL,1≤l.length∧l.length≤3000)→
 w_S_ReadContext_5 (t0,gs.flatMap scL,out,())=some (.inl (t0,out++gs,()))
 |[],out,_,_,_,_,_=>by rw[List.append_nil];exact readS_stop rfl
 |x::gs,out,hg,ho,hL,hn,hl=>by
  rw[List.flatMap_cons] at hL hn hl ⊢
  obtain⟨k,e,k3,kl,hd⟩:=one_step_good (hg x (List.mem_cons_self ..)) (more_ok gs) hL hn hl
  have hs:=readS_step (t0:=t0) (out:=out) e k3 kl (by omega)
  rw[hd] at hs
  have ih:=readS_good t0 gs (out++[x]) (fun y hy=>hg y (List.mem_cons_of_mem _ hy)) (by simp at ho ⊢;omega) (fun l hl'=>hL l (List.mem_append_right _ hl')) (by rw[List.length_append] at hn;omega) (fun l hl'=>hl l (List.mem_append_right _ hl'))
  rw[List.append_assoc] at ih
  exact readS_go hs ih
theorem read_S (s:List UInt8):∃(gs:GR) (c:Int) (q:Bool),f_S_ReadContext s=some ((gs,c,q,()),())∧
 ((goodGs gs=true∧sidesT gs=s∧s.length≤3000∧c=0∧q=true)∨((∀gs,goodGs gs=true→sidesT gs=s→s.length≤3000→False)∧gs=[]∧c=1∧q=false)):=by
 unfold f_S_ReadContext
 by_cases hs:s.length≤3000
 ·rw[decide_eq_false (by omega:¬(s.length:Int)>3000),cond_false,l1Cut_S s (by omega),Option.bind_some]
  dsimp only
  have hc:=cutP_len s
  have hall:∀l∈cutP s,1≤l.length∧l.length≤3000:=fun l h=>⟨List.length_pos_iff.2 (cutP_ne h),by have:=cutP_mem h;omega⟩
  have key:∀gs0,goodGs gs0=true→sidesT gs0=s→w_S_ReadContext_5 (s,cutP s,[],())=some (.inl (s,gs0,())):=fun gs0 h1 h2=>by
   obtain⟨g1,g2⟩:=goods h1
   obtain⟨e,hL⟩:=text_lines h1
   rw[h2] at e
   rw[e] at hc hall ⊢
   exact readS_good s gs0 [] g1 (by simpa using g2) hL (by omega) hall
  rcases readS_loop s (cutP s).length (cutP s) [] (Nat.le_refl _) (by omega) hall (by simp;omega) (fun x hx=>by cases hx) with⟨gs,q1,q2,q3⟩|q
  ·rw[q3,Option.bind_some]
   have hsm:=GW.smG (by omega) q2
   dsimp only
   rw[groups_S hsm,Option.bind_some]
   dsimp only
   have same:∀gs0,goodGs gs0=true→sidesT gs0=s→gs=gs0:=fun gs0 h1 h2=>by
    have:=key gs0 h1 h2
    rw[q3] at this
    have h3:=Sum.inl.inj (Option.some.inj this)
    exact(Prod.mk.inj (Prod.mk.inj h3).2).1
   cases hg:goodGs gs
   ·refine⟨[],1,false,rfl,.inr ⟨fun gs0 h1 h2 _=> ?_,rfl,rfl,rfl⟩⟩
    rw[same gs0 h1 h2,h1] at hg
    cases hg
   ·rw[Bool.not_true,cond_false,sidesText_S' hsm hg,Option.bind_some]
    dsimp only
    rw[Option.bind_some]
    dsimp only
    cases ht:(sidesT gs==s)
    ·refine⟨[],1,false,rfl,.inr ⟨fun gs0 h1 h2 _=> ?_,rfl,rfl,rfl⟩⟩
     rw[same gs0 h1 h2,h2] at ht
     simp at ht
    ·exact⟨gs,0,true,rfl,.inl ⟨hg,beq_iff_eq.1 ht,hs,rfl,rfl⟩⟩
  ·rw[q,Option.bind_some]
   refine⟨[],1,false,rfl,.inr ⟨fun gs0 h1 h2 _=> ?_,rfl,rfl,rfl⟩⟩
   have:=key gs0 h1 h2
   rw[q] at this
   cases this
 ·rw[decide_eq_true (by omega:(s.length:Int)>3000),cond_true]
  exact⟨[],1,false,rfl,.inr ⟨fun _ _ _ h=>hs h,rfl,rfl,rfl⟩⟩
theorem context_both (s:List UInt8):∃(gs:GR) (c:Int) (q:Bool),f_I_ReadContext s=some ((gs,c,q,()),())∧f_S_ReadContext s=some ((gs,c,q,()),())∧(goodGs gs=true∨gs=[]):=by
 obtain⟨g1,c1,q1,e1,h1⟩:=read_I s
 obtain⟨g2,c2,q2,e2,h2⟩:=read_S s
 rcases h1 with⟨a1,a2,a3,rfl,rfl⟩|⟨a1,rfl,rfl,rfl⟩
 ·rcases h2 with⟨b1,b2,_,rfl,rfl⟩|⟨b1,_⟩
  ·have r1:=raw_good a1 (by rw[a2];exact a3)
   have r2:=raw_good b1 (by rw[b2];exact a3)
   rw[a2] at r1
   rw[b2,r1] at r2
   have:g1=g2:=(Prod.mk.inj (Prod.mk.inj (Option.some.inj r2)).1).1
   subst this
   exact⟨g1,0,true,e1,e2,.inl a1⟩
  ·exact(b1 g1 a1 a2 a3).elim
 ·rcases h2 with⟨b1,b2,b3,_⟩|⟨_,rfl,rfl,rfl⟩
  ·exact(a1 g2 b1 b2 b3).elim
  ·exact⟨[],1,false,e1,e2,.inr rfl⟩
end R
end

section
/- Lines: both sides' tests of lines answer the same. -/
open Go Go.Dn
namespace R.G
set_option linter.unusedVariables false
theorem l1Good_S (t0:List (List UInt8))(hs:Sm t0):f_S_l1Good t0=some ((goodP t0,()),()):=by
 have hl:=hs.len
 unfold f_S_l1Good
 have hw:IntKind.wrap .i64 ((t0.length:Int) -1)=(t0.length:Int) -1:=wrap64 (by omega) (by omega)
 have hr:∀i,i<t0.length→(((f_S_l1Line (t0.getD i [])).bind fun r4=>bif !r4.1.1 then some (t0,t0,(t0.length:Int),(i:Int),true,()) else
  bif decide ((i:Int)<(t0.length:Int) -1) then(f_S_l1Ends (t0.getD i [])).bind fun r5=>some (t0,t0,(t0.length:Int),(i:Int), !r5.1.1,()) else some (t0,t0,(t0.length:Int),(i:Int),false,())):Option (PV S_string×PV S_string×Int×Int×Bool×Unit))=
  some (t0,t0,(t0.length:Int),(i:Int), !(lineP (t0.getD i []))||(decide ((i:Int)<(t0.length:Int) -1)&& !(endP (t0.getD i []))),()):=by
  intro i hi
  rw[getD_of hi,line_S _ (hs.mem hi),Option.bind_some]
  dsimp only
  cases hL:lineP t0[i]
  ·rfl
  ·rw[Bool.not_true,cond_false,Bool.false_or]
   cases decide ((i:Int)<(t0.length:Int) -1)
   ·rfl
   ·rw[cond_true,ends_S _ (line_len hL).1 (hs.mem hi)];rfl
 rw[show w_S_l1Good_2 (t0,t0,(t0.length:Int),0,())=_ from fix_anyN (B:=fun d=>b_S_l1Good_2 d.1 d.2.1 d.2.2.1 d.2.2.2.1) t0.length (fun k=> !(lineP (t0.getD k []))||(decide ((k:Int)<(t0.length:Int) -1)&& !(endP (t0.getD k []))))
    (fun i=>(t0,t0,(t0.length:Int),(i:Int),())) (fun _=>.inr (false,())) (.inl (t0,()))
    (fun i hi hq=>by
      show b_S_l1Good_2 t0 t0 t0.length i=_
      unfold b_S_l1Good_2
      rw[decide_eq_true (by omega:(i:Int)<(t0.length:Int)),cond_true,inB_lt hi,cond_true,toNat_cast,hw,hr i hi,hq,Option.bind_some]
      dsimp only
      rw[cond_false,wrap64 (by omega) (by omega)];rfl)
    (fun i hi hq=>by
      show b_S_l1Good_2 t0 t0 t0.length i=_
      unfold b_S_l1Good_2
      rw[decide_eq_true (by omega:(i:Int)<(t0.length:Int)),cond_true,inB_lt hi,cond_true,toNat_cast,hw,hr i hi,hq,Option.bind_some]
      rfl)
    (by
      show b_S_l1Good_2 t0 t0 t0.length t0.length=_
      unfold b_S_l1Good_2
      rw[decide_eq_false (Int.lt_irrefl _),cond_false])]
 rw[anyN_or,show(anyN t0.length fun k=> !(lineP (t0.getD k [])))=t0.any fun s=> !lineP s from anyN_list (f:=fun s=> !lineP s)]
 unfold goodP linesP endsP
 cases t0.any fun s=> !lineP s
 ·cases anyN t0.length fun k=>decide ((k:Int)<(t0.length:Int) -1)&& !(endP (t0.getD k []))
  ·simp;omega
  ·simp
 ·simp
end R.G
end

section
/- Groups: both sides test them alike. -/
open Go Go.Dn
namespace R.G
set_option linter.unusedVariables false
end R.G
end

section
/- Lists of groups: both sides test them alike; groups that lead back. -/
open Go Go.Dn
namespace R.G
set_option linter.unusedVariables false
end R.G
end

section
/- Numbers, ranges and rows as texts: both sides write the same. -/
open Go Go.Dn
namespace R.G
set_option linter.unusedVariables false
end R.G
end

section
/- Good hunks: both sides answer the same. -/
open Go Go.Dn
namespace R.G
set_option linter.unusedVariables false
abbrev H0:PV Y_impl_Hunk:=dflt Y_impl_Hunk
def badH (many:Int)(x:PV Y_impl_Hunk):Bool:=
 !(inI x.1 0 many)||(!(inI x.2.1 0 (IntKind.wrap .i64 (many -x.1)))||(!(linesP x.2.2.1)||((x.2.1==0)&&((List.length x.2.2.1:Int)==0))))
def badP (h:List (PV Y_impl_Hunk))(k:Nat):Bool:=
 decide ((k:Int)>0)&&decide ((h.getD k H0).1≤IntKind.wrap .i64 ((h.getD (k -1) H0).1+(h.getD (k -1) H0).2.1))
def badK (many:Int)(h:List (PV Y_impl_Hunk))(k:Nat):Bool:=badH many (h.getD k H0)||badP h k
def hunksP (many:Int)(h:List (PV Y_impl_Hunk)):Bool:=inI many 0 40&&(decide (h.length≤20)&& !(anyN h.length (badK many h)))
def SmH (h:List (PV Y_impl_Hunk)):Prop:=h.length≤4611686018427387904∧∀x∈h,Sm x.2.2.1
theorem SmH.len {h:List (PV Y_impl_Hunk)}(hs:SmH h):h.length≤4611686018427387904:=hs.1
theorem SmH.mem {h:List (PV Y_impl_Hunk)}(hs:SmH h){i:Nat}(hi:i<h.length):Sm (h.getD i H0).2.2.1:=by
 rw[getD_of hi]
 exact hs.2 _ (List.getElem_mem hi)
theorem SmH.of {e:TypeId}{h:List (PV Y_impl_Hunk)}{n:Nat}(hs:tot (.slice e Y_impl_Hunk) h≤n)(hn:n≤4611686018427387904):SmH h:=by
 refine⟨?_,fun x hx=> ?_⟩
 ·have h':=hs
  rw[tot_slice] at h'
  omega
 ·obtain⟨i,hi,rfl⟩:=List.mem_iff_getElem.1 hx
  have:=Nat.le_trans (tot_mem (e:=e) (t:=Y_impl_Hunk) (xs:=h) hi) hs
  refine Sm.of (n:=n) ?_ hn
  simp only[tot] at this ⊢
  omega
def badS (many:Int)(x:PV Y_impl_Hunk):Bool:=
 decide (x.1<0)||(decide (x.2.1<0)||(decide (x.2.1>many)||(decide (x.1>IntKind.wrap .i64 (many -x.2.1))||((IntKind.wrap .i64 (x.2.1+(List.length x.2.2.1:Int))==0)||decide ((List.length x.2.2.1:Int)>40)))))
theorem bad_nums {many A G n:Int}(h0:0≤many)(h1:many≤4611686018427387903)(hn:0≤n)(hm:n≤4611686018427387904):
 (decide (A<0)||(decide (G<0)||(decide (G>many)||(decide (A>IntKind.wrap .i64 (many -G))||((IntKind.wrap .i64 (G+n)==0)||decide (n>40))))))=
   (!(decide (A≥0)&&decide (A≤many))||(!(decide (G≥0)&&decide (G≤IntKind.wrap .i64 (many -A)))||(!(decide (n≤40))||((G==0)&&(n==0))))):=by
 rw[Bool.eq_iff_iff]
 simp only[Bool.or_eq_true,Bool.not_eq_true',decide_eq_true_eq,decide_eq_false_iff_not,beq_iff_eq,Bool.and_eq_false_iff,Bool.and_eq_true]
 by_cases a4:A≤many∧0≤A
 ·rw[wrap64 (x:=many -A) (by omega) (by omega)]
  by_cases a3:0≤G∧G≤many
  ·rw[wrap64 (x:=many -G) (by omega) (by omega),wrap64 (x:=G+n) (by omega) (by omega)]
   omega
  ·constructor
   ·intro _;right;left;omega
   ·intro _;omega
 ·constructor
  ·intro _;left;omega
  ·intro _
   by_cases a1:A<0
   ·exact .inl a1
   ·by_cases a2:G<0
    ·exact .inr (.inl a2)
    ·by_cases a3:G>many
     ·exact .inr (.inr (.inl a3))
     ·right;right;right;left
      rw[wrap64 (x:=many -G) (by omega) (by omega)]
      omega
theorem bad_same {many:Int}{x:PV Y_impl_Hunk}(h0:0≤many)(h1:many≤4611686018427387903)(hm:List.length x.2.2.1≤4611686018427387904):
 (badS many x||List.any x.2.2.1 fun s=> !lineP s)=badH many x:=by
 unfold badS badH linesP inI
 have:=bad_nums (A:=x.1) (G:=x.2.1) (n:=(List.length x.2.2.1:Int)) h0 h1 (by omega) (by omega)
 rw[this]
 rw[show decide (List.length x.2.2.1≤40)=decide ((List.length x.2.2.1:Int)≤40) from by rw[Bool.eq_iff_iff];simp;omega]
 cases(decide ((x.1:Int)≥0)&&decide ((x.1:Int)≤many))<;>cases(decide ((x.2.1:Int)≥0)&&decide ((x.2.1:Int)≤IntKind.wrap .i64 (many -x.1)))<;>cases decide ((List.length x.2.2.1:Int)≤40)<;>
  cases((x.2.1==0)&&((List.length x.2.2.1:Int)==0))<;>cases(List.any x.2.2.1 fun s=> !lineP s)<;>rfl
theorem stepH_S (many:Int)(h:List (PV Y_impl_Hunk))(hs:SmH h)(h0:0≤many)(h1:many≤4611686018427387903){i:Nat}(hi:i<h.length):
 b_S_l2Hunks_2 many h h h.length i=some (if badK many h i then .inr (.inr (false,())) else .inl (many,h,h,(h.length:Int),(i:Int)+1,())):=by
 have hl:=hs.len
 have hm:=hs.mem hi
 unfold b_S_l2Hunks_2
 rw[decide_eq_true (by omega:(i:Int)<(h.length:Int)),cond_true,inB_lt hi,cond_true,toNat_cast]
 have hq:badK many h i=((badS many (h.getD i H0)||badP h i)||List.any (h.getD i H0).2.2.1 fun s=> !lineP s):=by
  unfold badK
  rw[←bad_same h0 h1 hm.len]
  cases badS many (h.getD i H0)<;>cases badP h i<;>cases List.any (h.getD i H0).2.2.1 fun s=> !lineP s<;>rfl
 rw[hq]
 unfold badP
 generalize hx:h.getD i H0=x at*
 have hr:∀f:Bool,(bif f then some (Sum.inr (Sum.inr (false,()))) else
  (w_S_l2Hunks_7 (many,h,h,(h.length:Int),(i:Int),x.2.2.1,(List.length x.2.2.1:Int),0,())).bind fun x14=>
    match x14 with
    | .inl l7=>
      some (.inl (l7.1,l7.2.1,l7.2.2.1,l7.2.2.2.1,(IntKind.wrap .i64 (l7.2.2.2.2.1+1)),()))
    | .inr l8=>
      some (.inr (.inr (l8.1,()))):Option ((PV (.int .i64)×PV S_impl_Hunk×PV S_impl_Hunk×PV (.int .i64)×PV (.int .i64)×Unit)⊕((PV (.int .i64)×PV S_impl_Hunk×Unit)⊕(PV .bool×Unit))))=
  some (if (f||List.any x.2.2.1 fun s=> !lineP s) then .inr (.inr (false,())) else .inl (many,h,h,(h.length:Int),(i:Int)+1,())):=by
  intro f
  cases f
  ·rw[cond_false,Bool.false_or,show w_S_l2Hunks_7 (many,h,h,(h.length:Int),(i:Int),x.2.2.1,(List.length x.2.2.1:Int),0,())=_ from
    fix_any (B:=fun d=>b_S_l2Hunks_7 d.1 d.2.1 d.2.2.1 d.2.2.2.1 d.2.2.2.2.1 d.2.2.2.2.2.1 d.2.2.2.2.2.2.1 d.2.2.2.2.2.2.2.1) x.2.2.1 (fun s=> !lineP s) (fun k=>(many,h,h,(h.length:Int),(i:Int),x.2.2.1,(List.length x.2.2.1:Int),(k:Int),())) (fun _=>.inr (false,())) (.inl (many,h,h,(h.length:Int),(i:Int),()))
    (fun k hk hq=>by
      have hml:=hm.len
      show b_S_l2Hunks_7 many h h h.length i x.2.2.1 (List.length x.2.2.1) k=_
      unfold b_S_l2Hunks_7
      rw[decide_eq_true (by omega:(k:Int)<(List.length x.2.2.1:Int)),cond_true,inB_lt hk,cond_true,toNat_cast,getD_of hk,line_S _ (hm.mem hk),Option.bind_some]
      dsimp only
      rw[hq,cond_false,wrap64 (by omega) (by omega)];rfl)
    (fun k hk hq=>by
      show b_S_l2Hunks_7 many h h h.length i x.2.2.1 (List.length x.2.2.1) k=_
      unfold b_S_l2Hunks_7
      rw[decide_eq_true (by omega:(k:Int)<(List.length x.2.2.1:Int)),cond_true,inB_lt hk,cond_true,toNat_cast,getD_of hk,line_S _ (hm.mem hk),Option.bind_some]
      dsimp only
      rw[hq,cond_true])
    (by
      show b_S_l2Hunks_7 many h h h.length i x.2.2.1 (List.length x.2.2.1) (List.length x.2.2.1)=_
      unfold b_S_l2Hunks_7
      rw[decide_eq_false (Int.lt_irrefl _),cond_false])]
   cases List.any x.2.2.1 fun s=> !lineP s
   ·rw[if_neg (by simp),if_neg (by simp),Option.bind_some]
    dsimp only
    rw[wrap64 (by omega) (by omega)]
   ·rfl
  ·rfl
 have hb:∀j:Bool,((bif decide ((i:Int)>0) then bif inB (IntKind.wrap .i64 ((i:Int) -1)) h.length then bif inB (IntKind.wrap .i64 ((i:Int) -1)) h.length then
  some (many,h,x,h,(h.length:Int),(i:Int),decide (x.1≤IntKind.wrap .i64 ((h.getD (IntKind.wrap .i64 ((i:Int) -1)).toNat (dflt Y_impl_Hunk)).1+(h.getD (IntKind.wrap .i64 ((i:Int) -1)).toNat (dflt Y_impl_Hunk)).2.1)),()) else none else none
  else some (many,h,x,h,(h.length:Int),(i:Int),false,())):Option ((PV (.int .i64)×PV S_impl_Hunk×PV Y_impl_Hunk×PV S_impl_Hunk×PV (.int .i64)×PV (.int .i64)×PV .bool×Unit)))=
  some (many,h,x,h,(h.length:Int),(i:Int),decide ((i:Int)>0)&&decide (x.1≤IntKind.wrap .i64 ((h.getD (i -1) H0).1+(h.getD (i -1) H0).2.1)),()):=by
  intro _
  cases i with
  |zero=>rw[decide_eq_false (by omega:¬(((0:Nat):Int)>0))];rfl
  |succ j=>
   rw[decide_eq_true (by omega:((j+1:Nat):Int)>0),cond_true,show IntKind.wrap .i64 (((j+1:Nat):Int) -1)=(j:Int) from by rw[wrap64 (by omega) (by omega)];omega,inB_lt (by omega:j<h.length),cond_true,cond_true,toNat_cast,Bool.true_and,Nat.add_sub_cancel]
 rw[hb true]
 unfold badS
 cases decide (x.1<0)
 ·rw[cond_false]
  cases decide (x.2.1<0)
  ·rw[cond_false]
   cases decide (x.2.1>many)
   ·rw[cond_false]
    cases decide (x.1>IntKind.wrap .i64 (many -x.2.1))
    ·rw[cond_false]
     cases(IntKind.wrap .i64 (x.2.1+(List.length x.2.2.1:Int))==0)
     ·rw[cond_false]
      cases decide ((List.length x.2.2.1:Int)>40)
      ·rw[cond_false,Option.bind_some]
       exact hr _
      ·rfl
     ·rfl
    ·rfl
   ·rfl
  ·rfl
 ·rfl
theorem hunks_S (many:Int)(h:List (PV Y_impl_Hunk))(hs:SmH h)(h0:0≤many)(h1:many≤4611686018427387903):f_S_l2Hunks many h=some ((hunksP many h,()),()):=by
 have hl:=hs.len
 unfold f_S_l2Hunks hunksP
 rw[show w_S_l2Hunks_2 (many,h,h,(h.length:Int),0,())=_ from fix_anyN (B:=fun d=>b_S_l2Hunks_2 d.1 d.2.1 d.2.2.1 d.2.2.2.1 d.2.2.2.2.1) h.length (badK many h) (fun i=>(many,h,h,(h.length:Int),(i:Int),())) (fun _=>.inr (false,())) (.inl (many,h,()))
     (fun i hi hq=>by show b_S_l2Hunks_2 many h h h.length i=_;rw[stepH_S many h hs h0 h1 hi,hq];rfl)
     (fun i hi hq=>by show b_S_l2Hunks_2 many h h h.length i=_;rw[stepH_S many h hs h0 h1 hi,hq];rfl)
     (by
       show b_S_l2Hunks_2 many h h h.length h.length=_
       unfold b_S_l2Hunks_2
       rw[decide_eq_false (Int.lt_irrefl _),cond_false])]
 cases anyN h.length (badK many h)
 ·rw[if_neg (by simp),Option.bind_some]
  dsimp only
  rw[in_S,Option.bind_some]
  by_cases hn:h.length≤20
  ·rw[decide_eq_true (by omega:(h.length:Int)≤20),cond_true,decide_eq_true hn]
   unfold inI
   cases decide (many≥0)&&decide (many≤40)<;>rfl
  ·rw[decide_eq_false (by omega:¬(h.length:Int)≤20),cond_false,decide_eq_false hn]
   simp
 ·rw[if_pos rfl]
  simp
end R.G
end

section
/- Lines behind hunks: both sides make the same. -/
open Go Go.Dn
namespace R.G
set_option linter.unusedVariables false
def stepP (l:List (List UInt8))(a:List (List UInt8)×Int)(x:PV Y_impl_Hunk):List (List UInt8)×Int:=((a.1++cutL a.2 x.1 l)++x.2.2.1,x.1+x.2.1)
def foldP (l:List (List UInt8))(h:List (PV Y_impl_Hunk)):List (List UInt8)×Int:=h.foldl (stepP l) ([],0)
def patchL (l:List (List UInt8))(h:List (PV Y_impl_Hunk)):List (List UInt8):=(foldP l h).1++cutL (foldP l h).2 (l.length:Int) l
theorem linesP_len {l:List (List UInt8)}(h:linesP l=true):l.length≤40:=by
 unfold linesP at h
 simp only[Bool.and_eq_true,decide_eq_true_eq] at h
 exact h.1
theorem goodP_len {l:List (List UInt8)}(h:goodP l=true):l.length≤40:=by
 unfold goodP at h
 simp only[Bool.and_eq_true] at h
 exact linesP_len h.1
theorem hunk_facts {many:Int}{h:List (PV Y_impl_Hunk)}(hh:hunksP many h=true):0≤many∧many≤40∧h.length≤20∧∀i,i<h.length→
 0≤(h.getD i H0).1∧(h.getD i H0).1≤many∧0≤(h.getD i H0).2.1∧(h.getD i H0).1+(h.getD i H0).2.1≤many∧List.length (h.getD i H0).2.2.1≤40∧linesP (h.getD i H0).2.2.1=true∧
  (0<i→(h.getD (i -1) H0).1+(h.getD (i -1) H0).2.1<(h.getD i H0).1):=by
 unfold hunksP inI at hh
 simp only[Bool.and_eq_true,decide_eq_true_eq,Bool.not_eq_true'] at hh
 obtain⟨⟨h0,h1⟩,h2,h3⟩:=hh
 have hq:∀i,i<h.length→badK many h i=false:=fun i hi=>by
  cases hb:badK many h i with
  |false=>rfl
  |true=>rw[anyN_iff.2 ⟨i,hi,hb⟩] at h3;cases h3
 have h4:∀i,i<h.length→(0:Int)≤(h.getD i H0).1∧((h.getD i H0).1:Int)≤many∧(0:Int)≤(h.getD i H0).2.1∧((h.getD i H0).1:Int)+(h.getD i H0).2.1≤many∧linesP (h.getD i H0).2.2.1=true:=by
  intro i hi
  have hb:=hq i hi
  unfold badK badH inI at hb
  generalize h.getD i H0=x at*
  obtain⟨A,G,N,u⟩:=x
  have e:∀(A G:Int),(decide (A≥0)&&decide (A≤many))=true→(decide (G≥0)&&decide (G≤IntKind.wrap .i64 (many -A)))=true→0≤A∧A≤many∧0≤G∧A+G≤many:=by
   intro A G p q
   simp only[Bool.and_eq_true,decide_eq_true_eq] at p q
   rw[wrap64 (by omega) (by omega)] at q
   omega
  dsimp only at hb ⊢
  simp only[Bool.or_eq_false_iff,Bool.not_eq_false'] at hb
  obtain⟨⟨b1,b2,b3,_⟩,_⟩:=hb
  obtain⟨c1,c2,c3,c4⟩:=e A G b1 b2
  exact⟨c1,c2,c3,c4,b3⟩
 refine⟨h0,h1,h2,fun i hi=> ?_⟩
 obtain⟨a1,a2,a3,a4,a5⟩:=h4 i hi
 refine⟨a1,a2,a3,a4,linesP_len a5,a5,fun hpos=> ?_⟩
 have hb:=hq i hi
 unfold badK badP at hb
 simp only[Bool.or_eq_false_iff] at hb
 have hb:=hb.2
 rw[decide_eq_true (by omega:(i:Int)>0),Bool.true_and,decide_eq_false_iff_not] at hb
 obtain⟨b1,b2,b3,b4,_⟩:=h4 (i -1) (by omega)
 have e:∀(A P G:Int),0≤P→0≤G→P+G≤many→many≤40→¬A≤IntKind.wrap .i64 (P+G)→P+G<A:=by
  intro A P G p1 p2 p3 p4 q
  rw[wrap64 (by omega) (by omega)] at q
  omega
 exact e _ _ _ b1 b3 b4 h1 hb
theorem cut_len {l:List (List UInt8)}{a b:Int}:(cutL a b l).length≤l.length:=by
 unfold cutL
 simp
 omega
theorem cut_mem {l:List (List UInt8)}{a b:Int}{s:List UInt8}(h:s∈cutL a b l):s∈l:=List.mem_of_mem_take (List.mem_of_mem_drop h)
def InvP (l:List (List UInt8))(h:List (PV Y_impl_Hunk))(i:Nat)(a:List (List UInt8)×Int):Prop:=
 a.1.length≤80*i∧0≤a.2∧a.2≤(l.length:Int)∧(i=0→a.2=0)∧(0<i→a.2=(h.getD (i -1) H0).1+(h.getD (i -1) H0).2.1)∧∀s∈a.1,s.length≤4611686018427387904
theorem inv_next {l:List (List UInt8)}{h:List (PV Y_impl_Hunk)}(hl:Sm l)(hh:SmH h)(hg:hunksP (l.length:Int) h=true){i:Nat}(hi:i<h.length){a:List (List UInt8)×Int}(hI:InvP l h i a):
 InvP l h (i+1) (stepP l a h[i])∧0≤a.2∧a.2≤(h[i].1:Int)∧(h[i].1:Int)≤l.length∧0≤(h[i].2.1:Int)∧(h[i].1:Int)+h[i].2.1≤l.length∧List.length h[i].2.2.1≤40∧a.1.length≤1600∧l.length≤40:=by
 obtain⟨f1,f2,f3,f4⟩:=hunk_facts hg
 have f5:=f4 i hi
 rw[getD_of hi] at f5
 obtain⟨g1,g2,g3,g4,g5,g6,g7⟩:=f5
 obtain⟨i1,i2,i3,i4,i5,i6⟩:=hI
 have hat:∀A:Int,A=h[i].1→a.2≤A:=by
  intro A hA
  rcases Nat.eq_zero_or_pos i with h0|hp
  ·rw[i4 h0,hA];exact g1
  ·rw[i5 hp,hA];exact Int.le_of_lt (g7 hp)
 have hat:=hat _ rfl
 have hc:(cutL a.2 h[i].1 l).length≤40:=Nat.le_trans cut_len (by omega)
 refine⟨⟨?_,?_,?_,fun h=>by omega,fun _=> ?_,?_⟩,i2,hat,g2,g3,g4,g5,by omega,by omega⟩
 ·show((a.1++cutL a.2 h[i].1 l)++h[i].2.2.1).length≤80*(i+1)
  rw[List.length_append,List.length_append]
  omega
 ·exact Int.add_nonneg g1 g3
 ·exact g4
 ·rw[Nat.add_sub_cancel,getD_of hi];rfl
 ·intro s hs
  rcases List.mem_append.1 hs with hs|hs
  ·rcases List.mem_append.1 hs with hs|hs
   ·exact i6 s hs
   ·exact hl.2 s (cut_mem hs)
  ·exact(hh.2 _ (List.getElem_mem hi)).2 s hs
theorem foldl_inv {α σ:Type}(xs:List α)(g:σ→α→σ)(I:Nat→σ→Prop)(h:∀i (hi:i<xs.length) a,I i a→I (i+1) (g a xs[i]))(a:σ)(h0:I 0 a):∀k,k≤xs.length→I k ((xs.take k).foldl g a)
 |0,_=>h0
 |k+1,hk=>by
  rw[←List.take_append_getElem (by omega:k<xs.length),List.foldl_append]
  exact h k (by omega) _ (foldl_inv xs g I h a h0 k (by omega))
theorem inv_all {l:List (List UInt8)}{h:List (PV Y_impl_Hunk)}(hl:Sm l)(hh:SmH h)(hg:hunksP (l.length:Int) h=true):InvP l h h.length (foldP l h):=by
 have:=foldl_inv h (stepP l) (InvP l h) (fun i hi a hI=>(inv_next hl hh hg hi hI).1) ([],0) ⟨by simp,Int.le_refl _,by simp,fun _=>rfl,fun h=>by omega,fun s hs=>by cases hs⟩ h.length (Nat.le_refl _)
 rw[List.take_length] at this
 exact this
theorem patchL_sm {l:List (List UInt8)}{h:List (PV Y_impl_Hunk)}(hl:Sm l)(hh:SmH h)(hg:hunksP (l.length:Int) h=true):Sm (patchL l h):=by
 obtain⟨f1,f2,f3,_⟩:=hunk_facts hg
 obtain⟨i1,i2,i3,_,_,i6⟩:=inv_all hl hh hg
 have hc:(cutL (foldP l h).2 (l.length:Int) l).length≤40:=Nat.le_trans cut_len (by omega)
 refine⟨?_,fun s hs=> ?_⟩
 ·unfold patchL;rw[List.length_append];omega
 ·rcases List.mem_append.1 hs with hs|hs
  ·exact i6 s hs
  ·exact hl.2 s (cut_mem hs)
theorem cutB_ok {a b:Int}{n:Nat}(h0:0≤a)(h1:a≤b)(h2:b≤(n:Int)):cutB a b n=true:=by
 unfold cutB
 rw[decide_eq_true h0,decide_eq_true h1,decide_eq_true h2]
 rfl
theorem patch_loop_S {l:List (List UInt8)}{h:List (PV Y_impl_Hunk)}(hl:Sm l)(hh:SmH h)(hg:hunksP (l.length:Int) h=true):
 w_S_l2Patch_4 (l,([]:List (List UInt8)),0,h,(h.length:Int),0,())=some (l,(foldP l h).1,(foldP l h).2,()):=by
 have:=fix_fold (B:=fun d=>b_S_l2Patch_4 d.1 d.2.1 d.2.2.1 d.2.2.2.1 d.2.2.2.2.1 d.2.2.2.2.2.1) h (stepP l) (fun a i=>(l,a.1,a.2,h,(h.length:Int),(i:Int),())) (fun a=>(l,a.1,a.2,())) (InvP l h)
  (fun i hi a hI=>by
    obtain⟨q0,q1,q2,q3,q4,q5,q6,q7,q8⟩:=inv_next hl hh hg hi hI
    refine⟨q0,?_⟩
    show b_S_l2Patch_4 l a.1 a.2 h h.length i=_
    have hlen:=hh.len
    unfold b_S_l2Patch_4
    rw[decide_eq_true (by omega:(i:Int)<(h.length:Int)),cond_true,inB_lt hi,cond_true,toNat_cast,getD_of hi]
    have hc:(cutL a.2 h[i].1 l).length≤40:=Nat.le_trans cut_len q8
    rw[cutB_ok q1 q2 q3,cond_true,roomB_ok (by omega),cond_true,roomB_ok (by rw[List.length_append];omega),cond_true]
    have e:∀A G:Int,0≤A→0≤G→A+G≤(l.length:Int)→IntKind.wrap .i64 (A+G)=A+G:=fun A G p1 p2 p3=>wrap64 (by omega) (by omega)
    rw[e _ _ (Int.le_trans q1 q2) q4 q5,wrap64 (by omega) (by omega)]
    simp[stepP])
  (fun a _=>by
    show b_S_l2Patch_4 l a.1 a.2 h h.length h.length=_
    unfold b_S_l2Patch_4
    rw[decide_eq_false (Int.lt_irrefl _),cond_false]) ([],0) ⟨by simp,Int.le_refl _,by simp,fun _=>rfl,fun h=>by omega,fun s hs=>by cases hs⟩
 exact this.1
theorem patched_S {l:List (List UInt8)}{h:List (PV Y_impl_Hunk)}(hl:Sm l)(hh:SmH h)(hg:hunksP (l.length:Int) h=true):f_S_l2Patch l h=some ((patchL l h,()),()):=by
 have h2:=inv_all hl hh hg
 obtain⟨f1,f2,f3,_⟩:=hunk_facts hg
 obtain⟨i1,i2,i3,_,_,i6⟩:=h2
 have hc:(cutL (foldP l h).2 (l.length:Int) l).length≤40:=Nat.le_trans cut_len (by omega)
 unfold f_S_l2Patch
 rw[show w_S_l2Patch_4 (l,[],0,h,(h.length:Int),0,())=_ from patch_loop_S hl hh hg,Option.bind_some]
 dsimp only
 rw[cutB_ok i2 i3 (Int.le_refl _),cond_true,roomB_ok (by omega),cond_true]
 rfl
def patchOk (l:List (List UInt8))(h:List (PV Y_impl_Hunk)):Bool:=goodP l&&(hunksP (l.length:Int) h&&goodP (patchL l h))
def patchR (l:List (List UInt8))(h:List (PV Y_impl_Hunk)):List (List UInt8):=bif patchOk l h then patchL l h else[]
theorem patch_S {l:List (List UInt8)}{h:List (PV Y_impl_Hunk)}(hl:Sm l)(hh:SmH h):f_S_Patch l h=some ((patchR l h,patchOk l h,()),()):=by
 have hlen:=hl.len
 unfold f_S_Patch f_S_l2Asked patchR patchOk
 rw[l1Good_S l hl,Option.bind_some]
 dsimp only
 cases hgl:goodP l
 ·rfl
 ·have:=goodP_len hgl
  rw[cond_true,hunks_S _ h hh (by omega) (by omega),Option.bind_some,Option.bind_some]
  dsimp only
  cases hg:hunksP (l.length:Int) h
  ·rfl
  ·have p2:=patchL_sm hl hh hg
   rw[patched_S hl hh hg,Option.bind_some,l1Good_S _ p2,Option.bind_some]
   simp only[Bool.not_true,cond_false]
   cases goodP (patchL l h)<;>rfl
end R.G
end

section
/- Groups of hunks: both sides make the same. -/
open Go Go.Dn
namespace R.G
set_option linter.unusedVariables false
abbrev HK:=List (PV Y_impl_Hunk)
def rowsK (k:Int)(lines:TX):RW:=lines.map fun s=>((k,(s,())):PV Y_impl_Row)
theorem rowsK_len (k:Int)(l:TX):(rowsK k l).length=l.length:=by unfold rowsK;rw[List.length_map]
theorem foldl_row (k:Int):∀(l:TX) (a:RW),l.foldl (fun(a:RW) s=>a++[((k,(s,())):PV Y_impl_Row)]) a=a++rowsK k l
 |[],a=>by simp[rowsK]
 |x::l,a=>by rw[List.foldl_cons,foldl_row k l];simp[rowsK]
end R.G
end

section
/- Groups of hunks, the whole: both sides make the same. -/
open Go Go.Dn
namespace R.G
set_option linter.unusedVariables false
abbrev St3:=RW×Int×Int
def stepR (l:TX)(a:St3)(x:PV Y_impl_Hunk):St3:=
 (((a.1++rowsK 1 (cutL a.2.1 x.1 l))++rowsK 2 (cutL x.1 (x.1+x.2.1) l))++rowsK 3 x.2.2.1,x.1+x.2.1,a.2.2+((List.length x.2.2.1:Int) -x.2.1))
def segL (h:HK)(i n:Nat):HK:=(h.drop i).take n
theorem segL_len {h:HK}{i n:Nat}(hn:i+n≤h.length):(segL h i n).length=n:=by unfold segL;simp;omega
theorem segL_at {h:HK}{i n k:Nat}(hn:i+n≤h.length)(hk:k<n):(segL h i n).getD k H0=h.getD (i+k) H0:=by
 rw[getD_of (by rw[segL_len hn];exact hk),getD_of (by omega)]
 simp[segL]
structure SegI (l:TX)(s:HK)(M:Int)(k:Nat)(a:St3):Prop where
 rows:a.1.length≤120*k
 at0:0≤a.2.1
 at1:a.2.1≤(l.length:Int)
 next:k<s.length→a.2.1≤(s.getD k H0).1
 m0:M -100*k≤a.2.2
 m1:a.2.2≤M+100*k
structure SegOk (l:TX)(s:HK):Prop where
 l40:l.length≤40
 len:s.length≤20
 at_:∀k,k<s.length→0≤(s.getD k H0).1∧0≤(s.getD k H0).2.1∧(s.getD k H0).1+(s.getD k H0).2.1≤(l.length:Int)∧List.length (s.getD k H0).2.2.1≤40∧(k+1<s.length→(s.getD k H0).1+(s.getD k H0).2.1≤(s.getD (k+1) H0).1)
theorem segOk {l:TX}{h:HK}(hl:l.length≤40)(hg:hunksP (l.length:Int) h=true){i n:Nat}(hn:i+n≤h.length):SegOk l (segL h i n):=by
 obtain⟨_,_,h20,f⟩:=hunk_facts hg
 have e:=segL_len hn
 refine⟨hl,by omega,fun k hk=> ?_⟩
 rw[segL_at hn (by omega)]
 obtain⟨a1,_,a3,a4,a5,_,_⟩:=f (i+k) (by omega)
 refine⟨a1,a3,a4,a5,fun hk'=> ?_⟩
 rw[segL_at hn (by omega)]
 obtain⟨_,_,_,_,_,_,b⟩:=f (i+(k+1)) (by omega)
 have:=b (by omega)
 rw[show i+(k+1) -1=i+k from by omega] at this
 exact Int.le_of_lt this
theorem cutL_le {l:TX}{a b:Int}:(cutL a b l).length≤l.length:=cut_len
theorem seg_next {l:TX}{s:HK}{M:Int}(ho:SegOk l s){k:Nat}(hk:k<s.length){a:St3}(hI:SegI l s M k a):SegI l s M (k+1) (stepR l a (s.getD k H0)):=by
 obtain⟨q1,q2,q3,q4,q5⟩:=ho.at_ k hk
 have h40:=ho.l40
 have c1:= @cutL_le l a.2.1 (s.getD k H0).1
 have c2:= @cutL_le l (s.getD k H0).1 ((s.getD k H0).1+(s.getD k H0).2.1)
 have r1:=hI.rows
 have r2:=hI.m0
 have r3:=hI.m1
 generalize s.getD k H0=x at*
 refine⟨?_,Int.add_nonneg q1 q2,q3,fun h=>q5 h,?_,?_⟩
 ·show List.length (((a.1++rowsK 1 _)++rowsK 2 _)++rowsK 3 _)≤_
  rw[List.length_append,List.length_append,List.length_append,rowsK_len,rowsK_len,rowsK_len]
  omega
 ·show _≤a.2.2+((List.length x.2.2.1:Int) -x.2.1)
  have e:∀z:Int,z≤(l.length:Int)→z≤40:=fun z h=>by omega
  have:=e x.2.1 (Int.le_trans (Int.le_add_of_nonneg_left q1) q3)
  have e2:∀z u v:Int,0≤v→z≤40→M -100*(k:Int)≤u→M -100*((k+1:Nat):Int)≤u+(v -z):=fun z u v h0 h1 h2=>by omega
  exact e2 _ _ _ (Int.natCast_nonneg _) this r2
 ·show a.2.2+((List.length x.2.2.1:Int) -x.2.1)≤_
  have e2:∀z u v:Int,v≤40→0≤z→u≤M+100*(k:Int)→u+(v -z)≤M+100*((k+1:Nat):Int):=fun z u v h0 h1 h2=>by omega
  exact e2 _ _ _ (by omega) q2 r3
theorem wrapE {A G L:Int}(hL:L≤40)(a0:0≤A)(g0:0≤G)(h:A+G≤L):IntKind.wrap .i64 (A+G)=A+G:=wrap64 (by omega) (by omega)
theorem wrapM {m v z:Int}(h0: -100000≤m)(h1:m≤100000)(v0:0≤v)(v1:v≤40)(z0:0≤z)(z1:z≤40):IntKind.wrap .i64 (m+IntKind.wrap .i64 (v -z))=m+(v -z):=by
 rw[wrap64 (x:=v -z) (by omega) (by omega),wrap64 (by omega) (by omega)]
def nearB (h:HK)(w:Int)(k:Nat):Bool:=
 decide (IntKind.wrap .i64 ((h.getD (k+1) H0).1 -IntKind.wrap .i64 ((h.getD k H0).1+(h.getD k H0).2.1))≤IntKind.wrap .i64 (2*w))
def lastF (h:HK)(w:Int):Nat→Nat→Nat
 |0,k=>k
 |f+1,k=>if k+1<h.length∧nearB h w k=true then lastF h w f (k+1) else k
theorem lastF_lt (h:HK)(w:Int):∀(f k:Nat),k<h.length→k≤lastF h w f k∧lastF h w f k<h.length
 |0,k,hk=>⟨Nat.le_refl _,hk⟩
 |f+1,k,hk=>by
  simp only[lastF]
  split
  ·rename_i c
   have:=lastF_lt h w f (k+1) c.1
   omega
  ·exact⟨Nat.le_refl _,hk⟩
theorem last_S {l:TX}{h:HK}{w:Int}{out:GR}{m i:Int}(h20:h.length≤20):∀(f k:Nat),k<h.length→h.length -1 -k≤f→w_S_l6Groups_6 (l,h,w,out,m,i,((k+1:Nat):Int),())=some (l,h,w,out,m,i,((lastF h w f k+1:Nat):Int),()):=by
 intro f
 induction f with
 |zero=>
  intro k hk hf
  refine fix_end (B:=fun d=>b_S_l6Groups_6 d.1 d.2.1 d.2.2.1 d.2.2.2.1 d.2.2.2.2.1 d.2.2.2.2.2.1 d.2.2.2.2.2.2.1) ?_
  show b_S_l6Groups_6 l h w out m i ((k+1:Nat):Int)=_
  unfold b_S_l6Groups_6
  rw[decide_eq_false (by omega:¬(((k+1:Nat):Int)<(h.length:Int))),cond_false]
  rfl
 |succ f ih=>
  intro k hk hf
  have e:IntKind.wrap .i64 (((k+1:Nat):Int) -1)=(k:Int):=by rw[wrap64 (by omega) (by omega)];omega
  by_cases hk1:k+1<h.length
  ·have step:b_S_l6Groups_6 l h w out m i ((k+1:Nat):Int)=some (if nearB h w k then .inl (l,h,w,out,m,i,((k+1+1:Nat):Int),()) else .inr (l,h,w,out,m,i,((k+1:Nat):Int),())):=by
    unfold b_S_l6Groups_6 nearB
    rw[e,decide_eq_true (by omega:((k+1:Nat):Int)<(h.length:Int)),cond_true,inB_lt hk1,cond_true,inB_lt hk,cond_true,cond_true,toNat_cast,toNat_cast,wrap64 (x:=((k+1:Nat):Int)+1) (by omega) (by omega)]
    cases decide (IntKind.wrap .i64 ((h.getD (k+1) H0).1 -IntKind.wrap .i64 ((h.getD k H0).1+(h.getD k H0).2.1))≤IntKind.wrap .i64 (2*w))<;>rfl
   simp only[lastF]
   cases hb:nearB h w k
   ·rw[if_neg (by simp)]
    exact fix_end (B:=fun d=>b_S_l6Groups_6 d.1 d.2.1 d.2.2.1 d.2.2.2.1 d.2.2.2.2.1 d.2.2.2.2.2.1 d.2.2.2.2.2.2.1) (by show b_S_l6Groups_6 l h w out m i ((k+1:Nat):Int)=_;rw[step,hb];rfl)
   ·rw[if_pos ⟨hk1,rfl⟩]
    exact Eq.trans (fix_go (B:=fun d=>b_S_l6Groups_6 d.1 d.2.1 d.2.2.1 d.2.2.2.1 d.2.2.2.2.1 d.2.2.2.2.2.1 d.2.2.2.2.2.2.1) (by show b_S_l6Groups_6 l h w out m i ((k+1:Nat):Int)=_;rw[step,hb];rfl)) (ih (k+1) hk1 (by omega))
  ·simp only[lastF]
   rw[if_neg (by omega)]
   refine fix_end (B:=fun d=>b_S_l6Groups_6 d.1 d.2.1 d.2.2.1 d.2.2.2.1 d.2.2.2.2.1 d.2.2.2.2.2.1 d.2.2.2.2.2.2.1) ?_
   show b_S_l6Groups_6 l h w out m i ((k+1:Nat):Int)=_
   unfold b_S_l6Groups_6
   rw[decide_eq_false (by omega:¬(((k+1:Nat):Int)<(h.length:Int))),cond_false]
def at0 (h:HK)(w:Int)(i:Nat):Int:=if (h.getD i H0).1 -w<0 then 0 else(h.getD i H0).1 -w
def end0 (l:TX)(h:HK)(w:Int)(j:Nat):Int:=if (l.length:Int)<(h.getD j H0).1+(h.getD j H0).2.1+w then(l.length:Int) else(h.getD j H0).1+(h.getD j H0).2.1+w
def res (l:TX)(h:HK)(w:Int)(i n:Nat)(m:Int):St3:=(segL h i n).foldl (stepR l) ([],at0 h w i,m)
def grp (l:TX)(h:HK)(w:Int)(i n:Nat)(m:Int):PV Y_impl_Group:=
 (at0 h w i,(at0 h w i+m,((res l h w i n m).1++rowsK 1 (cutL (res l h w i n m).2.1 (end0 l h w (i+n -1)) l),())))
def groupsF (l:TX)(h:HK)(w:Int):Nat→Nat→Int→GR
 |0,_,_=>[]
 |f+1,i,m=>if i<h.length then grp l h w i (lastF h w 20 i+1 -i) m::groupsF l h w f (lastF h w 20 i+1) (res l h w i (lastF h w 20 i+1 -i) m).2.2 else[]
structure GOk (l:TX)(h:HK)(w:Int)(i:Nat):Prop where
 a0:0≤at0 h w i
 a1:at0 h w i≤(l.length:Int)
 a2:at0 h w i≤(h.getD i H0).1
 e1:∀j,j<h.length→(h.getD j H0).1+(h.getD j H0).2.1≤end0 l h w j∧end0 l h w j≤(l.length:Int)∧0≤(h.getD j H0).1∧(h.getD j H0).1≤40∧0≤(h.getD j H0).2.1∧(h.getD j H0).2.1≤40
theorem gOk {l:TX}{h:HK}{w:Int}(hl:l.length≤40)(hg:hunksP (l.length:Int) h=true)(hw0:0≤w){i:Nat}(hi:i<h.length):GOk l h w i:=by
 obtain⟨_,_,h20,f⟩:=hunk_facts hg
 obtain⟨a1,a2,a3,a4,_⟩:=f i hi
 have key:∀A:Int,0≤A→A≤(l.length:Int)→0≤(if A -w<0 then 0 else A -w)∧(if A -w<0 then 0 else A -w)≤(l.length:Int)∧(if A -w<0 then 0 else A -w)≤A:=by
  intro A h0 h1
  split<;>omega
 obtain⟨k1,k2,k3⟩:=key _ a1 a2
 refine⟨k1,k2,k3,fun j hj=> ?_⟩
 obtain⟨b1,b2,b3,b4,_⟩:=f j hj
 have key2:∀A G:Int,0≤A→0≤G→A+G≤(l.length:Int)→A+G≤(if (l.length:Int)<A+G+w then(l.length:Int) else A+G+w)∧(if (l.length:Int)<A+G+w then(l.length:Int) else A+G+w)≤(l.length:Int)∧0≤A∧A≤40∧0≤G∧G≤40:=by
  intro A G h0 h1 h2
  split<;>omega
 exact key2 _ _ b1 b3 b4
theorem foldl_at {l:TX}:∀(s:HK) (a:St3),s≠[]→(s.foldl (stepR l) a).2.1=(s.getLast?.getD H0).1+(s.getLast?.getD H0).2.1
 |[x],a,_=>rfl
 |x::y::s,a,_=>by
  rw[List.foldl_cons,foldl_at (y::s) _ (by simp)]
  rfl
 |[],_,h=>absurd rfl h
theorem res_at {l:TX}{h:HK}{w m:Int}{i n:Nat}(hn:i+n≤h.length)(hn1:1≤n):(res l h w i n m).2.1=(h.getD (i+n -1) H0).1+(h.getD (i+n -1) H0).2.1:=by
 unfold res
 have hs:=segL_len hn
 have hne:segL h i n≠[]:=by intro e;rw[e] at hs;simp at hs;omega
 rw[foldl_at _ _ hne]
 have:(segL h i n).getLast?.getD H0=h.getD (i+n -1) H0:=by
  rw[List.getLast?_eq_getElem?,hs,←List.getD_eq_getElem?_getD,segL_at hn (by omega),show i+(n -1)=i+n -1 from by omega]
 rw[this]
theorem wrap3 {A G w:Int}(a0:0≤A)(a1:A≤40)(g0:0≤G)(g1:G≤40)(w0:0≤w)(w1:w≤20):IntKind.wrap .i64 (IntKind.wrap .i64 (A+G)+w)=A+G+w∧IntKind.wrap .i64 (A -w)=A -w:=by
 rw[wrap64 (x:=A+G) (by omega) (by omega),wrap64 (by omega) (by omega),wrap64 (by omega) (by omega)]
 exact⟨rfl,rfl⟩
theorem step_bd {l:TX}{h:HK}{w m:Int}{i:Nat}(hl:l.length≤40)(hg:hunksP (l.length:Int) h=true)(hw0:0≤w)(hi:i<h.length):
 m -100*((lastF h w 20 i+1 -i:Nat):Int)≤(res l h w i (lastF h w 20 i+1 -i) m).2.2∧(res l h w i (lastF h w 20 i+1 -i) m).2.2≤m+100*((lastF h w 20 i+1 -i:Nat):Int)∧(res l h w i (lastF h w 20 i+1 -i) m).1.length≤2400:=by
 obtain⟨l1,l2⟩:=lastF_lt h w 20 i hi
 obtain⟨_,_,h20,_⟩:=hunk_facts hg
 have hn:i+(lastF h w 20 i+1 -i)≤h.length:=by omega
 generalize hN:lastF h w 20 i+1 -i=n at*
 have ho:=segOk hl hg hn
 have hsl:=segL_len hn
 have hG:=gOk (i:=i) hl hg hw0 hi
 have:=foldl_inv (segL h i n) (stepR l) (SegI l (segL h i n) m) (fun k hk a hI=>by
  rw[show(segL h i n)[k]=(segL h i n).getD k H0 from(getD_of hk).symm]
  exact seg_next ho hk hI) ([],at0 h w i,m)
  ⟨Nat.zero_le _,hG.a0,hG.a1,fun hk=>by rw[segL_at hn (by omega)];exact hG.a2,by show m -100*((0:Nat):Int)≤m;omega,by show m≤m+100*((0:Nat):Int);omega⟩ (segL h i n).length (Nat.le_refl _)
 rw[List.take_length,hsl] at this
 have r1:=this.rows
 have r2:=this.m0
 have r3:=this.m1
 exact⟨r2,r3,Nat.le_trans r1 (by omega)⟩
end R.G
end
