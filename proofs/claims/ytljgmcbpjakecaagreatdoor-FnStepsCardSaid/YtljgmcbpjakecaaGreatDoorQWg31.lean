/- Parts of the proof: PbSa Wa1 Wa3 Wb5 Wb6 Wb7 Wb8 Wc1 Wc2 Wc3 Wc4 Wc5 Wc6 Wc7 Wc8 Wc9 Wd1 Wd2 Wd3 We5 We6 We8 We9 Wf1 Wf2 Wf3. -/
import Derived.Test.YtljgmcbpjakecaaGreatDoorPaSa
import Derived.Test.YtljgmcbpjakecaaGreatDoorL3
import Derived.Lib.ItoaLen
section
/- Plain laws of the helpers. -/
open Go Go.Dn
namespace R
set_option linter.unusedVariables false
end R
end

section
/- Lines: both sides' tests of lines answer the same. -/
open Go Go.Dn
namespace R
set_option linter.unusedVariables false
theorem in_I (a b c:Int):f_I_in a b c=some ((decide (a≥b)&&decide (a≤c),()),()):=by
 unfold f_I_in
 cases decide (a≥b)<;>rfl
theorem in_S (a b c:Int):f_S_l1In a b c=some ((decide (a≥b)&&decide (a≤c),()),()):=by
 unfold f_S_l1In
 cases decide (a≥b)<;>rfl
def inI (a b c:Int):Bool:=decide (a≥b)&&decide (a≤c)
def hasEnd (s:List UInt8):Bool:=(s.take (s.length -1)).contains 10
def lineP (s:List UInt8):Bool:=inI (s.length:Int) 1 30&& !hasEnd s
def endP (s:List UInt8):Bool:=s.drop (s.length -1)==[10]
theorem line_len {s:List UInt8}(h:lineP s=true):1≤s.length∧s.length≤30:=by
 unfold lineP inI at h
 simp only[Bool.and_eq_true,decide_eq_true_eq] at h
 omega
theorem line_S (s:List UInt8)(hs:s.length≤4611686018427387904):f_S_l1Line s=some ((lineP s,()),()):=by
 unfold f_S_l1Line
 have hw:IntKind.wrap .i64 ((s.length:Int) -1)=(s.length:Int) -1:=wrap64 (by omega) (by omega)
 rw[show w_S_l1Line_2 (s,0,())=_ from fix_anyN (B:=fun d=>b_S_l1Line_2 d.1 d.2.1) (s.length -1) (fun i=>s.getD i 0==10) (fun i=>(s,(i:Int),())) (fun _=>.inr (false,())) (.inl (s,()))
  (fun i hi hq=>by
    show b_S_l1Line_2 s i=_
    unfold b_S_l1Line_2
    rw[hw,decide_eq_true (by omega:(i:Int)<(s.length:Int) -1),cond_true,inB_lt (by omega),cond_true,toNat_cast]
    rw[show((((s.getD i 0:UInt8).toNat:Nat):Int)==10)=(s.getD i 0==10) from byte_eq (n:=10) (by omega),hq,cond_false,wrap64 (by omega) (by omega)]
    simp)
  (fun i hi hq=>by
    show b_S_l1Line_2 s i=_
    unfold b_S_l1Line_2
    rw[hw,decide_eq_true (by omega:(i:Int)<(s.length:Int) -1),cond_true,inB_lt (by omega),cond_true,toNat_cast]
    rw[show((((s.getD i 0:UInt8).toNat:Nat):Int)==10)=(s.getD i 0==10) from byte_eq (n:=10) (by omega),hq,cond_true])
  (by
    show b_S_l1Line_2 s ((s.length -1:Nat):Int)=_
    unfold b_S_l1Line_2
    rw[hw,decide_eq_false (by omega:¬(((s.length -1:Nat):Int)<(s.length:Int) -1)),cond_false])]
 rw[contains_take (by omega)]
 unfold lineP hasEnd
 cases(s.take (s.length -1)).contains 10
 ·simp only[Bool.false_eq_true,if_false,Option.bind_some,in_S];simp[inI]
 ·simp
theorem ends_S (s:List UInt8)(h1:1≤s.length)(hs:s.length≤4611686018427387904):f_S_l1Ends s=some ((endP s,()),()):=by
 unfold f_S_l1Ends
 have hw:IntKind.wrap .i64 ((s.length:Int) -1)=((s.length -1:Nat):Int):=by rw[wrap64 (by omega) (by omega)];omega
 rw[hw,inB_lt (by omega),cond_true,toNat_cast]
 rw[show((((s.getD (s.length -1) 0:UInt8).toNat:Nat):Int)==10)=(s.getD (s.length -1) 0==10) from byte_eq (n:=10) (by omega)]
 unfold endP
 rw[List.drop_eq_getElem_cons (by omega:s.length -1<s.length),List.drop_of_length_le (by omega),getD_of (by omega)]
 simp
theorem line_I (s:List UInt8)(hs:s.length≤4611686018427387904):f_I_isLine s=some ((lineP s,()),()):=by
 unfold f_I_isLine
 rw[in_I,Option.bind_some]
 dsimp only
 unfold lineP
 cases h:inI (s.length:Int) 1 30
 ·unfold inI at h;rw[h];rfl
 ·have h':=h
  unfold inI at h'
  rw[h',cond_true]
  simp only[Bool.and_eq_true,decide_eq_true_eq] at h'
  rw[wrap64 (by omega) (by omega)]
  rw[show cutB 0 ((s.length:Int) -1) s.length=true from by unfold cutB;simp;omega,cond_true]
  unfold f_strings_Contains containsF
  rw[Option.bind_some]
  unfold hasEnd cutL
  rw[show((s.length:Int) -1).toNat=s.length -1 from by omega]
  simp
theorem ends_I (s:List UInt8)(hs:s.length≤4611686018427387904):f_I_isEnded s=some ((endP s,()),()):=by
 unfold f_I_isEnded f_strings_HasSuffix f_internal_stringslite_HasSuffix endP
 by_cases h:1≤s.length
 ·rw[decide_eq_true (by simp;omega:(s.length:Int)≥(([10]:List UInt8).length:Int)),cond_true]
  have hw:IntKind.wrap .i64 ((s.length:Int) -(([10]:List UInt8).length:Int))=((s.length -1:Nat):Int):=by
   rw[show((([10]:List UInt8).length:Nat):Int)=1 from rfl,wrap64 (by omega) (by omega)];omega
  rw[hw,show cutB ((s.length -1:Nat):Int) (s.length:Int) s.length=true from by unfold cutB;simp,cond_true]
  unfold cutL
  simp
 ·have:s=[]:=List.eq_nil_of_length_eq_zero (by omega)
  subst this
  rfl
def linesP (l:List (List UInt8)):Bool:=decide (l.length≤40)&& !(l.any fun s=> !lineP s)
def endsP (l:List (List UInt8)):Bool:= !(anyN l.length fun k=>decide ((k:Int)<(l.length:Int) -1)&& !(endP (l.getD k [])))
def goodP (l:List (List UInt8)):Bool:=linesP l&&endsP l
def Sm (l:List (List UInt8)):Prop:=l.length≤4611686018427387904∧∀s∈l,s.length≤4611686018427387904
theorem Sm.len {l:List (List UInt8)}(h:Sm l):l.length≤4611686018427387904:=h.1
theorem Sm.mem {l:List (List UInt8)}(h:Sm l){i:Nat}(hi:i<l.length):(l[i]).length≤4611686018427387904:=h.2 _ (List.getElem_mem hi)
theorem Sm.of {l:List (List UInt8)}{n:Nat}(h:tot (.slice 9 .str) l≤n)(hn:n≤4611686018427387904):Sm l:=by
 refine⟨?_,fun s hs=> ?_⟩
 ·have h':=h
  rw[tot_slice] at h'
  omega
 ·obtain⟨i,hi,rfl⟩:=List.mem_iff_getElem.1 hs
  have:=Nat.le_trans (tot_mem (e:=9) (t:=.str) (xs:=l) hi) h
  rw[tot_str] at this
  omega
end R
end

section
/- Numbers and ranges as texts: both sides write the same. -/
open Go Go.Dn
namespace R
set_option linter.unusedVariables false
theorem wrap8 {x:Int}(h1:0≤x)(h2:x≤255):IntKind.wrap .u8 x=x:=by
 simp[IntKind.wrap,IntKind.signed,IntKind.bits]
 omega
abbrev dec (n:Nat):List UInt8:=Lib.decDigits n
abbrev TX:=List (List UInt8)
theorem dec_len (n:Nat)(h:n≤1000000):(dec n).length≤21:=by
 have:=Lib.itoa_length_le (n:Int) (by omega) (by omega)
 rwa [Lib.itoa_nonneg] at this
theorem dig_one {n:Nat}(h:n<10):bytesOfInts [IntKind.wrap .u8 (IntKind.wrap .i64 (48+(n:Int)))]=[UInt8.ofNat (48+n)]:=by
 rw[wrap64 (by omega) (by omega),wrap8 (by omega) (by omega)]
 show[UInt8.ofNat ((48+(n:Int)).toNat)]=_
 congr 2
theorem num_n:∀(f n:Nat),n<f→n≤1000000→fn_S_l1Num f (n:Int)=some ((dec n,()),())
 |0,n,h,_=>by omega
 |f+1,n,h,hb=>by
  show fr_S_l1Num (fn_S_l1Num f) (n:Int)=_
  unfold fr_S_l1Num
  by_cases hn:n<10
  ·rw[decide_eq_true (by omega:(n:Int)<10),cond_true,dig_one hn,show dec n=_ from Lib.decDigits_one hn]
  ·rw[decide_eq_false (by omega:¬(n:Int)<10),cond_false,show((10:Nat)==0)=false from rfl,cond_false]
   rw[show(n:Int).tdiv 10=((n/10:Nat):Int) from by rw[Int.tdiv_eq_ediv_of_nonneg (by omega)];omega,show(n:Int).tmod 10=((n%10:Nat):Int) from by rw[Int.tmod_eq_emod_of_nonneg (by omega)];omega]
   rw[wrap64 (x:=((n/10:Nat):Int)) (by omega) (by omega),num_n f (n/10) (by omega) (by omega),Option.bind_some,cond_false]
   have hl:=dec_len (n/10) (by omega)
   rw[dig_one (by omega)]
   dsimp only
   rw[decide_eq_true (by simp only[List.length_cons,List.length_nil];omega),cond_true]
   rw[show dec n=dec (n/10)++[UInt8.ofNat (48+n%10)] from by
    show Lib.decDigits n=_
    rw[Lib.decDigits,dif_neg hn]]
theorem num_S (n:Nat)(h:n≤1000000):f_S_l1Num (n:Int)=some ((dec n,()),()):=by
 unfold f_S_l1Num
 exact num_n _ n (by simp) h
theorem num_I (n:Nat)(h:n≤1000000):f_strconv_Itoa (n:Int)=some ((dec n,()),()):=by
 unfold f_strconv_Itoa itoaF
 rw[decide_eq_true (by omega),decide_eq_true (by omega:(n:Int)≤9223372036854775807),Lib.itoa_nonneg]
 rfl
def pairT (a b:Nat):List UInt8:=if a=b then dec a else(dec a++[44])++dec b
theorem pairT_len {a b:Nat}(ha:a≤10000)(hb:b≤10000):(pairT a b).length≤43:=by
 have:=dec_len a (by omega)
 have:=dec_len b (by omega)
 unfold pairT
 split
 ·omega
 ·simp only[List.length_append,List.length_cons,List.length_nil];omega
theorem pair_I {a b:Nat}(ha:a≤10000)(hb:b≤10000):f_I_pairOf (a:Int) (b:Int)=some ((pairT a b,()),()):=by
 have h1:=dec_len a (by omega)
 have h2:=dec_len b (by omega)
 unfold f_I_pairOf pairT
 rw[num_I a (by omega),num_I b (by omega)]
 by_cases h:a=b
 ·rw[if_pos h,show((a:Int)==(b:Int))=true from by rw[h];exact beq_self_eq_true _];rfl
 ·rw[if_neg h,show((a:Int)==(b:Int))=false from beq_eq_false_iff_ne.2 (by omega),cond_false,Option.bind_some]
  dsimp only
  rw[decide_eq_true (by simp only[List.length_cons,List.length_nil];omega),cond_true,Option.bind_some]
  dsimp only
  rw[decide_eq_true (by simp only[List.length_append,List.length_cons,List.length_nil];omega),cond_true]
theorem pair_S {a b:Nat}(ha:a≤10000)(hb:b≤10000):f_S_l5Numbers (a:Int) (b:Int)=some ((pairT a b,()),()):=by
 have h1:=dec_len a (by omega)
 have h2:=dec_len b (by omega)
 unfold f_S_l5Numbers pairT
 rw[num_S a (by omega),num_S b (by omega)]
 by_cases h:a=b
 ·rw[if_pos h,show((a:Int)==(b:Int))=true from by rw[h];exact beq_self_eq_true _];rfl
 ·rw[if_neg h,show((a:Int)==(b:Int))=false from beq_eq_false_iff_ne.2 (by omega),cond_false,Option.bind_some]
  dsimp only
  rw[decide_eq_true (by simp only[List.length_cons,List.length_nil];omega),cond_true,Option.bind_some]
  dsimp only
  rw[decide_eq_true (by simp only[List.length_append,List.length_cons,List.length_nil];omega),cond_true]
theorem foldl_app {α:Type}(f:α→List UInt8):∀(l:List α) (a:List UInt8),l.foldl (fun a r=>a++f r) a=a++l.flatMap f
 |[],a=>by simp
 |x::l,a=>by rw[List.foldl_cons,foldl_app f l,List.flatMap_cons,List.append_assoc]
end R
end

section
/- Texts cut: what the leaves of both sides answer. -/
open Go Go.Dn
namespace R.V
set_option linter.unusedVariables false
theorem suffixG_I (s p:List UInt8)(hs:s.length≤100000)(hp:p.length≤100):f_internal_stringslite_HasSuffix s p=some ((s.drop (s.length -p.length)==p,()),()):=by
 unfold f_internal_stringslite_HasSuffix
 by_cases h:p.length≤s.length
 ·rw[decide_eq_true (by omega:(s.length:Int)≥(p.length:Int)),cond_true,wrap64 (by omega) (by omega),show(s.length:Int) -(p.length:Int)=((s.length -p.length:Nat):Int) by omega]
  rw[show cutB ((s.length -p.length:Nat):Int) (s.length:Int) s.length=true from by unfold cutB;simp,cond_true]
  unfold cutL
  simp
 ·rw[decide_eq_false (by omega:¬(s.length:Int)≥(p.length:Int)),cond_false]
  have:(s.drop (s.length -p.length)==p)=false:=beq_eq_false_iff_ne.2 fun e=>by
   have:=congrArg List.length e
   rw[List.length_drop] at this;omega
  rw[this]
def plainB (s:List UInt8):List UInt8:=bif endP s then s.take (s.length -1) else s
theorem plain_I (s:List UInt8)(hs:s.length≤100000):f_I_plain s=some ((plainB s,()),()):=by
 unfold f_I_plain f_strings_TrimSuffix f_internal_stringslite_TrimSuffix plainB
 rw[suffixG_I s [10] hs (by decide),Option.bind_some]
 dsimp only
 rw[show(s.drop (s.length -[(10:UInt8)].length)==[10])=endP s from rfl]
 cases h:endP s
 ·rfl
 ·have h1:1≤s.length:=by
   cases s with
   |nil=>cases h
   |cons a s=>simp
  rw[cond_true,cond_true,show(([(10:UInt8)].length:Nat):Int)=1 from rfl,wrap64 (by omega) (by omega),show(s.length:Int) -1=((s.length -1:Nat):Int) by omega]
  rw[show cutB 0 ((s.length -1:Nat):Int) s.length=true from by unfold cutB;simp,cond_true]
  unfold cutL
  simp
theorem cut_some {s sep:List UInt8}{i:Nat}(hs:s.length≤100000)(hp:sep.length≤100)(hi:i+sep.length≤s.length)(h:f_internal_stringslite_Index s sep=some (((i:Int),()),())):
 f_strings_Cut s sep=some ((s.take i,s.drop (i+sep.length),true,()),()):=by
 unfold f_strings_Cut f_internal_stringslite_Cut
 rw[h,Option.bind_some]
 dsimp only
 rw[decide_eq_true (by omega:(i:Int)≥0),cond_true,show cutB 0 (i:Int) s.length=true from by unfold cutB;simp;omega,cond_true,wrap64 (by omega) (by omega)]
 rw[show(i:Int)+(sep.length:Int)=((i+sep.length:Nat):Int) by omega,show cutB ((i+sep.length:Nat):Int) (s.length:Int) s.length=true from by unfold cutB;simp;omega,cond_true]
 show some (((s.take ((i:Nat):Int).toNat).drop 0,(s.take ((s.length:Nat):Int).toNat).drop (((i+sep.length:Nat):Int)).toNat,true,()),())=_
 rw[toNat_cast,toNat_cast,toNat_cast,List.take_length,List.drop_zero]
theorem cut_none {s sep:List UInt8}(h:f_internal_stringslite_Index s sep=some ((-1,()),())):f_strings_Cut s sep=some ((s,[],false,()),()):=by
 unfold f_strings_Cut f_internal_stringslite_Cut
 rw[h,Option.bind_some]
 rfl
theorem comma_I (s:List UInt8)(hs:s.length≤100000):f_strings_Cut s [44]=some ((match comma s with|none=>(s,[],false,())|some (a,b)=>(a,b,true,())),()):=by
 by_cases h:(44:UInt8)∈s
 ·obtain⟨t,r,rfl,ht⟩:=first_of h
  rw[comma_at r ht,cut_some (i:=t.length) hs (by decide) (by simp) (by unfold f_internal_stringslite_Index indexF;dsimp only;rw[indexByte_at 44 r ht])]
  dsimp only
  rw[List.take_left' rfl,show t.length+[(44:UInt8)].length=(t++[44]).length by simp,show t++(44:UInt8)::r=(t++[44])++r by simp,List.drop_left' rfl]
 ·rw[comma_no h,cut_none (by unfold f_internal_stringslite_Index indexF;dsimp only;rw[indexByte_not 44 h])]
end R.V
end

section
/- The lines of a text, and its pieces. -/
open Go Go.Dn
namespace R.V
set_option linter.unusedVariables false
abbrev TX:=List (List UInt8)
theorem linesOf_I (s:List UInt8)(hs:s.length≤100000):f_I_linesOf s=some ((cutP s,()),()):=by
 unfold f_I_linesOf
 by_cases h:s=[]
 ·subst h;rfl
 ·rw[show(s==[])=false from beq_eq_false_iff_ne.2 h,cond_false]
  have hsp:f_strings_SplitAfter s [10]=some ((spl s,()),()):=by
   unfold f_strings_SplitAfter f_strings_genSplit splitF
   dsimp only
   rw[show(([(10:UInt8)].length:Nat):Int)=1 from rfl,show((1:Int)==1)=true from rfl,show((-1:Int)==-1)=true from rfl,decide_eq_true (by omega),splitK_spl _ s rfl]
   rfl
  rw[hsp,Option.bind_some]
  dsimp only
  obtain⟨q,h1,h2⟩:=spl_lines h
  generalize hL:spl s=L at*
  generalize hx:L.getLastD []=x at*
  have hlen:L.length=q.length+1:=by rw[h1];simp
  have hll:q.length≤100000:=by
   have hc:=cutP_len s
   rw[←h2] at hc
   split at hc<;>omega
  rw[wrap64 (by omega) (by omega),show(L.length:Int) -1=((q.length:Nat):Int) by omega,inB_lt (by omega),cond_true,toNat_cast]
  have hg:L.getD q.length []=x:=by rw[h1];simp
  rw[hg]
  by_cases hx0:x=[]
  ·rw[show(x==[])=true from beq_iff_eq.2 hx0,cond_true,show cutB 0 ((q.length:Nat):Int) L.length=true from by unfold cutB;simp;omega,cond_true,Option.bind_some]
   rw[if_pos hx0] at h2
   rw[←h2]
   have:cutL 0 ((q.length:Nat):Int) L=q:=by
    show(L.take ((q.length:Nat):Int).toNat).drop 0=q
    rw[toNat_cast,List.drop_zero,h1,List.take_left' rfl]
   rw[this]
  ·rw[show(x==[])=false from beq_eq_false_iff_ne.2 hx0,cond_false,Option.bind_some]
   rw[if_neg hx0] at h2
   rw[←h2]
theorem cut_at {α:Type}(p c r:List α):cutL (p.length:Int) ((p.length+c.length:Nat):Int) (p++c++r)=c:=by
 unfold cutL
 rw[toNat_cast,toNat_cast,List.take_left' (by simp),List.drop_left' rfl]
theorem byte_eq (a b:UInt8):(((a.toNat:Nat):Int)==((b.toNat:Nat):Int))=(a==b):=by
 rw[Bool.eq_iff_iff,beq_iff_eq,beq_iff_eq]
 constructor
 ·intro h
  exact UInt8.toNat_inj.1 (by omega)
 ·rintro rfl;rfl
theorem l1Cut_go (s:List UInt8)(hs:s.length≤100000):∀(rest cur pre:List UInt8) (acc:TX),(10:UInt8)∉cur→s=pre++cur++rest→acc.length≤pre.length→
 (w_S_l1Cut_4 (s,acc,(pre.length:Int),((pre.length+cur.length:Nat):Int),())).bind (fun l3=>
 ((
   bif (decide (l3.2.2.1<(l3.1.length:Int))) then
    bif cutB l3.2.2.1 (l3.1.length:Int) l3.1.length then
     bif roomB (l3.2.1.length+[(cutL l3.2.2.1 (l3.1.length:Int) l3.1)].length) then
      some ((l3.2.1++[(cutL l3.2.2.1 (l3.1.length:Int) l3.1)]),())
     else
      none
    else
     none
   else
    some (l3.2.1,()):Option ((PV S_string×Unit)))).bind fun j4=>
   (some ((j4.1,()),()):Option (PVs [S_string]×PVs [])))=some ((acc++cutP (cur++rest),()),())
 |[],cur,pre,acc,hc,e,ha=>by
  have hl:s.length=pre.length+cur.length:=by rw[e];simp
  have:w_S_l1Cut_4 (s,acc,(pre.length:Int),((pre.length+cur.length:Nat):Int),())=some (s,acc,(pre.length:Int),()):=by
   refine fix_end ?_
   show b_S_l1Cut_4 s acc (pre.length:Int) ((pre.length+cur.length:Nat):Int)=_
   unfold b_S_l1Cut_4
   rw[decide_eq_false (by omega:¬((pre.length+cur.length:Nat):Int)<(s.length:Int)),cond_false]
  rw[this,Option.bind_some]
  dsimp only
  rw[List.append_nil] at e ⊢
  by_cases h0:cur=[]
  ·subst h0
   rw[decide_eq_false (by rw[List.length_nil] at hl;omega:¬(pre.length:Int)<(s.length:Int)),cond_false,Option.bind_some]
   simp[cutP]
  ·have h1:0<cur.length:=List.length_pos_iff.2 h0
   have hx:cutL (pre.length:Int) (s.length:Int) s=cur:=by
    have:=cut_at pre cur []
    rw[List.append_nil,←e,←hl] at this
    exact this
   rw[decide_eq_true (by omega:(pre.length:Int)<(s.length:Int)),cond_true,show cutB (pre.length:Int) (s.length:Int) s.length=true from by unfold cutB;simp;omega,cond_true,hx,roomB_ok (by simp;omega),cond_true,Option.bind_some]
   rw[cutP_rest hc h0]
 |b::rest,cur,pre,acc,hc,e,ha=>by
  have hl:s.length=pre.length+cur.length+rest.length+1:=by rw[e];simp;omega
  have hlt:pre.length+cur.length<s.length:=by omega
  have hb:s[pre.length+cur.length]=b:=by
   simp only[e]
   rw[List.getElem_append_right (by simp)]
   simp
  by_cases h10:b=10
  ·have hx:cutL (pre.length:Int) ((pre.length+cur.length+1:Nat):Int) s=cur++[10]:=by
    have:=cut_at pre (cur++[10]) rest
    rw[show pre++(cur++[10])++rest=s from by rw[e,h10];simp,show(cur++[(10:UInt8)]).length=cur.length+1 by simp] at this
    exact this
   have:w_S_l1Cut_4 (s,acc,(pre.length:Int),((pre.length+cur.length:Nat):Int),())=w_S_l1Cut_4 (s,acc++[cur++[10]],((pre.length+cur.length+1:Nat):Int),((pre.length+cur.length+1:Nat):Int),()):=by
    refine fix_go ?_
    show b_S_l1Cut_4 s acc (pre.length:Int) ((pre.length+cur.length:Nat):Int)=_
    unfold b_S_l1Cut_4
    rw[decide_eq_true (by omega:((pre.length+cur.length:Nat):Int)<(s.length:Int)),cond_true,inB_lt hlt,cond_true,toNat_cast,getD_of hlt,hb,h10,show((((10:UInt8).toNat:Nat):Int)==10)=true from rfl,cond_true,wrap64 (by omega) (by omega)]
    rw[show((pre.length+cur.length:Nat):Int)+1=((pre.length+cur.length+1:Nat):Int) from rfl,show cutB (pre.length:Int) ((pre.length+cur.length+1:Nat):Int) s.length=true from by unfold cutB;simp;omega,cond_true,hx,roomB_ok (by simp;omega),cond_true,Option.bind_some]
    dsimp only
    rw[wrap64 (by omega) (by omega)]
    rfl
   rw[this]
   have ih:=l1Cut_go s hs rest [] (pre++(cur++[10])) (acc++[cur++[10]]) (by simp) (by rw[e,h10];simp) (by simp;omega)
   rw[show(pre++(cur++[(10:UInt8)])).length=pre.length+cur.length+1 by simp;omega] at ih
   simp only[List.length_nil,Nat.add_zero,List.nil_append] at ih
   rw[ih,h10,cutP_line rest hc]
   simp
  ·have:w_S_l1Cut_4 (s,acc,(pre.length:Int),((pre.length+cur.length:Nat):Int),())=w_S_l1Cut_4 (s,acc,(pre.length:Int),((pre.length+(cur++[b]).length:Nat):Int),()):=by
    refine fix_go ?_
    show b_S_l1Cut_4 s acc (pre.length:Int) ((pre.length+cur.length:Nat):Int)=_
    unfold b_S_l1Cut_4
    have hne:(((b.toNat:Nat):Int)==10)=false:=by
     rw[show(10:Int)=(((10:UInt8).toNat:Nat):Int) from rfl,byte_eq]
     exact beq_eq_false_iff_ne.2 h10
    rw[decide_eq_true (by omega:((pre.length+cur.length:Nat):Int)<(s.length:Int)),cond_true,inB_lt hlt,cond_true,toNat_cast,getD_of hlt,hb,hne,cond_false,Option.bind_some]
    dsimp only
    rw[wrap64 (by omega) (by omega),List.length_append]
    rfl
   rw[this]
   have ih:=l1Cut_go s hs rest (cur++[b]) pre acc (by simp only[List.mem_append,List.mem_singleton,not_or];exact⟨hc,fun h=>h10 h.symm⟩) (by rw[e];simp) ha
   rw[ih]
   simp
theorem l1Cut_S (s:List UInt8)(hs:s.length≤100000):f_S_l1Cut s=some ((cutP s,()),()):=by
 unfold f_S_l1Cut
 exact l1Cut_go s hs s [] [] [] (by simp) (by simp) (Nat.le_refl _)
def splitC (c:UInt8):List UInt8→TX
 |[]=>[[]]
 |b::s=>if b=c then[]::splitC c s else match splitC c s with
  |[]=>[[b]]
  |h::t=>(b::h)::t
theorem splitC_go {c b:UInt8}(h:b≠c)(s:List UInt8):splitC c (b::s)=match splitC c s with
 |[]=>[[b]]
 |h::t=>(b::h)::t:=by simp[splitC,h]
theorem splitC_not {c:UInt8}:∀{t:List UInt8},c∉t→splitC c t=[t]
 |[],_=>rfl
 |b::t,h=>by
  rw[splitC_go (fun e=>h (by rw[e];exact List.mem_cons_self ..)),splitC_not (t:=t) fun m=>h (List.mem_cons_of_mem _ m)]
theorem splitC_at {c:UInt8}(r:List UInt8):∀{t:List UInt8},c∉t→splitC c (t++c::r)=t::splitC c r
 |[],_=>by simp[splitC]
 |b::t,h=>by
  rw[List.cons_append,splitC_go (fun e=>h (by rw[e];exact List.mem_cons_self ..)),splitC_at r (t:=t) fun m=>h (List.mem_cons_of_mem _ m)]
theorem splitC_ne (c:UInt8)(s:List UInt8):splitC c s≠[]:=by
 cases s with
 |nil=>simp[splitC]
 |cons b s=>
  unfold splitC
  split
  ·simp
  ·split<;>simp
theorem l1Split_go (s:List UInt8)(c:UInt8)(hs:s.length≤100000):∀(rest cur pre:List UInt8) (acc:TX),c∉cur→s=pre++cur++rest→acc.length≤pre.length→
 (w_S_l1Split_4 (s,(c.toNat:Int),acc,(pre.length:Int),((pre.length+cur.length:Nat):Int),())).bind (fun l3=>
 bif cutB l3.2.2.1 (l3.1.length:Int) l3.1.length then
  bif roomB (l3.2.1.length+[(cutL l3.2.2.1 (l3.1.length:Int) l3.1)].length) then
   (some (((l3.2.1++[(cutL l3.2.2.1 (l3.1.length:Int) l3.1)]),()),()):Option (PVs [S_string]×PVs []))
  else
   none
 else
  none)=some ((acc++splitC c (cur++rest),()),())
 |[],cur,pre,acc,hc,e,ha=>by
  have hl:s.length=pre.length+cur.length:=by rw[e];simp
  have:w_S_l1Split_4 (s,(c.toNat:Int),acc,(pre.length:Int),((pre.length+cur.length:Nat):Int),())=some (s,acc,(pre.length:Int),()):=by
   refine fix_end ?_
   show b_S_l1Split_4 s (c.toNat:Int) acc (pre.length:Int) ((pre.length+cur.length:Nat):Int)=_
   unfold b_S_l1Split_4
   rw[decide_eq_false (by omega:¬((pre.length+cur.length:Nat):Int)<(s.length:Int)),cond_false]
  rw[this,Option.bind_some]
  dsimp only
  rw[List.append_nil] at e ⊢
  have hx:cutL (pre.length:Int) (s.length:Int) s=cur:=by
   have:=cut_at pre cur []
   rw[List.append_nil,←e,←hl] at this
   exact this
  rw[show cutB (pre.length:Int) (s.length:Int) s.length=true from by unfold cutB;simp;omega,cond_true,hx,roomB_ok (by simp;omega),cond_true]
  rw[splitC_not hc]
 |b::rest,cur,pre,acc,hc,e,ha=>by
  have hl:s.length=pre.length+cur.length+rest.length+1:=by rw[e];simp;omega
  have hlt:pre.length+cur.length<s.length:=by omega
  have hb:s[pre.length+cur.length]=b:=by
   simp only[e]
   rw[List.getElem_append_right (by simp)]
   simp
  by_cases h10:b=c
  ·have hx:cutL (pre.length:Int) ((pre.length+cur.length:Nat):Int) s=cur:=by
    rw[e];exact cut_at pre cur (b::rest)
   have:w_S_l1Split_4 (s,(c.toNat:Int),acc,(pre.length:Int),((pre.length+cur.length:Nat):Int),())=w_S_l1Split_4 (s,(c.toNat:Int),acc++[cur],((pre.length+cur.length+1:Nat):Int),((pre.length+cur.length+1:Nat):Int),()):=by
    refine fix_go ?_
    show b_S_l1Split_4 s (c.toNat:Int) acc (pre.length:Int) ((pre.length+cur.length:Nat):Int)=_
    unfold b_S_l1Split_4
    rw[decide_eq_true (by omega:((pre.length+cur.length:Nat):Int)<(s.length:Int)),cond_true,inB_lt hlt,cond_true,toNat_cast,getD_of hlt,hb,byte_eq,beq_iff_eq.2 h10,cond_true]
    rw[show cutB (pre.length:Int) ((pre.length+cur.length:Nat):Int) s.length=true from by unfold cutB;simp;omega,cond_true,hx,roomB_ok (by simp;omega),cond_true,wrap64 (by omega) (by omega),Option.bind_some]
    dsimp only
    rw[wrap64 (by omega) (by omega)]
    rfl
   rw[this]
   have ih:=l1Split_go s c hs rest [] (pre++(cur++[b])) (acc++[cur]) (by simp) (by rw[e];simp) (by simp;omega)
   rw[show(pre++(cur++[b])).length=pre.length+cur.length+1 by simp;omega] at ih
   simp only[List.length_nil,Nat.add_zero,List.nil_append] at ih
   rw[ih,h10,splitC_at rest hc]
   simp
  ·have:w_S_l1Split_4 (s,(c.toNat:Int),acc,(pre.length:Int),((pre.length+cur.length:Nat):Int),())=w_S_l1Split_4 (s,(c.toNat:Int),acc,(pre.length:Int),((pre.length+(cur++[b]).length:Nat):Int),()):=by
    refine fix_go ?_
    show b_S_l1Split_4 s (c.toNat:Int) acc (pre.length:Int) ((pre.length+cur.length:Nat):Int)=_
    unfold b_S_l1Split_4
    rw[decide_eq_true (by omega:((pre.length+cur.length:Nat):Int)<(s.length:Int)),cond_true,inB_lt hlt,cond_true,toNat_cast,getD_of hlt,hb,byte_eq,beq_eq_false_iff_ne.2 h10,cond_false,Option.bind_some]
    dsimp only
    rw[wrap64 (by omega) (by omega),List.length_append]
    rfl
   rw[this]
   have ih:=l1Split_go s c hs rest (cur++[b]) pre acc (by simp only[List.mem_append,List.mem_singleton,not_or];exact⟨hc,fun h=>h10 h.symm⟩) (by rw[e];simp) ha
   rw[ih]
   simp
theorem l1Split_S (s:List UInt8)(c:UInt8)(hs:s.length≤100000):f_S_l1Split s (c.toNat:Int)=some ((splitC c s,()),()):=by
 unfold f_S_l1Split
 exact l1Split_go s c hs s [] [] [] (by simp) (by simp) (Nat.le_refl _)
end R.V
end

section
/- Numbers and counts, as both sides read them. -/
open Go Go.Dn
namespace R.V
set_option linter.unusedVariables false
def digG (n:Nat)(x:UInt8):Nat⊕Unit:=if isDg x=true then .inl (dstep n x) else .inr ()
theorem run_dig:∀(l:List UInt8) (n:Nat),run digG n l=if l.all isDg=true then .inl (l.foldl dstep n) else .inr ()
 |[],n=>rfl
 |x::l,n=>by
  unfold run digG
  by_cases h:isDg x=true
  ·rw[if_pos h]
   dsimp only
   rw[show run (fun n x=>if isDg x=true then Sum.inl (dstep n x) else Sum.inr ()) (dstep n x) l=run digG (dstep n x) l from rfl,run_dig l]
   rw[List.all_cons,h,Bool.true_and,List.foldl_cons]
  ·rw[if_neg h]
   dsimp only
   rw[List.all_cons,if_neg (by simp[h])]
theorem dig_test (x:UInt8):isDg x=(!(decide (((x.toNat:Nat):Int)<48))&& !(decide (((x.toNat:Nat):Int)>57))):=by
 unfold isDg
 rw[Bool.eq_iff_iff]
 simp only[Bool.and_eq_true,decide_eq_true_eq,Bool.not_eq_true',decide_eq_false_iff_not]
 omega
theorem read_loop {s:List UInt8}(hs:s.length≤6):w_S_l1Read_5 (s,0,0,())=some (match (if s.all isDg=true then .inl (dval s) else .inr ():Nat⊕Unit) with| .inl b=>.inl ((b:Int),())| .inr _=>.inr (-1,())):=by
 have hpow:∀i,i≤6→10^i≤1000000:=fun i hi=>Nat.le_trans (Nat.pow_le_pow_right (by omega) hi) (by decide)
 have h:=(fix_run (B:=fun d=>b_S_l1Read_5 d.1 d.2.1 d.2.2.1) s digG (fun(n:Nat) i=>(s,(n:Int),(i:Int),())) (fun b=>(.inl ((b:Int),()):(PV (.int .i64)×Unit)⊕(PV (.int .i64)×Unit))) (fun _=>.inr (-1,())) (fun i n=>n<10^i)
  (fun i hi a b hI hg=>by
    have hp:=hpow i (by omega)
    unfold digG at hg
    split at hg
    ·rename_i hd
     obtain rfl:=Sum.inl.inj hg
     have h10:=dig_lt hd
     have hd0:=hd
     unfold isDg at hd0
     rw[Bool.and_eq_true,decide_eq_true_eq,decide_eq_true_eq] at hd0
     rw[dig_test,Bool.and_eq_true,Bool.not_eq_true',Bool.not_eq_true'] at hd
     refine⟨by unfold dstep;rw[Nat.pow_succ];omega,?_⟩
     show b_S_l1Read_5 s (a:Int) (i:Int)=_
     unfold b_S_l1Read_5
     rw[decide_eq_true (by omega:(i:Int)<(s.length:Int)),cond_true,inB_lt hi,cond_true,toNat_cast,getD_of hi,hd.1,cond_false,cond_true,hd.2,Option.bind_some]
     dsimp only
     rw[cond_false,inB_lt hi,cond_true,toNat_cast,getD_of hi,wrap8 (by omega) (by omega),wrap64 (x:=10*(a:Int)) (by omega) (by omega),wrap64 (x:=((s[i].toNat:Nat):Int) -48) (by omega) (by omega),wrap64 (by omega) (by omega),wrap64 (by omega) (by omega)]
     unfold dstep
     rw[show 10*(a:Int)+(((s[i].toNat:Nat):Int) -48)=((10*a+(s[i].toNat -48):Nat):Int) by omega]
     rfl
    ·cases hg)
  (fun i hi a r hI hg=>by
    unfold digG at hg
    split at hg
    ·cases hg
    ·rename_i hd
     rw[dig_test] at hd
     show b_S_l1Read_5 s (a:Int) (i:Int)=_
     unfold b_S_l1Read_5
     rw[decide_eq_true (by omega:(i:Int)<(s.length:Int)),cond_true,inB_lt hi,cond_true,toNat_cast,getD_of hi,cond_true]
     cases h1:decide (((s[i].toNat:Nat):Int)<48)
     ·cases h2:decide (((s[i].toNat:Nat):Int)>57)
      ·rw[h1,h2] at hd;exact absurd rfl hd
      ·rfl
     ·rfl)
  (fun a hI=>by
    show b_S_l1Read_5 s (a:Int) (s.length:Int)=_
    unfold b_S_l1Read_5
    rw[decide_eq_false (Int.lt_irrefl _),cond_false]) 0 (by decide)).1
 rw[show w_S_l1Read_5 (s,0,0,())=_ from h,run_dig]
 unfold dval
 by_cases hd:s.all isDg=true
 ·rw[if_pos hd]
 ·rw[if_neg hd]
theorem number_S' (s:List UInt8)(hs:s.length≤100000):f_S_ReadNumber s=some ((if canon s=true then(dval s:Int) else 0,canon s,()),()):=by
 have hl:∀v:Int,f_S_l1Read s=some ((v,()),())→(canon s=true→v=(dval s:Int))→(canon s=false→s.length≤4→v<0)→f_S_ReadNumber s=some ((if canon s=true then(dval s:Int) else 0,canon s,()),()):=by
  intro v h h1 h2
  unfold f_S_ReadNumber
  rw[h,Option.bind_some]
  dsimp only
  cases hc:canon s with
  |true=>
   have h4:=(canon_at hc).1
   rw[h1 hc,decide_eq_false (by omega:¬(s.length:Int)>4),cond_false,Option.bind_some]
   dsimp only
   rw[decide_eq_false (by omega:¬(dval s:Int)<0),cond_false]
   rfl
  |false=>
   by_cases h4:s.length≤4
   ·have:=h2 hc h4
    rw[decide_eq_false (by omega:¬(s.length:Int)>4),cond_false,Option.bind_some]
    dsimp only
    rw[decide_eq_true this]
    rfl
   ·rw[decide_eq_true (by omega:(s.length:Int)>4)]
    rfl
 have hin:f_S_l1In (s.length:Int) 1 6=some ((decide ((s.length:Int)≥1)&&decide ((s.length:Int)≤6),()),()):=in_S _ _ _
 by_cases h16:1≤s.length∧s.length≤6
 ·have e16:(decide ((s.length:Int)≥1)&&decide ((s.length:Int)≤6))=true:=by
   rw[decide_eq_true (by omega),decide_eq_true (by omega)];rfl
  obtain⟨c,r,rfl⟩:∃c r,s=c::r:=by
   cases s with
   |nil=>simp at h16
   |cons c r=>exact⟨c,r,rfl⟩
  have hb:(((((c::r).getD (0:Int).toNat 0).toNat:Nat):Int)==48)=(c==48):=by
   show(((c.toNat:Nat):Int)==48)=_
   rw[show(48:Int)=(((48:UInt8).toNat:Nat):Int) from rfl,byte_eq]
  have hzero:c=48∧r≠[]→canon (c::r)=false:=by
   rintro⟨rfl,hr⟩
   obtain⟨d,q,rfl⟩:=List.exists_cons_of_ne_nil hr
   unfold canon lead
   simp
  by_cases hz:c=48∧r≠[]
  ·refine hl (-1) ?_ (fun h=>by rw[hzero hz] at h;cases h) fun _ _=>by omega
   unfold f_S_l1Read
   rw[hin,Option.bind_some,e16,show inB 0 (c::r).length=true from inB_lt (i:=0) (by simp),show(((((c::r).getD (0:Int).toNat 0).toNat:Nat):Int)==48)=true from by rw[hb,hz.1];rfl]
   have:0<r.length:=List.length_pos_iff.2 hz.2
   simp only[Bool.not_true,cond_false,cond_true]
   rw[decide_eq_true (by simp;omega:((c::r).length:Int)>1),Option.bind_some]
   rfl
  ·have hlead:lead (c::r)=true:=by
    cases r with
    |nil=>rfl
    |cons d q=>
     have:c≠48:=fun e=>hz ⟨e,by simp⟩
     simp[lead,this]
   have hgo:f_S_l1Read (c::r)=(w_S_l1Read_5 (c::r,0,0,())).bind fun x14=>
    match x14 with
    | .inl l12=>some ((l12.1,()),())
    | .inr l13=>some ((l13.1,()),()):=by
    unfold f_S_l1Read
    rw[hin,Option.bind_some,e16,show inB 0 (c::r).length=true from inB_lt (i:=0) (by simp),hb]
    simp only[Bool.not_true,cond_false,cond_true]
    cases hc48:c==48
    ·rw[cond_false,Option.bind_some];rfl
    ·have hr:r=[]:=Classical.byContradiction fun hn=>hz ⟨beq_iff_eq.1 hc48,hn⟩
     subst hr
     rfl
   rw[read_loop (by omega)] at hgo
   by_cases hd:(c::r).all isDg=true
   ·rw[if_pos hd] at hgo
    refine hl _ hgo (fun _=>rfl) fun hc h4=> ?_
    unfold canon at hc
    rw[hd,hlead,decide_eq_true h4] at hc
    cases hc
   ·rw[if_neg hd] at hgo
    refine hl _ hgo (fun hc=>absurd (canon_at hc).2.1 hd) fun _ _=>by show(-1:Int)<0;omega
 ·have e16:(decide ((s.length:Int)≥1)&&decide ((s.length:Int)≤6))=false:=by
   rw[Bool.and_eq_false_iff,decide_eq_false_iff_not,decide_eq_false_iff_not]
   omega
  refine hl (-1) ?_ (fun h=> ?_) fun _ _=>by omega
  ·unfold f_S_l1Read
   rw[hin,Option.bind_some,e16]
   rfl
  ·have h1:=(canon_at h).1
   have h2:=List.length_pos_iff.2 (canon_at h).2.2.2
   omega
theorem number_I' (s:List UInt8)(hs:s.length≤100000):f_I_readNumber s=some ((numV s,canon s,()),()):=by
 unfold f_I_readNumber numF
 rw[decide_eq_true (by omega:s.length≤1000000),cond_true,numB_canon]
end R.V
end

section
/- Ranges by their first and last line, as both sides read them. -/
open Go Go.Dn
namespace R.V
set_option linter.unusedVariables false
def twoN (s:List UInt8):Option (Nat×Nat×Bool):=match comma s with
 |none=>if canon s=true then some (dval s,dval s,false) else none
 |some (a,b)=>if canon a=true∧canon b=true then some (dval a,dval b,true) else none
def endR (less:Nat)(s:List UInt8):PVs [.int .i64,.int .i64,.bool]:=match twoN s with
 |none=>(0,0,false,())
 |some (n,m,two)=>bif decide (n≤1000)&&(decide (m≤1000)&& !(two&&decide (m+less<n))) then((n:Int),(m:Int),true,()) else(0,0,false,())
theorem twoN_one {s:List UInt8}{n m:Nat}(h:twoN s=some (n,m,false)):n=m:=by
 unfold twoN at h
 split at h
 ·split at h
  ·cases h;rfl
  ·cases h
 ·split at h
  ·cases h
  ·cases h
theorem comma_len {s a b:List UInt8}(hc:comma s=some (a,b)):a.length≤s.length∧b.length≤s.length:=by
 by_cases hm:(44:UInt8)∈s
 ·obtain⟨t,r,rfl,ht⟩:=first_of hm
  rw[comma_at r ht] at hc
  obtain⟨rfl,rfl⟩:=Prod.mk.inj (Option.some.inj hc)
  constructor<;>simp<;>omega
 ·rw[comma_no hm] at hc;cases hc
theorem readTwo_I (s:List UInt8)(hs:s.length≤100000):(∃n m t,twoN s=some (n,m,t)∧f_I_readTwo s=some (((n:Int),(m:Int),t,true,()),()))∨(twoN s=none∧∃n m t,f_I_readTwo s=some ((n,m,t,false,()),())):=by
 unfold f_I_readTwo twoN
 rw[comma_I s hs,Option.bind_some]
 cases hc:comma s with
 |none=>
  dsimp only
  rw[number_I' s hs,Option.bind_some,Bool.not_false,cond_true]
  cases hn:canon s with
  |false=>exact .inr ⟨by simp,_,_,_,rfl⟩
  |true=>exact .inl ⟨dval s,dval s,false,by simp,by rw[numV_canon hn]⟩
 |some p=>
  obtain⟨a,b⟩:=p
  obtain⟨h1,h2⟩:=comma_len hc
  dsimp only
  rw[number_I' a (by omega),Option.bind_some,Bool.not_true,cond_false,number_I' b (by omega),Option.bind_some]
  cases ha:canon a with
  |false=>exact .inr ⟨by simp,_,_,_,rfl⟩
  |true=>
   cases hb:canon b with
   |false=>exact .inr ⟨by simp,_,_,_,rfl⟩
   |true=>exact .inl ⟨dval a,dval b,true,by simp,by rw[numV_canon ha,numV_canon hb];rfl⟩
theorem readPair_S (s:List UInt8)(hs:s.length≤100000):f_S_ReadPair s=some (endR 0 s,()):=by
 have key:(∃n m t,twoN s=some (n,m,t)∧f_S_l4Two s=some ((bif decide (n≤1000)&&decide (m≤1000) then((n:Int),(m:Int),true,()) else(0,0,false,())),()))∨(twoN s=none∧f_S_l4Two s=some ((0,0,false,()),())):=by
  unfold f_S_l4Two twoN
  rw[show(44:Int)=(((44:UInt8).toNat:Nat):Int) from rfl,l1Split_S s 44 hs,Option.bind_some]
  dsimp only
  by_cases hm:(44:UInt8)∈s
  ·obtain⟨a,b,rfl,ht⟩:=first_of hm
   have hla:a.length≤100000:=by simp at hs;omega
   have hlb:b.length≤100000:=by simp at hs;omega
   rw[comma_at b ht,splitC_at b ht,show inB 0 (a::splitC 44 b).length=true from inB_lt (i:=0) (by simp),cond_true]
   rw[show(a::splitC 44 b).getD (0:Int).toNat []=a from rfl,number_S' a hla,Option.bind_some]
   dsimp only
   cases ha:canon a with
   |false=>exact .inr ⟨by simp,rfl⟩
   |true=>
    rw[Bool.not_true,cond_false,if_pos rfl]
    by_cases hb:(44:UInt8)∈b
    ·refine .inr ⟨?_,?_⟩
     ·rw[if_neg]
      intro h
      have:=canon_dg h.2 44 hb
      cases this
     ·obtain⟨b1,b2,rfl,hb1⟩:=first_of hb
      rw[splitC_at b2 hb1]
      have hlen:1≤(splitC 44 b2).length:=List.length_pos_iff.2 (splitC_ne 44 b2)
      rw[decide_eq_true (by simp;omega:((a::b1::splitC 44 b2).length:Int)>2)]
      rfl
    ·rw[splitC_not hb,show decide (((a::[b]).length:Int)>2)=false from rfl,cond_false]
     have h1:=canon_lt ha
     by_cases hn:dval a≤1000
     ·rw[decide_eq_false (by omega:¬(dval a:Int)>1000),Option.bind_some]
      dsimp only
      rw[cond_false,show(((a::[b]).length:Int)==1)=false from rfl,cond_false,show inB 1 (a::[b]).length=true from rfl,cond_true,show(a::[b]).getD (1:Int).toNat []=b from rfl,number_S' b hlb,Option.bind_some]
      dsimp only
      cases hbc:canon b with
      |false=>exact .inr ⟨by simp,rfl⟩
      |true=>
       have h2:=canon_lt hbc
       refine .inl ⟨dval a,dval b,true,by simp,?_⟩
       rw[Bool.not_true,cond_false,if_pos rfl,decide_eq_true hn,Bool.true_and]
       by_cases hmm:dval b≤1000
       ·rw[decide_eq_false (by omega:¬(dval b:Int)>1000),decide_eq_true hmm];rfl
       ·rw[decide_eq_true (by omega:(dval b:Int)>1000),decide_eq_false hmm];rfl
     ·rw[decide_eq_true (by omega:(dval a:Int)>1000),Option.bind_some]
      dsimp only
      rw[cond_true]
      cases hbc:canon b with
      |false=>exact .inr ⟨by simp,rfl⟩
      |true=>
       refine .inl ⟨dval a,dval b,true,by simp,?_⟩
       rw[decide_eq_false hn];rfl
  ·rw[comma_no hm,splitC_not hm,show inB 0 [s].length=true from rfl,cond_true,show[s].getD (0:Int).toNat []=s from rfl,number_S' s hs,Option.bind_some]
   dsimp only
   cases hn:canon s with
   |false=>exact .inr ⟨by simp,rfl⟩
   |true=>
    refine .inl ⟨dval s,dval s,false,by simp,?_⟩
    rw[Bool.not_true,cond_false,if_pos rfl,show decide (([s].length:Int)>2)=false from rfl,cond_false]
    by_cases h:dval s≤1000
    ·rw[decide_eq_false (by omega:¬(dval s:Int)>1000),decide_eq_true h];rfl
    ·rw[decide_eq_true (by omega:(dval s:Int)>1000),decide_eq_false h];rfl
 unfold f_S_ReadPair endR
 rcases key with⟨n,m,t,h1,h2⟩|⟨h1,h2⟩
 ·rw[h1,h2,Option.bind_some]
  dsimp only
  by_cases hm:n≤1000∧m≤1000
  ·rw[decide_eq_true hm.1,decide_eq_true hm.2]
   show((some ((n:Int),(m:Int),decide ((n:Int)>(m:Int)),()):Option ((PV (.int .i64)×PV (.int .i64)×PV .bool×Unit))).bind _)=some ((bif !(t&&decide (m+0<n)) then _ else _),())
   rw[Option.bind_some]
   dsimp only
   cases t with
   |false=>
    obtain rfl:=twoN_one h1
    rw[decide_eq_false (Int.lt_irrefl _)]
    rfl
   |true=>
    by_cases hlt:m+0<n
    ·rw[decide_eq_true (by omega:(n:Int)>(m:Int)),decide_eq_true hlt];rfl
    ·rw[decide_eq_false (by omega:¬(n:Int)>(m:Int)),decide_eq_false hlt];rfl
  ·have e1:(decide (n≤1000)&&decide (m≤1000))=false:=by
    rw[Bool.eq_false_iff];intro h;simp only[Bool.and_eq_true,decide_eq_true_eq] at h;exact hm h
   have e2:(decide (n≤1000)&&(decide (m≤1000)&& !(t&&decide (m+0<n))))=false:=by
    rw[←Bool.and_assoc,e1];rfl
   rw[e1,e2]
   rfl
 ·rw[h1,h2]
  rfl
theorem dec_no44 (n:Nat)(h:n<10000):(44:UInt8)∉dec n:=fun hm=>by
 have:=canon_dg (canon_dec h).1 44 hm
 cases this
end R.V
end

section
/- Steps, read: the leaves on both sides. -/
open Go Go.Dn
namespace R.V
set_option linter.unusedVariables false
theorem plain_S (s:List UInt8)(h1:1≤s.length)(hs:s.length≤100000):f_S_l1Plain s=some ((plainB s,()),()):=by
 unfold f_S_l1Plain plainB
 rw[ends_S s h1 (by omega),Option.bind_some]
 dsimp only
 cases h:endP s
 ·rfl
 ·rw[cond_true,cond_true,wrap64 (by omega) (by omega),show(s.length:Int) -1=((s.length -1:Nat):Int) by omega]
  rw[show cutB 0 ((s.length -1:Nat):Int) s.length=true from by unfold cutB;simp,cond_true]
  unfold cutL
  simp
theorem plainB_le (s:List UInt8):(plainB s).length≤s.length:=by
 unfold plainB
 cases endP s
 ·exact Nat.le_refl _
 ·rw[cond_true,List.length_take];omega
theorem plainB_end (t:List UInt8):plainB (t++[10])=t:=by
 unfold plainB endP
 simp
def sg3:List UInt8:=[97,99,100]
theorem iany_rng (ch:List UInt8):∀l:List UInt8,Lib.indexAny l ch= -1∨(0≤Lib.indexAny l ch∧Lib.indexAny l ch<(l.length:Int))
 |[]=>.inl rfl
 |b::l=>by
  have ih:=iany_rng ch l
  unfold Lib.indexAny
  split
  ·right;simp only[List.length_cons];omega
  ·split
   ·left;rfl
   ·rename_i h
    rcases ih with ih|ih
    ·rw[ih] at h;exact absurd rfl h
    ·right;simp only[List.length_cons];omega
theorem iany_at {ch:List UInt8}{c:UInt8}(r:List UInt8)(hc:ch.contains c=true):∀{p:List UInt8},(∀b∈p,ch.contains b=false)→Lib.indexAny (p++c::r) ch=(p.length:Int)
 |[],_=>by
  show Lib.indexAny (c::r) ch=0
  unfold Lib.indexAny
  rw[if_pos hc]
 |b::p,h=>by
  have ih:=iany_at (p:=p) r hc fun x hx=>h x (List.mem_cons_of_mem _ hx)
  show Lib.indexAny (b::(p++c::r)) ch=_
  unfold Lib.indexAny
  rw[h b (List.mem_cons_self ..),ih]
  have:¬((p.length:Int)==-1)=true:=by simp
  rw[if_neg (by simp),if_neg this,List.length_cons]
  omega
theorem any_I (s:List UInt8)(hs:s.length≤100000):f_strings_IndexAny s [97,99,100]=some ((Lib.indexAny s sg3,()),()):=by
 unfold f_strings_IndexAny indexAnyF
 rw[decide_eq_true (by omega:s.length≤4000000000)]
 rfl
theorem cutB_drop {n j:Nat}(h:j≤n):cutB (j:Int) (n:Int) n=true:=by unfold cutB;simp;omega
theorem cutB_take {n j:Nat}(h:j≤n):cutB 0 (j:Int) n=true:=by unfold cutB;simp;omega
theorem cutL_drop {α:Type}(j:Nat)(l:List α):cutL (j:Int) (l.length:Int) l=l.drop j:=by unfold cutL;rw[toNat_cast,toNat_cast,List.take_length]
theorem cutL_take {α:Type}(j:Nat)(l:List α):cutL 0 (j:Int) l=l.take j:=by unfold cutL;rw[toNat_cast];rfl
theorem drop_one {α:Type}(l:α)(ls:List α):cutL 1 ((l::ls).length:Int) (l::ls)=ls:=by
 unfold cutL
 rw[toNat_cast,List.take_length]
 rfl
theorem drop_ok {α:Type}(l:α)(ls:List α):cutB 1 ((l::ls).length:Int) (l::ls).length=true:=by
 unfold cutB;simp;omega
end R.V
end

section
/- Steps, read: ranges written are read back; lines that end. -/
open Go Go.Dn
namespace R.V
set_option linter.unusedVariables false
theorem line_isL {s:List UInt8}(h1:lineP s=true)(h2:endP s=true):isL s:=by
 unfold lineP at h1
 rw[Bool.and_eq_true,Bool.not_eq_true'] at h1
 unfold hasEnd at h1
 unfold endP at h2
 refine⟨s.take (s.length -1),?_,fun hm=> ?_⟩
 ·have:=List.take_append_drop (s.length -1) s
  rw[eq_of_beq h2] at this
  exact this.symm
 ·have:(s.take (s.length -1)).contains 10=true:=by simpa using hm
  rw[this] at h1
  cases h1.2
theorem pairT_ch {a b:Nat}(ha:a<10000)(hb:b<10000):∀c∈pairT a b,isDg c=true∨c=44:=by
 intro c hc
 unfold pairT at hc
 split at hc
 ·exact .inl (canon_dg (canon_dec ha).1 c hc)
 ·rcases List.mem_append.1 hc with hc|hc
  ·rcases List.mem_append.1 hc with hc|hc
   ·exact .inl (canon_dg (canon_dec ha).1 c hc)
   ·exact .inr (List.mem_singleton.1 hc)
  ·exact .inl (canon_dg (canon_dec hb).1 c hc)
theorem twoN_pair {a b:Nat}(ha:a<10000)(hb:b<10000):∃t,twoN (pairT a b)=some (a,b,t):=by
 obtain⟨c1,c2⟩:=canon_dec ha
 obtain⟨c3,c4⟩:=canon_dec hb
 unfold pairT twoN
 by_cases h:a=b
 ·rw[if_pos h,comma_no (dec_no44 _ ha)]
  dsimp only
  rw[if_pos c1,c2,←h]
  exact⟨_,rfl⟩
 ·rw[if_neg h,show(dec a++[44])++dec b=dec a++44::dec b from by simp,comma_at _ (dec_no44 _ ha)]
  dsimp only
  rw[if_pos ⟨c1,c3⟩,c2,c4]
  exact⟨_,rfl⟩
theorem endR_pair {a b:Nat}(hab:a≤b)(hb:b≤1000):endR 0 (pairT a b)=((a:Int),(b:Int),true,()):=by
 obtain⟨t,h⟩:=twoN_pair (a:=a) (b:=b) (by omega) (by omega)
 unfold endR
 rw[h]
 dsimp only
 have:(decide (a≤1000)&&(decide (b≤1000)&& !(t&&decide (b+0<a))))=true:=by
  rw[decide_eq_true (by omega),decide_eq_true (by omega),decide_eq_false (by omega)]
  simp
 rw[this]
 rfl
theorem tot_le {e:TypeId}{t:Ty}{c:Nat}:∀{l:List (PV t)},(∀x∈l,tot t x≤c)→tot (.slice e t) l≤(c+1)*l.length:=by
 intro l h
 have:tot (.slice e t) l=l.length+(l.map (tot t)).sum:=tot_slice
 rw[this]
 have hs:(l.map (tot t)).sum≤c*l.length:=by
  clear this
  induction l with
  |nil=>simp
  |cons x l ih=>
   have h1:=h x (List.mem_cons_self ..)
   have h2:=ih fun y hy=>h y (List.mem_cons_of_mem _ hy)
   rw[List.map_cons,List.sum_cons,List.length_cons,Nat.mul_add]
   omega
 rw[Nat.add_mul,Nat.one_mul]
 omega
end R.V
end

section
/- Steps: what is good, how it is written, and the lines of what is written. -/
open Go Go.Dn
namespace R.V
set_option linter.unusedVariables false
abbrev SR:=List (PV Y_impl_Step)
def sideP (a b:Int)(l:TX):Bool:=inI a 0 1000&&(inI b 0 1000&&(goodP l&&(if l.length=0 then b==a else decide (a≥1)&&(b -a+1==(l.length:Int)))))
def stepP (x:PV Y_impl_Step):Bool:=sideP x.1 x.2.1 x.2.2.1&&(sideP x.2.2.2.1 x.2.2.2.2.1 x.2.2.2.2.2.1&&decide (0<List.length x.2.2.1+List.length x.2.2.2.2.2.1))
def stepsP (l:SR):Bool:=decide (l.length≤20)&& !(l.any fun x=> !stepP x)
def noneL:List UInt8:=[92,32,110,111,110,101,10]
def ltL:List UInt8:=[60,32]
def gtL:List UInt8:=[62,32]
def midL:List UInt8:=[45,45,45,10]
def shownT (g s:List UInt8):List UInt8:=if endP s=true then g++s else((g++s)++[10])++noneL
def allT (g:List UInt8)(l:TX):List UInt8:=l.flatMap (shownT g)
def wordC (x:PV Y_impl_Step):UInt8:=if List.length x.2.2.1=0 then 97 else if List.length x.2.2.2.2.2.1=0 then 100 else 99
def midT (x:PV Y_impl_Step):List UInt8:=if List.length x.2.2.1=0 then[] else if List.length x.2.2.2.2.2.1=0 then[] else midL
def headT (x:PV Y_impl_Step):List UInt8:=((pairT x.1.toNat x.2.1.toNat++[wordC x])++pairT x.2.2.2.1.toNat x.2.2.2.2.1.toNat)++[10]
def stepT (x:PV Y_impl_Step):List UInt8:=((headT x++allT ltL x.2.2.1)++midT x)++allT gtL x.2.2.2.2.2.1
def textP (l:SR):List UInt8:=l.flatMap stepT
def endsG:TX→Prop
 |[]=>True
 |[_]=>True
 |s::t::r=>endP s=true∧endsG (t::r)
theorem endsG_of:∀{l:TX},(∀i,i+1<l.length→endP (l.getD i [])=true)→endsG l
 |[],_=>trivial
 |[_],_=>trivial
 |s::t::r,h=>⟨h 0 (by simp),endsG_of fun i hi=>by
   have:=h (i+1) (by simp only[List.length_cons] at hi ⊢;omega)
   simpa using this⟩
theorem good_lines {l:TX}(h:goodP l=true):l.length≤40∧(∀s∈l,lineP s=true)∧endsG l:=by
 unfold goodP linesP endsP at h
 simp only[Bool.and_eq_true,decide_eq_true_eq,Bool.not_eq_true'] at h
 refine⟨h.1.1,fun s hs=> ?_,endsG_of fun i hi=> ?_⟩
 ·have:=List.any_eq_false.1 h.1.2 s hs
  simpa using this
 ·cases he:endP (l.getD i []) with
  |true=>rfl
  |false=>
   have:anyN l.length (fun k=>decide ((k:Int)<(l.length:Int) -1)&& !(endP (l.getD k [])))=true:=anyN_iff.2 ⟨i,by omega,by rw[he,decide_eq_true (by omega)];rfl⟩
   rw[h.2] at this
   cases this
theorem side_ok {a b:Int}{l:TX}(h:sideP a b l=true):∃n m:Nat,a=(n:Int)∧b=(m:Int)∧n≤m∧m≤1000∧goodP l=true:=by
 unfold sideP inI at h
 simp only[Bool.and_eq_true,decide_eq_true_eq] at h
 obtain⟨⟨h1,h2⟩,⟨h3,h4⟩,h5,h6⟩:=h
 refine⟨a.toNat,b.toNat,(Int.toNat_of_nonneg h1).symm,(Int.toNat_of_nonneg h3).symm,?_,by omega,h5⟩
 by_cases h0:l.length=0
 ·rw[if_pos h0,beq_iff_eq] at h6
  omega
 ·rw[if_neg h0,Bool.and_eq_true,decide_eq_true_eq,beq_iff_eq] at h6
  omega
theorem step_ok {x:PV Y_impl_Step}(h:stepP x=true):sideP x.1 x.2.1 x.2.2.1=true∧sideP x.2.2.2.1 x.2.2.2.2.1 x.2.2.2.2.2.1=true∧0<List.length x.2.2.1+List.length x.2.2.2.2.2.1:=by
 unfold stepP at h
 rw[Bool.and_eq_true,Bool.and_eq_true,decide_eq_true_eq] at h
 exact⟨h.1,h.2.1,h.2.2⟩
theorem steps_at {l:SR}(h:stepsP l=true):l.length≤20∧∀x∈l,stepP x=true:=by
 unfold stepsP at h
 rw[Bool.and_eq_true,decide_eq_true_eq,Bool.not_eq_true'] at h
 refine⟨h.1,fun x hx=> ?_⟩
 have:=List.any_eq_false.1 h.2 x hx
 simpa using this
theorem shownT_len {g s:List UInt8}(hg:g.length=2)(h:lineP s=true):(shownT g s).length≤40:=by
 have:=line_len h
 unfold shownT
 split
 ·rw[List.length_append];omega
 ·simp only[List.length_append,List.length_cons,List.length_nil,noneL];omega
theorem allT_len {g:List UInt8}(hg:g.length=2):∀{l:TX},(∀s∈l,lineP s=true)→(allT g l).length≤40*l.length
 |[],_=>Nat.le_refl _
 |s::l,h=>by
  have h1:=shownT_len hg (h s (List.mem_cons_self ..))
  have h2:=allT_len hg (l:=l) fun y hy=>h y (List.mem_cons_of_mem _ hy)
  unfold allT at h2 ⊢
  rw[List.flatMap_cons,List.length_append,List.length_cons,Nat.mul_add]
  omega
theorem headT_len {x:PV Y_impl_Step}(h:stepP x=true):(headT x).length≤100:=by
 obtain⟨h1,h2,_⟩:=step_ok h
 obtain⟨a,b,ea,eb,hab,hb,_⟩:=side_ok h1
 obtain⟨c,d,ec,ed,hcd,hd,_⟩:=side_ok h2
 have h3:=pairT_len (a:=a) (b:=b) (by omega) (by omega)
 have h4:=pairT_len (a:=c) (b:=d) (by omega) (by omega)
 unfold headT
 rw[ea,eb,ec,ed,toNat_cast,toNat_cast,toNat_cast,toNat_cast]
 simp only[List.length_append,List.length_cons,List.length_nil];omega
theorem stepT_len {x:PV Y_impl_Step}(h:stepP x=true):(stepT x).length≤4000:=by
 obtain⟨h1,h2,_⟩:=step_ok h
 obtain⟨_,_,_,_,_,_,g1⟩:=side_ok h1
 obtain⟨_,_,_,_,_,_,g2⟩:=side_ok h2
 obtain⟨l1,m1,_⟩:=good_lines g1
 obtain⟨l2,m2,_⟩:=good_lines g2
 have a1:=allT_len (g:=ltL) rfl m1
 have a2:=allT_len (g:=gtL) rfl m2
 have a3:=headT_len h
 have a4:(midT x).length≤4:=by
  unfold midT
  split
  ·exact Nat.zero_le _
  ·split
   ·exact Nat.zero_le _
   ·decide
 unfold stepT
 simp only[List.length_append];omega
def shownL (g s:List UInt8):TX:=if endP s=true then[g++s] else[(g++s)++[10],noneL]
def allL (g:List UInt8)(l:TX):TX:=l.flatMap (shownL g)
def midLs (x:PV Y_impl_Step):TX:=if List.length x.2.2.1=0 then[] else if List.length x.2.2.2.2.2.1=0 then[] else[midL]
def stepL (x:PV Y_impl_Step):TX:=headT x::(allL ltL x.2.2.1++(midLs x++allL gtL x.2.2.2.2.2.1))
theorem shownL_flat (g s:List UInt8):(shownL g s).flatten=shownT g s:=by
 unfold shownL shownT
 split
 ·simp
 ·simp
theorem allL_flat (g:List UInt8):∀l:TX,(allL g l).flatten=allT g l
 |[]=>rfl
 |s::l=>by
  have:=allL_flat g l
  unfold allL allT at this ⊢
  rw[List.flatMap_cons,List.flatMap_cons,List.flatten_append,this,shownL_flat]
theorem stepL_flat (x:PV Y_impl_Step):(stepL x).flatten=stepT x:=by
 unfold stepL stepT
 rw[List.flatten_cons,List.flatten_append,List.flatten_append,allL_flat,allL_flat]
 have:(midLs x).flatten=midT x:=by
  unfold midLs midT
  split
  ·rfl
  ·split
   ·rfl
   ·simp
 rw[this]
 simp only[List.append_assoc]
theorem textP_flat:∀l:SR,(l.flatMap stepL).flatten=textP l
 |[]=>rfl
 |x::l=>by
  have:=textP_flat l
  unfold textP at this ⊢
  rw[List.flatMap_cons,List.flatMap_cons,List.flatten_append,this,stepL_flat]
theorem noneL_isL:isL noneL:=⟨[92,32,110,111,110,101],rfl,by decide⟩
theorem midL_isL:isL midL:=⟨[45,45,45],rfl,by decide⟩
theorem no_end {s:List UInt8}(h1:lineP s=true)(h2:endP s=false):(10:UInt8)∉s:=by
 intro hm
 have hl:=line_len h1
 unfold lineP at h1
 rw[Bool.and_eq_true,Bool.not_eq_true'] at h1
 have h3:=h1.2
 unfold hasEnd at h3
 unfold endP at h2
 have hs:=List.take_append_drop (s.length -1) s
 rw[←hs] at hm
 rcases List.mem_append.1 hm with hm|hm
 ·have:(s.take (s.length -1)).contains 10=true:=by simpa using hm
  rw[this] at h3
  cases h3
 ·have hlen:(s.drop (s.length -1)).length=1:=by rw[List.length_drop];omega
  obtain⟨c,hc⟩:=List.length_eq_one_iff.1 hlen
  rw[hc] at hm h2
  obtain rfl:=List.mem_singleton.1 hm
  simp at h2
theorem shown_isL {g s:List UInt8}(hg:(10:UInt8)∉g)(h:lineP s=true):∀l∈shownL g s,isL l:=by
 intro l hl
 unfold shownL at hl
 split at hl
 ·rename_i h2
  obtain rfl:=List.mem_singleton.1 hl
  obtain⟨t,rfl,ht⟩:=line_isL h h2
  exact⟨g++t,(List.append_assoc ..).symm,fun hm=>by rcases List.mem_append.1 hm with hm|hm;exact hg hm;exact ht hm⟩
 ·rename_i h2
  rcases List.mem_cons.1 hl with rfl|hl
  ·exact⟨g++s,rfl,fun hm=>by rcases List.mem_append.1 hm with hm|hm;exact hg hm;exact no_end h (by simpa using h2) hm⟩
  ·obtain rfl:=List.mem_singleton.1 hl
   exact noneL_isL
theorem all_isL {g:List UInt8}(hg:(10:UInt8)∉g){l:TX}(h:∀s∈l,lineP s=true):∀x∈allL g l,isL x:=by
 intro x hx
 obtain⟨s,hs,hx⟩:=List.mem_flatMap.1 hx
 exact shown_isL hg (h s hs) x hx
end R.V
end

section
/- Steps: both sides test them alike, and write the same. -/
open Go Go.Dn
namespace R.V
set_option linter.unusedVariables false
theorem areLines_I (t0:List (List UInt8))(hs:Sm t0):f_I_areLines t0=some ((linesP t0,()),()):=by
 unfold f_I_areLines linesP
 by_cases hl:t0.length≤40
 ·rw[decide_eq_true (by omega:(t0.length:Int)≤40),cond_true,decide_eq_true hl,Bool.true_and]
  rw[show w_I_areLines_264_2 (t0,false,t0,(t0.length:Int),true,true,t0,t0,false,t0,t0,(t0.length:Int),0,())=_ from
   fix_any (B:=fun d=>b_I_areLines_264_2 d.1 d.2.1 d.2.2.1 d.2.2.2.1 d.2.2.2.2.1 d.2.2.2.2.2.1 d.2.2.2.2.2.2.1 d.2.2.2.2.2.2.2.1 d.2.2.2.2.2.2.2.2.1 d.2.2.2.2.2.2.2.2.2.1 d.2.2.2.2.2.2.2.2.2.2.1 d.2.2.2.2.2.2.2.2.2.2.2.1 d.2.2.2.2.2.2.2.2.2.2.2.2.1) t0 (fun s=> !lineP s)
   (fun i=>(t0,false,t0,(t0.length:Int),true,true,t0,t0,false,t0,t0,(t0.length:Int),(i:Int),())) (fun i=>.inr (t0,false,t0,(t0.length:Int),true,true,t0,t0,false,t0,(i:Int),())) (.inl (t0,false,t0,(t0.length:Int),true,true,t0,t0,false,t0,()))
   (fun i hi hq=>by
     show b_I_areLines_264_2 _ _ _ _ _ _ _ _ _ _ t0 t0.length i=_
     unfold b_I_areLines_264_2 f_I_areLines_1
     rw[decide_eq_true (by omega:(i:Int)<(t0.length:Int)),cond_true,inB_lt hi,cond_true,toNat_cast,getD_of hi,line_I _ (hs.mem hi),Option.bind_some,Option.bind_some]
     dsimp only
     rw[hq,cond_false,wrap64 (by omega) (by omega)];rfl)
   (fun i hi hq=>by
     show b_I_areLines_264_2 _ _ _ _ _ _ _ _ _ _ t0 t0.length i=_
     unfold b_I_areLines_264_2 f_I_areLines_1
     rw[decide_eq_true (by omega:(i:Int)<(t0.length:Int)),cond_true,inB_lt hi,cond_true,toNat_cast,getD_of hi,line_I _ (hs.mem hi),Option.bind_some,Option.bind_some]
     dsimp only
     rw[hq,cond_true])
   (by
     show b_I_areLines_264_2 _ _ _ _ _ _ _ _ _ _ t0 t0.length t0.length=_
     unfold b_I_areLines_264_2
     rw[decide_eq_false (Int.lt_irrefl _),cond_false])]
  cases h:t0.any fun s=> !lineP s
  ·rfl
  ·simp
 ·rw[decide_eq_false (by omega:¬(t0.length:Int)≤40),cond_false,decide_eq_false hl];rfl
theorem goodLines_I (t0:List (List UInt8))(hs:Sm t0):f_I_goodLines t0=some ((goodP t0,()),()):=by
 have hl:=hs.len
 unfold f_I_goodLines goodP
 rw[areLines_I t0 hs,Option.bind_some]
 dsimp only
 cases linesP t0
 ·rfl
 ·rw[Bool.not_true,cond_false]
  have hw:IntKind.wrap .i64 ((t0.length:Int) -1)=(t0.length:Int) -1:=wrap64 (by omega) (by omega)
  have hr:∀i,i<t0.length→((bif decide ((i:Int)<(t0.length:Int) -1) then(f_I_isEnded (t0.getD i [])).bind fun r7=>some (t0,t0,(t0.length:Int),(i:Int), !r7.1.1,()) else some (t0,t0,(t0.length:Int),(i:Int),false,())):Option (PV S_string×PV S_string×Int×Int×Bool×Unit))=
   some (t0,t0,(t0.length:Int),(i:Int),decide ((i:Int)<(t0.length:Int) -1)&& !(endP (t0.getD i [])),()):=by
   intro i hi
   cases decide ((i:Int)<(t0.length:Int) -1)
   ·rfl
   ·rw[cond_true,getD_of hi,ends_I _ (hs.mem hi)];rfl
  rw[show w_I_goodLines_4 (t0,t0,(t0.length:Int),0,())=_ from fix_anyN (B:=fun d=>b_I_goodLines_4 d.1 d.2.1 d.2.2.1 d.2.2.2.1) t0.length (fun k=>decide ((k:Int)<(t0.length:Int) -1)&& !(endP (t0.getD k [])))
   (fun i=>(t0,t0,(t0.length:Int),(i:Int),())) (fun _=>.inr (false,())) (.inl ())
   (fun i hi hq=>by
     show b_I_goodLines_4 t0 t0 t0.length i=_
     unfold b_I_goodLines_4
     rw[decide_eq_true (by omega:(i:Int)<(t0.length:Int)),cond_true,inB_lt hi,cond_true,toNat_cast,hw,hr i hi,hq,Option.bind_some]
     dsimp only
     rw[cond_false,wrap64 (by omega) (by omega)];rfl)
   (fun i hi hq=>by
     show b_I_goodLines_4 t0 t0 t0.length i=_
     unfold b_I_goodLines_4
     rw[decide_eq_true (by omega:(i:Int)<(t0.length:Int)),cond_true,inB_lt hi,cond_true,toNat_cast,hw,hr i hi,hq,Option.bind_some]
     rfl)
   (by
     show b_I_goodLines_4 t0 t0 t0.length t0.length=_
     unfold b_I_goodLines_4
     rw[decide_eq_false (Int.lt_irrefl _),cond_false])]
  unfold endsP
  cases anyN t0.length fun k=>decide ((k:Int)<(t0.length:Int) -1)&& !(endP (t0.getD k []))<;>rfl
theorem l5Lines_S (t0:List (List UInt8))(hs:Sm t0):f_S_l5Lines t0=some ((goodP t0,()),()):=by
 have hl:=hs.len
 unfold f_S_l5Lines
 have hw:IntKind.wrap .i64 ((t0.length:Int) -1)=(t0.length:Int) -1:=wrap64 (by omega) (by omega)
 have hr:∀i,i<t0.length→(((f_S_l1Line (t0.getD i [])).bind fun r4=>bif !r4.1.1 then some (t0,t0,(t0.length:Int),(i:Int),true,()) else
  bif decide ((i:Int)<(t0.length:Int) -1) then(f_S_l1Ends (t0.getD i [])).bind fun r5=>some (t0,t0,(t0.length:Int),(i:Int), !r5.1.1,()) else some (t0,t0,(t0.length:Int),(i:Int),false,())):Option (PV S_string×PV S_string×Int×Int×Bool×Unit))=
  some (t0,t0,(t0.length:Int),(i:Int), !(lineP (t0.getD i []))||(decide ((i:Int)<(t0.length:Int) -1)&& !(endP (t0.getD i []))),()):=by
  intro i hi
  rw[getD_of hi,line_S _ (hs.mem hi),Option.bind_some]
  dsimp only
  cases hL:lineP t0[i]
  ·rfl
  ·rw[Bool.not_true,cond_false,Bool.false_or]
   cases decide ((i:Int)<(t0.length:Int) -1)
   ·rfl
   ·rw[cond_true,ends_S _ (line_len hL).1 (hs.mem hi)];rfl
 rw[show w_S_l5Lines_2 (t0,t0,(t0.length:Int),0,())=_ from fix_anyN (B:=fun d=>b_S_l5Lines_2 d.1 d.2.1 d.2.2.1 d.2.2.2.1) t0.length (fun k=> !(lineP (t0.getD k []))||(decide ((k:Int)<(t0.length:Int) -1)&& !(endP (t0.getD k []))))
    (fun i=>(t0,t0,(t0.length:Int),(i:Int),())) (fun _=>.inr (false,())) (.inl (t0,()))
    (fun i hi hq=>by
      show b_S_l5Lines_2 t0 t0 t0.length i=_
      unfold b_S_l5Lines_2
      rw[decide_eq_true (by omega:(i:Int)<(t0.length:Int)),cond_true,inB_lt hi,cond_true,toNat_cast,hw,hr i hi,hq,Option.bind_some]
      dsimp only
      rw[cond_false,wrap64 (by omega) (by omega)];rfl)
    (fun i hi hq=>by
      show b_S_l5Lines_2 t0 t0 t0.length i=_
      unfold b_S_l5Lines_2
      rw[decide_eq_true (by omega:(i:Int)<(t0.length:Int)),cond_true,inB_lt hi,cond_true,toNat_cast,hw,hr i hi,hq,Option.bind_some]
      rfl)
    (by
      show b_S_l5Lines_2 t0 t0 t0.length t0.length=_
      unfold b_S_l5Lines_2
      rw[decide_eq_false (Int.lt_irrefl _),cond_false])]
 rw[anyN_or,show(anyN t0.length fun k=> !(lineP (t0.getD k [])))=t0.any fun s=> !lineP s from anyN_list (f:=fun s=> !lineP s)]
 unfold goodP linesP endsP
 cases t0.any fun s=> !lineP s
 ·cases anyN t0.length fun k=>decide ((k:Int)<(t0.length:Int) -1)&& !(endP (t0.getD k []))
  ·simp;omega
  ·simp
 ·simp
theorem told_I (a b:Int)(l:TX)(hs:Sm l):f_I_isTold a b l=some ((sideP a b l,()),()):=by
 unfold f_I_isTold sideP
 rw[in_I,in_I,goodLines_I l hs,Option.bind_some,Option.bind_some,Option.bind_some]
 dsimp only
 have hl:=hs.len
 unfold inI
 cases h1:(decide (a≥0)&&decide (a≤1000))
 ·rfl
 ·rw[Bool.not_true,cond_false]
  cases h2:(decide (b≥0)&&decide (b≤1000))
  ·rfl
  ·rw[Bool.not_true,cond_false]
   simp only[Bool.and_eq_true,decide_eq_true_eq] at h1 h2
   cases h3:goodP l
   ·rfl
   ·rw[Bool.not_true,Option.bind_some]
    dsimp only
    rw[cond_false]
    by_cases h0:l.length=0
    ·rw[if_pos h0,show((l.length:Int)==0)=true from by rw[h0];rfl,cond_true]
     rw[show(a==b)=(b==a) from by rw[Bool.eq_iff_iff,beq_iff_eq,beq_iff_eq];exact eq_comm]
     rfl
    ·rw[if_neg h0,show((l.length:Int)==0)=false from beq_eq_false_iff_ne.2 (by omega),cond_false,wrap64 (x:=b -a) (by omega) (by omega),wrap64 (x:=b -a+1) (by omega) (by omega)]
     cases decide (a≥1)<;>rfl
theorem side_S (a b:Int)(l:TX)(hs:Sm l):f_S_l5Side a b l=some ((sideP a b l,()),()):=by
 unfold f_S_l5Side sideP
 rw[in_S,in_S,l5Lines_S l hs,Option.bind_some,Option.bind_some,Option.bind_some]
 dsimp only
 have hl:=hs.len
 unfold inI
 cases h1:(decide (a≥0)&&decide (a≤1000))
 ·rfl
 ·rw[Bool.not_true,cond_false]
  cases h2:(decide (b≥0)&&decide (b≤1000))
  ·rfl
  ·rw[Bool.not_true,cond_false]
   simp only[Bool.and_eq_true,decide_eq_true_eq] at h1 h2
   cases h3:goodP l
   ·rfl
   ·rw[Bool.not_true,Option.bind_some]
    dsimp only
    rw[cond_false]
    by_cases h0:l.length=0
    ·rw[if_pos h0,show((l.length:Int)==0)=true from by rw[h0];rfl,cond_true]
     rfl
    ·rw[if_neg h0,show((l.length:Int)==0)=false from beq_eq_false_iff_ne.2 (by omega),cond_false,wrap64 (x:=b -a) (by omega) (by omega),wrap64 (x:=b -a+1) (by omega) (by omega)]
     cases decide (a≥1)<;>rfl
def SmS (x:PV Y_impl_Step):Prop:=Sm x.2.2.1∧Sm x.2.2.2.2.2.1
theorem step_I1 (x:PV Y_impl_Step)(hs:SmS x)(hl:List.length x.2.2.1+List.length x.2.2.2.2.2.1≤4611686018427387904):f_I_goodSteps_1 x=some ((!stepP x,()),()):=by
 unfold f_I_goodSteps_1 stepP
 rw[told_I _ _ _ hs.1,told_I _ _ _ hs.2,Option.bind_some,Option.bind_some]
 dsimp only
 cases sideP x.1 x.2.1 x.2.2.1
 ·rfl
 ·cases sideP x.2.2.2.1 x.2.2.2.2.1 x.2.2.2.2.2.1
  ·rfl
  ·rw[Bool.not_true,cond_false,cond_false,wrap64 (by omega) (by omega)]
   by_cases h:0<List.length x.2.2.1+List.length x.2.2.2.2.2.1
   ·rw[decide_eq_true h,show(((List.length x.2.2.1:Int)+(List.length x.2.2.2.2.2.1:Int))==0)=false from beq_eq_false_iff_ne.2 (by omega)];rfl
   ·rw[decide_eq_false h,show(((List.length x.2.2.1:Int)+(List.length x.2.2.2.2.2.1:Int))==0)=true from beq_iff_eq.2 (by omega)];rfl
theorem step_S1 (x:PV Y_impl_Step)(hs:SmS x)(hl:List.length x.2.2.1+List.length x.2.2.2.2.2.1≤4611686018427387904):f_S_l5Step x=some ((stepP x,()),()):=by
 unfold f_S_l5Step stepP
 rw[side_S _ _ _ hs.1,side_S _ _ _ hs.2,Option.bind_some,Option.bind_some]
 dsimp only
 cases sideP x.1 x.2.1 x.2.2.1
 ·rfl
 ·cases sideP x.2.2.2.1 x.2.2.2.2.1 x.2.2.2.2.2.1
  ·rfl
  ·rw[cond_true,cond_true,wrap64 (by omega) (by omega),Bool.true_and,Bool.true_and]
   by_cases h:0<List.length x.2.2.1+List.length x.2.2.2.2.2.1
   ·rw[decide_eq_true h,decide_eq_true (by omega)]
   ·rw[decide_eq_false h,decide_eq_false (by omega)]
theorem SmS.at {l:SR}(hs:tot S_impl_Step l≤4611686018427387904){i:Nat}(hi:i<l.length):SmS l[i]∧List.length l[i].2.2.1+List.length l[i].2.2.2.2.2.1≤4611686018427387904:=by
 have h:=Nat.le_trans (tot_mem (e:=103) (t:=Y_impl_Step) hi) hs
 simp only[tot] at h
 refine⟨⟨Sm.of (n:=4611686018427387904) ?_ (Nat.le_refl _),Sm.of (n:=4611686018427387904) ?_ (Nat.le_refl _)⟩,?_⟩
 ·simp only[tot];omega
 ·simp only[tot];omega
 ·omega
theorem steps_S (t0:SR)(hs:tot S_impl_Step t0≤4611686018427387904):f_S_GoodSteps t0=some ((stepsP t0,()),()):=by
 have hl:t0.length≤4611686018427387904:=Nat.le_trans (Nat.le_add_right _ _) (tot_slice (e:=103) (t:=Y_impl_Step)▸hs)
 unfold f_S_GoodSteps
 rw[show w_S_GoodSteps_2 (t0,t0,(t0.length:Int),0,())=_ from fix_any (B:=fun d=>b_S_GoodSteps_2 d.1 d.2.1 d.2.2.1 d.2.2.2.1) t0 (fun x=> !stepP x) (fun i=>(t0,t0,(t0.length:Int),(i:Int),())) (fun _=>.inr (false,())) (.inl (t0,()))
  (fun i hi hq=>by
    show b_S_GoodSteps_2 t0 t0 t0.length i=_
    unfold b_S_GoodSteps_2
    rw[decide_eq_true (by omega:(i:Int)<(t0.length:Int)),cond_true,inB_lt hi,cond_true,toNat_cast,getD_of hi,step_S1 _ (SmS.at hs hi).1 (SmS.at hs hi).2,Option.bind_some]
    dsimp only
    rw[hq,cond_false,wrap64 (by omega) (by omega)];rfl)
  (fun i hi hq=>by
    show b_S_GoodSteps_2 t0 t0 t0.length i=_
    unfold b_S_GoodSteps_2
    rw[decide_eq_true (by omega:(i:Int)<(t0.length:Int)),cond_true,inB_lt hi,cond_true,toNat_cast,getD_of hi,step_S1 _ (SmS.at hs hi).1 (SmS.at hs hi).2,Option.bind_some]
    dsimp only
    rw[hq,cond_true])
  (by
    show b_S_GoodSteps_2 t0 t0 t0.length t0.length=_
    unfold b_S_GoodSteps_2
    rw[decide_eq_false (Int.lt_irrefl _),cond_false])]
 unfold stepsP
 cases h:t0.any fun x=> !stepP x
 ·simp;omega
 ·simp
theorem steps_I (t0:SR)(hs:tot S_impl_Step t0≤4611686018427387904):f_I_goodSteps t0=some ((stepsP t0,()),()):=by
 unfold f_I_goodSteps stepsP
 by_cases hl:t0.length≤20
 ·rw[decide_eq_true (by omega:(t0.length:Int)≤20),cond_true,decide_eq_true hl,Bool.true_and]
  rw[show w_I_goodSteps_204_2 (t0,false,t0,(t0.length:Int),true,true,t0,t0,false,t0,t0,(t0.length:Int),0,())=_ from
   fix_any (B:=fun d=>b_I_goodSteps_204_2 d.1 d.2.1 d.2.2.1 d.2.2.2.1 d.2.2.2.2.1 d.2.2.2.2.2.1 d.2.2.2.2.2.2.1 d.2.2.2.2.2.2.2.1 d.2.2.2.2.2.2.2.2.1 d.2.2.2.2.2.2.2.2.2.1 d.2.2.2.2.2.2.2.2.2.2.1 d.2.2.2.2.2.2.2.2.2.2.2.1 d.2.2.2.2.2.2.2.2.2.2.2.2.1) t0 (fun x=> !stepP x)
   (fun i=>(t0,false,t0,(t0.length:Int),true,true,t0,t0,false,t0,t0,(t0.length:Int),(i:Int),())) (fun i=>.inr (t0,false,t0,(t0.length:Int),true,true,t0,t0,false,t0,(i:Int),())) (.inl (t0,false,t0,(t0.length:Int),true,true,t0,t0,false,t0,()))
   (fun i hi hq=>by
     show b_I_goodSteps_204_2 _ _ _ _ _ _ _ _ _ _ t0 t0.length i=_
     unfold b_I_goodSteps_204_2
     rw[decide_eq_true (by omega:(i:Int)<(t0.length:Int)),cond_true,inB_lt hi,cond_true,toNat_cast,getD_of hi,step_I1 _ (SmS.at hs hi).1 (SmS.at hs hi).2,Option.bind_some]
     dsimp only
     rw[hq,cond_false,wrap64 (by omega) (by omega)];rfl)
   (fun i hi hq=>by
     show b_I_goodSteps_204_2 _ _ _ _ _ _ _ _ _ _ t0 t0.length i=_
     unfold b_I_goodSteps_204_2
     rw[decide_eq_true (by omega:(i:Int)<(t0.length:Int)),cond_true,inB_lt hi,cond_true,toNat_cast,getD_of hi,step_I1 _ (SmS.at hs hi).1 (SmS.at hs hi).2,Option.bind_some]
     dsimp only
     rw[hq,cond_true])
   (by
     show b_I_goodSteps_204_2 _ _ _ _ _ _ _ _ _ _ t0 t0.length t0.length=_
     unfold b_I_goodSteps_204_2
     rw[decide_eq_false (Int.lt_irrefl _),cond_false])]
  cases h:t0.any fun x=> !stepP x
  ·rfl
  ·simp
 ·rw[decide_eq_false (by omega:¬(t0.length:Int)≤20),cond_false,decide_eq_false hl];rfl
end R.V
end

section
/- Steps: both sides write the same text. -/
open Go Go.Dn
namespace R.V
set_option linter.unusedVariables false
theorem shown_I {g s:List UInt8}(hg:g.length≤10)(hs:s.length≤4000):f_I_shown g s=some ((shownT g s,()),()):=by
 unfold f_I_shown shownT
 rw[ends_I s (by omega),Option.bind_some]
 dsimp only
 cases endP s
 ·rw[cond_false,if_neg (by simp),decide_eq_true (by omega),cond_true]
  rw[decide_eq_true (by simp only[List.length_append,List.length_cons,List.length_nil];omega),cond_true]
  rw[decide_eq_true (by simp only[List.length_append,List.length_cons,List.length_nil];omega),cond_true]
  rfl
 ·rw[cond_true,if_pos rfl,decide_eq_true (by omega),cond_true]
theorem shown_S {g s:List UInt8}(hg:g.length≤10)(h1:1≤s.length)(hs:s.length≤4000):f_S_l5Shown g s=some ((shownT g s,()),()):=by
 unfold f_S_l5Shown shownT
 rw[ends_S s h1 (by omega),Option.bind_some]
 dsimp only
 cases endP s
 ·rw[cond_false,if_neg (by simp),decide_eq_true (by omega),cond_true]
  rw[decide_eq_true (by simp only[List.length_append,List.length_cons,List.length_nil];omega),cond_true]
  rw[List.append_assoc (g++s)]
  rfl
 ·rw[cond_true,if_pos rfl,decide_eq_true (by omega),cond_true]
theorem all_I {g:List UInt8}(hg:g.length=2){l:TX}(hl:l.length≤40)(h:∀s∈l,lineP s=true):f_I_allShown g l=some ((allT g l,()),()):=by
 have hF:=fix_fold (B:=fun d=>b_I_allShown_3 d.1 d.2.1 d.2.2.1 d.2.2.2.1 d.2.2.2.2.1) l (fun(o:List UInt8) s=>o++shownT g s) (fun o i=>(g,o,l,(l.length:Int),(i:Int),())) (fun o=>(o,())) (fun i o=>o.length≤40*i)
  (fun i hi o hI=>by
    have h0:=h _ (List.getElem_mem hi)
    have h1:=shownT_len hg h0
    have h2:=line_len h0
    refine⟨by rw[List.length_append];omega,?_⟩
    show b_I_allShown_3 g o l l.length i=_
    unfold b_I_allShown_3
    rw[decide_eq_true (by omega:(i:Int)<(l.length:Int)),cond_true,inB_lt hi,cond_true,toNat_cast,getD_of hi,shown_I (by omega) (by omega),Option.bind_some]
    dsimp only
    rw[decide_eq_true (by omega),cond_true,wrap64 (by omega) (by omega)]
    rfl)
  (fun o hI=>by
    show b_I_allShown_3 g o l l.length l.length=_
    unfold b_I_allShown_3
    rw[decide_eq_false (Int.lt_irrefl _),cond_false]) [] (Nat.zero_le _)
 unfold f_I_allShown
 rw[show w_I_allShown_3 (g,[],l,(l.length:Int),0,())=_ from hF.1,foldl_app]
 rfl
theorem all_S12 {l:TX}(hl:l.length≤40)(h:∀s∈l,lineP s=true)(o:List UInt8)(ho:o.length≤1000000)(x:PV Y_impl_Step)(wd:List UInt8)(P:SR)(n i:Int):
 w_S_l5Text_12 (o,x,wd,P,n,i,l,(l.length:Int),0,())=some (o++allT ltL l,x,wd,P,n,i,()):=by
 have hF:=fix_fold (B:=fun d=>b_S_l5Text_12 d.1 d.2.1 d.2.2.1 d.2.2.2.1 d.2.2.2.2.1 d.2.2.2.2.2.1 d.2.2.2.2.2.2.1 d.2.2.2.2.2.2.2.1 d.2.2.2.2.2.2.2.2.1) l (fun(o:List UInt8) s=>o++shownT ltL s) (fun o k=>(o,x,wd,P,n,i,l,(l.length:Int),(k:Int),())) (fun o=>(o,x,wd,P,n,i,())) (fun k o=>o.length≤1000000+40*k)
  (fun k hi o hI=>by
    have h0:=h _ (List.getElem_mem hi)
    have h1:=shownT_len (g:=ltL) rfl h0
    have h2:=line_len h0
    refine⟨by rw[List.length_append];omega,?_⟩
    show b_S_l5Text_12 o x wd P n i l l.length k=_
    unfold b_S_l5Text_12
    rw[decide_eq_true (by omega:(k:Int)<(l.length:Int)),cond_true,inB_lt hi,cond_true,toNat_cast,getD_of hi,show([60,32]:List UInt8)=ltL from rfl,shown_S (g:=ltL) (by decide) (by omega) (by omega),Option.bind_some]
    dsimp only
    rw[decide_eq_true (by omega),cond_true,wrap64 (by omega) (by omega)]
    rfl)
  (fun o hI=>by
    show b_S_l5Text_12 o x wd P n i l l.length l.length=_
    unfold b_S_l5Text_12
    rw[decide_eq_false (Int.lt_irrefl _),cond_false]) o (by omega)
 rw[show w_S_l5Text_12 (o,x,wd,P,n,i,l,(l.length:Int),0,())=_ from hF.1,foldl_app]
 rfl
theorem all_S19 {l:TX}(hl:l.length≤40)(h:∀s∈l,lineP s=true)(o:List UInt8)(ho:o.length≤1000000)(P:SR)(n i:Int):
 w_S_l5Text_19 (o,P,n,i,l,(l.length:Int),0,())=some (o++allT gtL l,P,n,i,()):=by
 have hF:=fix_fold (B:=fun d=>b_S_l5Text_19 d.1 d.2.1 d.2.2.1 d.2.2.2.1 d.2.2.2.2.1 d.2.2.2.2.2.1 d.2.2.2.2.2.2.1) l (fun(o:List UInt8) s=>o++shownT gtL s) (fun o k=>(o,P,n,i,l,(l.length:Int),(k:Int),())) (fun o=>(o,P,n,i,())) (fun k o=>o.length≤1000000+40*k)
  (fun k hi o hI=>by
    have h0:=h _ (List.getElem_mem hi)
    have h1:=shownT_len (g:=gtL) rfl h0
    have h2:=line_len h0
    refine⟨by rw[List.length_append];omega,?_⟩
    show b_S_l5Text_19 o P n i l l.length k=_
    unfold b_S_l5Text_19
    rw[decide_eq_true (by omega:(k:Int)<(l.length:Int)),cond_true,inB_lt hi,cond_true,toNat_cast,getD_of hi,show([62,32]:List UInt8)=gtL from rfl,shown_S (g:=gtL) (by decide) (by omega) (by omega),Option.bind_some]
    dsimp only
    rw[decide_eq_true (by omega),cond_true,wrap64 (by omega) (by omega)]
    rfl)
  (fun o hI=>by
    show b_S_l5Text_19 o P n i l l.length l.length=_
    unfold b_S_l5Text_19
    rw[decide_eq_false (Int.lt_irrefl _),cond_false]) o (by omega)
 rw[show w_S_l5Text_19 (o,P,n,i,l,(l.length:Int),0,())=_ from hF.1,foldl_app]
 rfl
theorem mid_len (x:PV Y_impl_Step):(midT x).length≤4:=by
 unfold midT
 split
 ·exact Nat.zero_le _
 ·split
  ·exact Nat.zero_le _
  ·decide
theorem step_facts {x:PV Y_impl_Step}(h:stepP x=true):∃a b c d:Nat,x.1=(a:Int)∧x.2.1=(b:Int)∧x.2.2.2.1=(c:Int)∧x.2.2.2.2.1=(d:Int)∧a≤b∧b≤1000∧c≤d∧d≤1000∧
 (List.length x.2.2.1≤40∧(∀s∈(x.2.2.1:TX),lineP s=true)∧endsG x.2.2.1)∧(List.length x.2.2.2.2.2.1≤40∧(∀s∈(x.2.2.2.2.2.1:TX),lineP s=true)∧endsG x.2.2.2.2.2.1)∧0<List.length x.2.2.1+List.length x.2.2.2.2.2.1:=by
 obtain⟨h1,h2,h3⟩:=step_ok h
 obtain⟨a,b,ea,eb,hab,hb,g1⟩:=side_ok h1
 obtain⟨c,d,ec,ed,hcd,hd,g2⟩:=side_ok h2
 exact⟨a,b,c,d,ea,eb,ec,ed,hab,hb,hcd,hd,good_lines g1,good_lines g2,h3⟩
theorem stepText_I {x:PV Y_impl_Step}(h:stepP x=true):f_I_stepText x=some ((stepT x,()),()):=by
 obtain⟨a,b,c,d,ea,eb,ec,ed,hab,hb,hcd,hd,⟨l1,m1,_⟩,⟨l2,m2,_⟩,_⟩:=step_facts h
 have p1:=pairT_len (a:=a) (b:=b) (by omega) (by omega)
 have p2:=pairT_len (a:=c) (b:=d) (by omega) (by omega)
 have q1:=allT_len (g:=ltL) rfl m1
 have q2:=allT_len (g:=gtL) rfl m2
 have q3:=mid_len x
 have key:((bif ((List.length x.2.2.1:Int)==0) then some (x,[97],[],()) else bif ((List.length x.2.2.2.2.2.1:Int)==0) then some (x,[100],[],()) else some (x,[99],[45,45,45,10],())):Option (PV Y_impl_Step×PV .str×PV .str×Unit))=some (x,[wordC x],midT x,()):=by
  unfold wordC midT
  by_cases h1:List.length x.2.2.1=0
  ·rw[if_pos h1,if_pos h1,show((List.length x.2.2.1:Int)==0)=true from by rw[h1];rfl];rfl
  ·rw[if_neg h1,if_neg h1,show((List.length x.2.2.1:Int)==0)=false from beq_eq_false_iff_ne.2 (by omega),cond_false]
   by_cases h2:List.length x.2.2.2.2.2.1=0
   ·rw[if_pos h2,if_pos h2,show((List.length x.2.2.2.2.2.1:Int)==0)=true from by rw[h2];rfl];rfl
   ·rw[if_neg h2,if_neg h2,show((List.length x.2.2.2.2.2.1:Int)==0)=false from beq_eq_false_iff_ne.2 (by omega)];rfl
 unfold f_I_stepText
 rw[key,Option.bind_some]
 dsimp only
 unfold stepT headT
 rw[ea,eb,ec,ed,toNat_cast,toNat_cast,toNat_cast,toNat_cast,pair_I (by omega) (by omega),Option.bind_some]
 dsimp only
 rw[pair_I (by omega) (by omega),decide_eq_true (by simp only[List.length_cons,List.length_nil];omega),cond_true,Option.bind_some]
 dsimp only
 rw[decide_eq_true (by simp only[List.length_append,List.length_cons,List.length_nil];omega),cond_true]
 rw[decide_eq_true (by simp only[List.length_append,List.length_cons,List.length_nil];omega),cond_true]
 rw[show([60,32]:List UInt8)=ltL from rfl,show([62,32]:List UInt8)=gtL from rfl,all_I rfl l1 m1,all_I rfl l2 m2,Option.bind_some]
 dsimp only
 rw[decide_eq_true (by simp only[List.length_append,List.length_cons,List.length_nil];omega),cond_true]
 rw[decide_eq_true (by simp only[List.length_append,List.length_cons,List.length_nil];omega),cond_true,Option.bind_some]
 dsimp only
 rw[decide_eq_true (by simp only[List.length_append,List.length_cons,List.length_nil];omega),cond_true]
theorem stepText_S {l:SR}(hll:l.length≤20){i:Nat}(hi:i<l.length)(h:stepP l[i]=true){o:List UInt8}(ho:o.length≤4000*i):
 b_S_l5Text_3 o l (l.length:Int) (i:Int)=some (.inl (o++stepT l[i],l,(l.length:Int),((i+1:Nat):Int),())):=by
 obtain⟨x,hx⟩:∃x,l[i]=x:=⟨_,rfl⟩
 rw[hx] at h ⊢
 obtain⟨a,b,c,d,ea,eb,ec,ed,hab,hb,hcd,hd,⟨l1,m1,_⟩,⟨l2,m2,_⟩,_⟩:=step_facts h
 have p1:=pairT_len (a:=a) (b:=b) (by omega) (by omega)
 have p2:=pairT_len (a:=c) (b:=d) (by omega) (by omega)
 have q1:=allT_len (g:=ltL) rfl m1
 have q2:=allT_len (g:=gtL) rfl m2
 have key:((bif ((List.length x.2.2.1:Int)==0) then some (o,x,[97],l,(l.length:Int),(i:Int),()) else bif ((List.length x.2.2.2.2.2.1:Int)==0) then some (o,x,[100],l,(l.length:Int),(i:Int),()) else some (o,x,[99],l,(l.length:Int),(i:Int),())):Option ((PV .str×PV Y_impl_Step×PV .str×PV S_impl_Step×PV (.int .i64)×PV (.int .i64)×Unit)))=some (o,x,[wordC x],l,(l.length:Int),(i:Int),()):=by
  unfold wordC
  by_cases h1:List.length x.2.2.1=0
  ·rw[if_pos h1,show((List.length x.2.2.1:Int)==0)=true from by rw[h1];rfl];rfl
  ·rw[if_neg h1,show((List.length x.2.2.1:Int)==0)=false from beq_eq_false_iff_ne.2 (by omega),cond_false]
   by_cases h2:List.length x.2.2.2.2.2.1=0
   ·rw[if_pos h2,show((List.length x.2.2.2.2.2.1:Int)==0)=true from by rw[h2];rfl];rfl
   ·rw[if_neg h2,show((List.length x.2.2.2.2.2.1:Int)==0)=false from beq_eq_false_iff_ne.2 (by omega)];rfl
 have hm:∀o':PV .str,o'.length≤500000→((bif (([wordC x]:PV .str)==[99]) then bif decide (o'.length+[45,45,45,10].length≤1099511627776) then some ((o'++[45,45,45,10]),x,l,(l.length:Int),(i:Int),()) else none else some (o',x,l,(l.length:Int),(i:Int),())):Option ((PV .str×PV Y_impl_Step×PV S_impl_Step×PV (.int .i64)×PV (.int .i64)×Unit)))=some (o'++midT x,x,l,(l.length:Int),(i:Int),()):=by
  intro o' ho'
  unfold wordC midT
  by_cases h1:List.length x.2.2.1=0
  ·rw[if_pos h1,if_pos h1,List.append_nil];rfl
  ·rw[if_neg h1,if_neg h1]
   by_cases h2:List.length x.2.2.2.2.2.1=0
   ·rw[if_pos h2,if_pos h2,List.append_nil];rfl
   ·rw[if_neg h2,if_neg h2,show(([99]:List UInt8)==[99])=true from rfl,cond_true,decide_eq_true (by simp only[List.length_cons,List.length_nil];omega)];rfl
 have q3:=mid_len x
 unfold b_S_l5Text_3
 rw[decide_eq_true (by omega:(i:Int)<(l.length:Int)),cond_true,inB_lt hi,cond_true,toNat_cast,getD_of hi,hx,key,Option.bind_some]
 dsimp only
 unfold stepT headT
 rw[ea,eb,ec,ed,toNat_cast,toNat_cast,toNat_cast,toNat_cast,pair_S (by omega) (by omega),Option.bind_some]
 dsimp only
 rw[pair_S (by omega) (by omega),decide_eq_true (by simp only[List.length_cons,List.length_nil];omega),cond_true,Option.bind_some]
 dsimp only
 rw[decide_eq_true (by simp only[List.length_append,List.length_cons,List.length_nil];omega),cond_true]
 rw[decide_eq_true (by simp only[List.length_append,List.length_cons,List.length_nil];omega),cond_true]
 rw[decide_eq_true (by simp only[List.length_append,List.length_cons,List.length_nil];omega),cond_true]
 rw[all_S12 l1 m1 _ (by simp only[List.length_append,List.length_cons,List.length_nil];omega),Option.bind_some]
 dsimp only
 rw[hm _ (by simp only[List.length_append,List.length_cons,List.length_nil];omega),Option.bind_some]
 dsimp only
 rw[all_S19 l2 m2 _ (by simp only[List.length_append,List.length_cons,List.length_nil];omega),Option.bind_some]
 dsimp only
 rw[wrap64 (by omega) (by omega)]
 simp only[List.append_assoc]
 rfl
theorem loop_IT {l:SR}(h:stepsP l=true):w_I_StepsText_5 ([],l,(l.length:Int),0,())=some (textP l,()):=by
 obtain⟨hl,hg⟩:=steps_at h
 have hF:=fix_fold (B:=fun d=>b_I_StepsText_5 d.1 d.2.1 d.2.2.1 d.2.2.2.1) l (fun(o:List UInt8) x=>o++stepT x) (fun o i=>(o,l,(l.length:Int),(i:Int),())) (fun o=>(o,())) (fun i o=>o.length≤4000*i)
  (fun i hi o hI=>by
    have hx:=hg _ (List.getElem_mem hi)
    have:=stepT_len hx
    refine⟨by rw[List.length_append];omega,?_⟩
    show b_I_StepsText_5 o l l.length i=_
    unfold b_I_StepsText_5
    rw[decide_eq_true (by omega:(i:Int)<(l.length:Int)),cond_true,inB_lt hi,cond_true,toNat_cast,getD_of hi,stepText_I hx,Option.bind_some]
    dsimp only
    rw[decide_eq_true (by omega),cond_true,wrap64 (by omega) (by omega)]
    rfl)
  (fun o hI=>by
    show b_I_StepsText_5 o l l.length l.length=_
    unfold b_I_StepsText_5
    rw[decide_eq_false (Int.lt_irrefl _),cond_false]) [] (Nat.zero_le _)
 rw[show w_I_StepsText_5 ([],l,(l.length:Int),0,())=_ from hF.1,foldl_app]
 rfl
theorem loop_ST {l:SR}(h:stepsP l=true):w_S_l5Text_3 ([],l,(l.length:Int),0,())=some (textP l,()):=by
 obtain⟨hl,hg⟩:=steps_at h
 have hF:=fix_fold (B:=fun d=>b_S_l5Text_3 d.1 d.2.1 d.2.2.1 d.2.2.2.1) l (fun(o:List UInt8) x=>o++stepT x) (fun o i=>(o,l,(l.length:Int),(i:Int),())) (fun o=>(o,())) (fun i o=>o.length≤4000*i)
  (fun i hi o hI=>by
    have hx:=hg _ (List.getElem_mem hi)
    have:=stepT_len hx
    exact⟨by rw[List.length_append];omega,stepText_S hl hi hx hI⟩)
  (fun o hI=>by
    show b_S_l5Text_3 o l l.length l.length=_
    unfold b_S_l5Text_3
    rw[decide_eq_false (Int.lt_irrefl _),cond_false]) [] (Nat.zero_le _)
 rw[show w_S_l5Text_3 ([],l,(l.length:Int),0,())=_ from hF.1,foldl_app]
 rfl
theorem l5Text_S {l:SR}(h:stepsP l=true):f_S_l5Text l=some ((textP l,()),()):=by
 unfold f_S_l5Text
 rw[loop_ST h]
 rfl
def sOk (l:SR):Bool:=stepsP l&&decide ((textP l).length≤3000)
def sR (l:SR):List UInt8:=if sOk l=true then textP l else[]
theorem text_I {l:SR}(hs:tot S_impl_Step l≤4611686018427387904):f_I_StepsText l=some ((sR l,sOk l,()),()):=by
 unfold f_I_StepsText sR sOk f_I_short
 rw[steps_I l hs,Option.bind_some]
 dsimp only
 cases hg:stepsP l
 ·rfl
 ·rw[Bool.not_true,cond_false,loop_IT hg,Option.bind_some]
  dsimp only
  by_cases h:(textP l).length≤3000
  ·rw[decide_eq_false (by omega:¬((textP l).length:Int)>3000),decide_eq_true h];rfl
  ·rw[decide_eq_true (by omega:((textP l).length:Int)>3000),decide_eq_false h];rfl
theorem text_ST {l:SR}(hs:tot S_impl_Step l≤4611686018427387904):f_S_StepsText l=some ((sR l,sOk l,()),()):=by
 unfold f_S_StepsText sR sOk
 rw[steps_S l hs,Option.bind_some]
 dsimp only
 cases hg:stepsP l
 ·rfl
 ·rw[Bool.not_true,cond_false,l5Text_S hg,Option.bind_some,Option.bind_some]
  dsimp only
  by_cases h:(textP l).length≤3000
  ·rw[decide_eq_false (by omega:¬((textP l).length:Int)>3000),decide_eq_true h,cond_false,l5Text_S hg];rfl
  ·rw[decide_eq_true (by omega:((textP l).length:Int)>3000),decide_eq_false h];rfl
end R.V
end

section
/- Shown lines, taken off a list of lines, on both sides. -/
open Go Go.Dn
namespace R.V
set_option linter.unusedVariables false
def pre (g s:List UInt8):Bool:=decide (g.length≤s.length)&&(s.take g.length==g)
theorem cut0 (s:List UInt8)(n:Nat):cutL 0 (n:Int) s=s.take n:=cutL_take n s
theorem hasPre_I (s g:List UInt8)(hs:s.length≤100000)(hg:g.length≤100):f_internal_stringslite_HasPrefix s g=some ((pre g s,()),()):=by
 unfold f_internal_stringslite_HasPrefix pre
 by_cases h:g.length≤s.length
 ·rw[decide_eq_true (by omega:(s.length:Int)≥(g.length:Int)),cond_true,cutB_take h,cond_true,cut0,decide_eq_true h];rfl
 ·rw[decide_eq_false (by omega:¬(s.length:Int)≥(g.length:Int)),cond_false,decide_eq_false h];rfl
theorem hasPrefix_I (s g:List UInt8)(hs:s.length≤100000)(hg:g.length≤100):f_strings_HasPrefix s g=some ((pre g s,()),()):=by
 unfold f_strings_HasPrefix
 rw[hasPre_I s g hs hg];rfl
theorem trimPrefix_I (s g:List UInt8)(hs:s.length≤100000)(hg:g.length≤100)(h:pre g s=true):f_strings_TrimPrefix s g=some ((s.drop g.length,()),()):=by
 unfold f_strings_TrimPrefix f_internal_stringslite_TrimPrefix
 rw[hasPre_I s g hs hg,h,Option.bind_some]
 dsimp only
 unfold pre at h
 rw[Bool.and_eq_true,decide_eq_true_eq] at h
 rw[cond_true,cutB_drop h.1,cond_true,cutL_drop]
 rfl
def nx (g l0:List UInt8):TX→TX×List UInt8
 |[]=>([],l0.drop g.length)
 |m::t=>if m=noneL then(t,plainB (l0.drop g.length)) else(m::t,l0.drop g.length)
theorem nx_nil (g l0:List UInt8):nx g l0 []=([],l0.drop g.length):=rfl
theorem nx_cons (g l0 m:List UInt8)(t:TX):nx g l0 (m::t)=if m=noneL then(t,plainB (l0.drop g.length)) else(m::t,l0.drop g.length):=rfl
theorem take_step (g l0:List UInt8)(t out:TX)(hg:g.length≤100)(h0:l0.length≤3000)(hn:t.length≤3000)(ho:out.length≤3000):
 b_I_takeShown_2 (l0::t) g out=if pre g l0=true then some (.inl ((nx g l0 t).1,g,out++[(nx g l0 t).2],())) else some (.inr (l0::t,out,())):=by
 have hr:∀x:List UInt8,roomB (out.length+[x].length)=true:=fun x=>roomB_ok (by simp only[List.length_cons,List.length_nil];omega)
 unfold b_I_takeShown_2
 rw[decide_eq_true (by simp only[List.length_cons];omega:(((l0::t).length:Nat):Int)>0),cond_true,show inB 0 (l0::t).length=true from inB_lt (i:=0) (by simp),cond_true,show(l0::t).getD ((0:Int).toNat) []=l0 from rfl,hasPrefix_I l0 g (by omega) hg,Option.bind_some]
 dsimp only
 cases hp:pre g l0
 ·rw[cond_false,if_neg (by simp)]
 ·rw[cond_true,cond_true,if_pos rfl,trimPrefix_I l0 g (by omega) hg hp,Option.bind_some]
  dsimp only
  rw[drop_ok,cond_true,drop_one]
  cases t with
  |nil=>
   rw[decide_eq_false (by simp:¬((([]:TX).length:Nat):Int)>0),cond_false,Option.bind_some]
   dsimp only
   rw[cond_false,Option.bind_some]
   dsimp only
   rw[hr,cond_true]
   rfl
  |cons m t=>
   simp only[List.length_cons] at hn
   rw[decide_eq_true (by simp only[List.length_cons];omega:(((m::t).length:Nat):Int)>0),cond_true,show inB 0 (m::t).length=true from inB_lt (i:=0) (by simp),cond_true,show(m::t).getD ((0:Int).toNat) []=m from rfl,Option.bind_some]
   dsimp only
   rw[nx_cons]
   by_cases hm:m=noneL
   ·rw[if_pos hm,show(m==([92,32,110,111,110,101,10]:List UInt8))=true from beq_iff_eq.2 hm,cond_true,plain_I _ (by rw[List.length_drop];omega),Option.bind_some]
    dsimp only
    rw[drop_ok,cond_true,drop_one,Option.bind_some]
    dsimp only
    rw[hr,cond_true]
   ·rw[if_neg hm,show(m==([92,32,110,111,110,101,10]:List UInt8))=false from beq_eq_false_iff_ne.2 hm,cond_false,Option.bind_some]
    dsimp only
    rw[hr,cond_true]
theorem nx_facts (g l0:List UInt8)(t:TX):(nx g l0 t).1.length≤t.length∧(∀l∈(nx g l0 t).1,l∈t)∧(nx g l0 t).2.length≤l0.length:=by
 cases t with
 |nil=>exact⟨Nat.le_refl _,fun l h=>h,by show(l0.drop g.length).length≤_;rw[List.length_drop];omega⟩
 |cons m t=>
  rw[nx_cons]
  by_cases hm:m=noneL
  ·rw[if_pos hm]
   have h1:=plainB_le (l0.drop g.length)
   rw[List.length_drop] at h1
   exact⟨by simp,fun l h=>List.mem_cons_of_mem _ h,by show(plainB (l0.drop g.length)).length≤_;omega⟩
  ·rw[if_neg hm]
   exact⟨Nat.le_refl _,fun l h=>h,by show(l0.drop g.length).length≤_;rw[List.length_drop];omega⟩
noncomputable abbrev BT (d:PV S_string×PV .str×PV S_string×Unit):=b_I_takeShown_2 d.1 d.2.1 d.2.2.1
theorem goT {t out:TX}{g:List UInt8}{d r}(h:b_I_takeShown_2 t g out=some (.inl d))(h2:w_I_takeShown_2 d=some r):w_I_takeShown_2 (t,g,out,())=some r:=Eq.trans (fix_go (B:=BT) (s:=(t,g,out,())) (t:=d) h) h2
theorem endT {t out:TX}{g:List UInt8}{r}(h:b_I_takeShown_2 t g out=some (.inr r)):w_I_takeShown_2 (t,g,out,())=some r:=fix_end (B:=BT) (s:=(t,g,out,())) h
theorem take_tot (g:List UInt8)(hg:g.length≤100):∀(n:Nat) (t out:TX),t.length≤n→t.length+out.length≤3000→(∀l∈t,l.length≤3000)→(∀l∈out,l.length≤3000)→
 ∃out' r:TX,w_I_takeShown_2 (t,g,out,())=some (r,out',())∧out'.length≤3000∧r.length≤t.length∧(∀l∈r,l∈t)∧∀l∈out',l.length≤3000:=by
 intro n
 induction n with
 |zero=>
  intro t out h h1 _ ho
  obtain rfl:t=[]:=List.eq_nil_of_length_eq_zero (by omega)
  exact⟨out,[],endT rfl,by omega,Nat.le_refl _,fun l h=>h,ho⟩
 |succ n ih=>
  intro t out h h1 hm ho
  cases t with
  |nil=>exact⟨out,[],endT rfl,by simp at h1;omega,Nat.le_refl _,fun l h=>h,ho⟩
  |cons l0 t=>
   simp only[List.length_cons] at h h1
   have h0:=hm l0 (List.mem_cons_self ..)
   have hs:=take_step g l0 t out hg h0 (by omega) (by omega)
   cases hp:pre g l0 with
   |false=>
    rw[hp,if_neg (by simp)] at hs
    exact⟨out,l0::t,endT hs,by omega,Nat.le_refl _,fun l h=>h,ho⟩
   |true=>
    rw[hp,if_pos rfl] at hs
    obtain⟨n1,n2,n3⟩:=nx_facts g l0 t
    obtain⟨out',r,q1,q2,q3,q4,q5⟩:=ih (nx g l0 t).1 (out++[(nx g l0 t).2]) (by omega) (by simp;omega) (fun l hl=>hm l (List.mem_cons_of_mem _ (n2 l hl))) (fun l hl=>by
     rcases List.mem_append.1 hl with hl|hl
     ·exact ho l hl
     ·obtain rfl:=List.mem_singleton.1 hl
      omega)
    exact⟨out',r,goT hs q1,q2,by simp only[List.length_cons];omega,fun l hl=>List.mem_cons_of_mem _ (n2 l (q4 l hl)),q5⟩
theorem takeShown_tot (g:List UInt8)(hg:g.length≤100)(t:TX)(h1:t.length≤3000)(hm:∀l∈t,l.length≤3000):
 ∃out r:TX,f_I_takeShown t g=some ((out,r,()),())∧out.length≤3000∧r.length≤t.length∧(∀l∈r,l∈t)∧∀l∈out,l.length≤3000:=by
 obtain⟨out,r,q1,q2,q3,q4,q5⟩:=take_tot g hg t.length t [] (Nat.le_refl _) (by simpa using h1) hm (fun l h=>by cases h)
 refine⟨out,r,?_,q2,q3,q4,q5⟩
 unfold f_I_takeShown
 rw[show w_I_takeShown_2 (t,g,([]:PV S_string),())=some (r,out,()) from q1]
 rfl
def headOk (g:List UInt8):TX→Prop
 |[]=>True
 |x::_=>pre g x=false∧x≠noneL
theorem pre_app (g s:List UInt8):pre g (g++s)=true:=by
 unfold pre
 rw[List.take_left,List.length_append,decide_eq_true (by omega)]
 simp
theorem not_none {g s:List UInt8}(hg:g=ltL∨g=gtL):g++s≠noneL:=by
 rcases hg with rfl|rfl<;>(intro h;simp[ltL,gtL,noneL] at h)
theorem headOk_all {g:List UInt8}(hg:g=ltL∨g=gtL){r:TX}(hr:headOk g r):∀l:TX,∀x t,allL g l++r=x::t→x≠noneL
 |[],x,t,h=>by
  unfold allL at h
  rw[List.flatMap_nil,List.nil_append] at h
  rw[h] at hr
  exact hr.2
 |s::l,x,t,h=>by
  unfold allL shownL at h
  rw[List.flatMap_cons] at h
  cases he:endP s
  ·rw[he,if_neg (by simp)] at h
   injection h with h _
   rw[←h,List.append_assoc]
   exact not_none hg
  ·rw[he,if_pos rfl] at h
   injection h with h _
   rw[←h]
   exact not_none hg
theorem take_good {g:List UInt8}(hg:g=ltL∨g=gtL){r:TX}(hr:headOk g r):∀(l out:TX),(∀s∈l,lineP s=true)→endsG l→(allL g l++r).length+out.length≤3000→(∀x∈allL g l++r,x.length≤3000)→
 w_I_takeShown_2 (allL g l++r,g,out,())=some (r,out++l,()):=by
 have hg2:g.length=2:=by rcases hg with rfl|rfl<;>rfl
 intro l
 induction l with
 |nil=>
  intro out _ _ hn hm
  rw[List.append_nil]
  show w_I_takeShown_2 (r,g,out,())=_
  have hn:r.length+out.length≤3000:=hn
  have hm:∀x∈r,x.length≤3000:=hm
  cases r with
  |nil=>exact endT rfl
  |cons x r=>
   simp only[List.length_cons] at hn
   have hs:=take_step g x r out (by omega) (hm x (List.mem_cons_self ..)) (by omega) (by omega)
   rw[hr.1,if_neg (by simp)] at hs
   exact endT hs
 |cons s l ih=>
  intro out hl he hn hm
  have hls:=hl s (List.mem_cons_self ..)
  have hsl:=line_len hls
  have e:allL g (s::l)++r=shownL g s++(allL g l++r):=by unfold allL;rw[List.flatMap_cons,List.append_assoc]
  rw[e] at hn hm ⊢
  have hl':∀x∈l,lineP x=true:=fun x hx=>hl x (List.mem_cons_of_mem _ hx)
  have he':endsG l:=by
   cases l with
   |nil=>trivial
   |cons y l=>exact he.2
  cases hes:endP s with
  |true=>
   have e2:shownL g s=[g++s]:=by unfold shownL;rw[hes,if_pos rfl]
   rw[e2] at hn hm ⊢
   rw[show[g++s]++(allL g l++r)=(g++s)::(allL g l++r) from rfl] at hn hm ⊢
   simp only[List.length_cons] at hn
   have hs:=take_step g (g++s) (allL g l++r) out (by omega) (hm _ (List.mem_cons_self ..)) (by omega) (by omega)
   have hnx:nx g (g++s) (allL g l++r)=(allL g l++r,s):=by
    cases hc:allL g l++r with
    |nil=>rw[nx_nil,List.drop_left]
    |cons m t=>
     rw[nx_cons]
     rw[if_neg (headOk_all hg hr l m t hc),List.drop_left]
   rw[pre_app,if_pos rfl,hnx] at hs
   have:=ih (out++[s]) hl' he' (by simp;rw[List.length_append] at hn;omega) (fun x hx=>hm x (List.mem_cons_of_mem _ hx))
   rw[List.append_assoc] at this
   exact goT hs this
  |false=>
   have e2:shownL g s=[(g++s)++[10],noneL]:=by unfold shownL;rw[hes,if_neg (by simp)]
   have hnil:l=[]:=by
    cases l with
    |nil=>rfl
    |cons y l=>rw[he.1] at hes;cases hes
   subst hnil
   rw[e2] at hn hm ⊢
   rw[show[(g++s)++[10],noneL]++(allL g []++r)=((g++s)++[10])::noneL::r from rfl] at hn hm ⊢
   simp only[List.length_cons] at hn
   have hs:=take_step g ((g++s)++[10]) (noneL::r) out (by omega) (hm _ (List.mem_cons_self ..)) (by simp only[List.length_cons];omega) (by omega)
   have hnx:nx g ((g++s)++[10]) (noneL::r)=(r,s):=by
    rw[nx_cons]
    rw[if_pos rfl,List.append_assoc,List.drop_left,plainB_end]
   rw[List.append_assoc,pre_app,←List.append_assoc,if_pos rfl,hnx] at hs
   have:=ih (out++[s]) hl' he' (by show r.length+_≤_;simp;omega) (fun x hx=>hm x (List.mem_cons_of_mem _ (List.mem_cons_of_mem _ hx)))
   rw[List.append_assoc] at this
   exact goT hs this
theorem takeShown_good {g:List UInt8}(hg:g=ltL∨g=gtL){r:TX}(hr:headOk g r){l:TX}(h:∀s∈l,lineP s=true)(he:endsG l)(hn:(allL g l++r).length≤3000)(hm:∀x∈allL g l++r,x.length≤3000):
 f_I_takeShown (allL g l++r) g=some ((l,r,()),()):=by
 have:=take_good hg hr l [] h he (by simpa using hn) hm
 unfold f_I_takeShown
 rw[show w_I_takeShown_2 (allL g l++r,g,([]:PV S_string),())=some (r,l,()) from this]
 rfl
end R.V
end

section
/- Shown lines, as the reference takes them. -/
open Go Go.Dn
namespace R.V
set_option linter.unusedVariables false
def preS (g x:List UInt8):Bool:=decide (g.length<x.length)&&(x.take g.length==g)
theorem preS_pre {g x:List UInt8}(h:pre g x=false):preS g x=false:=by
 cases hp:preS g x with
 |false=>rfl
 |true=>
  unfold preS at hp
  rw[Bool.and_eq_true,decide_eq_true_eq] at hp
  unfold pre at h
  rw[hp.2,decide_eq_true (by omega)] at h
  cases h
def nxS (g x:List UInt8):TX→Nat×List UInt8
 |[]=>(1,x.drop g.length)
 |m::_=>if m=noneL then(2,(x.drop g.length).take ((x.drop g.length).length -1)) else(1,x.drop g.length)
theorem nxS_nil (g x:List UInt8):nxS g x []=(1,x.drop g.length):=rfl
theorem nxS_cons (g x m:List UInt8)(t:TX):nxS g x (m::t)=if m=noneL then(2,(x.drop g.length).take ((x.drop g.length).length -1)) else(1,x.drop g.length):=rfl
theorem getD_mid (p t:TX)(x:List UInt8):(p++x::t).getD p.length []=x:=by simp[List.getD]
theorem getD_mid1 (p t:TX)(x y:List UInt8):(p++x::y::t).getD (p.length+1) []=y:=by
 have:=getD_mid (p++[x]) t y
 rw[List.append_assoc,List.length_append] at this
 exact this
theorem takeS_step (g x:List UInt8)(p t out:TX)(hg:g.length≤100)(hL:(p++x::t).length≤3000)(hx:x.length≤3000)(ho:out.length≤3000):
 b_S_l5Take_3 (p++x::t) g out (p.length:Int)=if preS g x=true then some (.inl (p++x::t,g,out++[(nxS g x t).2],((p.length+(nxS g x t).1:Nat):Int),())) else some (.inr (out,(p.length:Int),())):=by
 have hr:∀x:List UInt8,roomB (out.length+[x].length)=true:=fun x=>roomB_ok (by simp only[List.length_cons,List.length_nil];omega)
 have hn:p.length<(p++x::t).length:=by rw[List.length_append,List.length_cons];omega
 unfold b_S_l5Take_3
 rw[decide_eq_true (by omega:(p.length:Int)<((p++x::t).length:Int)),cond_true,inB_lt hn,cond_true,toNat_cast,getD_mid]
 unfold preS
 by_cases h1:x.length≤g.length
 ·rw[decide_eq_true (by omega:(x.length:Int)≤(g.length:Int)),cond_true,decide_eq_false (by omega:¬g.length<x.length),Bool.false_and,if_neg (by simp)]
 ·rw[decide_eq_false (by omega:¬(x.length:Int)≤(g.length:Int)),cond_false,cutB_take (by omega),cond_true,cut0,decide_eq_true (by omega:g.length<x.length),Bool.true_and]
  cases hp:(x.take g.length==g)
  ·rw[Bool.not_false,cond_true,if_neg (by simp)]
  ·rw[Bool.not_true,cond_false,if_pos rfl,cutB_drop (by omega),cond_true,wrap64 (x:=(p.length:Int)+1) (by omega) (by omega),show(p.length:Int)+1=((p.length+1:Nat):Int) by omega,cutL_drop]
   cases t with
   |nil=>
    rw[decide_eq_false (by simp:¬((p.length+1:Nat):Int)<((p++[x]).length:Int)),cond_false,Option.bind_some]
    dsimp only
    rw[cond_false,Option.bind_some]
    dsimp only
    rw[hr,cond_true,nxS_nil]
   |cons m t=>
    have h2:p.length+1<(p++x::m::t).length:=by rw[List.length_append,List.length_cons,List.length_cons];omega
    rw[decide_eq_true (by omega:((p.length+1:Nat):Int)<((p++x::m::t).length:Int)),cond_true,inB_lt h2,cond_true,toNat_cast,getD_mid1,Option.bind_some]
    dsimp only
    rw[nxS_cons]
    by_cases hm:m=noneL
    ·have hd:1≤(x.drop g.length).length:=by rw[List.length_drop];omega
     have hd2:(x.drop g.length).length≤3000:=by rw[List.length_drop];omega
     rw[if_pos hm,show(m==([92,32,110,111,110,101,10]:List UInt8))=true from beq_iff_eq.2 hm,cond_true,wrap64 (x:=((x.drop g.length).length:Int) -1) (by omega) (by omega),show((x.drop g.length).length:Int) -1=(((x.drop g.length).length -1:Nat):Int) by omega,cutB_take (by omega),cond_true,cut0,wrap64 (by omega) (by omega),Option.bind_some]
     dsimp only
     rw[hr,cond_true]
     rfl
    ·rw[if_neg hm,show(m==([92,32,110,111,110,101,10]:List UInt8))=false from beq_eq_false_iff_ne.2 hm,cond_false,Option.bind_some]
     dsimp only
     rw[hr,cond_true]
noncomputable abbrev BU (d:PV S_string×PV .str×PV S_string×PV (.int .i64)×Unit):=b_S_l5Take_3 d.1 d.2.1 d.2.2.1 d.2.2.2.1
theorem goU {L out:TX}{g:List UInt8}{n:Int}{d r}(h:b_S_l5Take_3 L g out n=some (.inl d))(h2:w_S_l5Take_3 d=some r):w_S_l5Take_3 (L,g,out,n,())=some r:=Eq.trans (fix_go (B:=BU) (s:=(L,g,out,n,())) (t:=d) h) h2
theorem endU {L out:TX}{g:List UInt8}{n:Int}{r}(h:b_S_l5Take_3 L g out n=some (.inr r)):w_S_l5Take_3 (L,g,out,n,())=some r:=fix_end (B:=BU) (s:=(L,g,out,n,())) h
theorem stopU (p out:TX)(g:List UInt8):b_S_l5Take_3 p g out (p.length:Int)=some (.inr (out,(p.length:Int),())):=by
 unfold b_S_l5Take_3
 rw[decide_eq_false (Int.lt_irrefl _),cond_false]
theorem takeS_tot (g:List UInt8)(hg:g.length≤100):∀(n:Nat) (t p out:TX),t.length≤n→(p++t).length≤3000→out.length≤p.length→(∀l∈t,l.length≤3000)→(∀l∈out,l.length≤3000)→
 ∃(out':TX) (k:Nat),w_S_l5Take_3 (p++t,g,out,(p.length:Int),())=some (out',((p.length+k:Nat):Int),())∧k≤t.length∧out'.length≤3000∧∀l∈out',l.length≤3000:=by
 intro n
 induction n with
 |zero=>
  intro t p out h h1 ho _ hb
  obtain rfl:t=[]:=List.eq_nil_of_length_eq_zero (by omega)
  rw[List.append_nil] at h1 ⊢
  exact⟨out,0,endU (stopU p out g),Nat.le_refl _,by omega,hb⟩
 |succ n ih=>
  intro t p out h h1 ho hm hb
  cases t with
  |nil=>
   rw[List.append_nil] at h1 ⊢
   exact⟨out,0,endU (stopU p out g),Nat.le_refl _,by omega,hb⟩
  |cons x t=>
   have h1':=h1
   rw[List.length_append,List.length_cons] at h1'
   simp only[List.length_cons] at h
   have hx:=hm x (List.mem_cons_self ..)
   have hs:=takeS_step g x p t out hg h1 hx (by omega)
   cases hp:preS g x with
   |false=>
    rw[hp,if_neg (by simp)] at hs
    exact⟨out,0,endU hs,Nat.zero_le _,by omega,hb⟩
   |true=>
    rw[hp,if_pos rfl] at hs
    have hb2:∀y:List UInt8,y.length≤3000→∀l∈out++[y],l.length≤3000:=fun y hy l hl=>by
     rcases List.mem_append.1 hl with hl|hl
     ·exact hb l hl
     ·obtain rfl:=List.mem_singleton.1 hl
      exact hy
    have hd:(x.drop g.length).length≤3000:=by rw[List.length_drop];omega
    have one:nxS g x t=(1,x.drop g.length)→∃(out':TX) (k:Nat),w_S_l5Take_3 (p++x::t,g,out,(p.length:Int),())=some (out',((p.length+k:Nat):Int),())∧k≤(x::t).length∧out'.length≤3000∧∀l∈out',l.length≤3000:=by
     intro e
     rw[e] at hs
     obtain⟨out',k,q1,q2,q3,q4⟩:=ih t (p++[x]) (out++[x.drop g.length]) (by omega) (by rw[List.append_assoc];exact h1) (by simp;omega) (fun l hl=>hm l (List.mem_cons_of_mem _ hl)) (hb2 _ hd)
     rw[List.append_assoc,show[x]++t=x::t from rfl,List.length_append,show[x].length=1 from rfl] at q1
     exact⟨out',1+k,goU hs (by rw[q1,Nat.add_assoc]),by simp only[List.length_cons];omega,q3,q4⟩
    cases t with
    |nil=>exact one (nxS_nil g x)
    |cons m t=>
     by_cases hn:m=noneL
     ·have e:=nxS_cons g x m t
      rw[if_pos hn] at e
      rw[e] at hs
      simp only[List.length_cons] at h h1'
      obtain⟨out',k,q1,q2,q3,q4⟩:=ih t (p++[x,m]) (out++[(x.drop g.length).take ((x.drop g.length).length -1)]) (by omega) (by rw[List.append_assoc];exact h1) (by simp;omega) (fun l hl=>hm l (List.mem_cons_of_mem _ (List.mem_cons_of_mem _ hl))) (hb2 _ (by rw[List.length_take];omega))
      rw[List.append_assoc,show[x,m]++t=x::m::t from rfl,List.length_append,show[x,m].length=2 from rfl] at q1
      exact⟨out',2+k,goU hs (by rw[q1,Nat.add_assoc]),by simp only[List.length_cons];omega,q3,q4⟩
     ·have e:=nxS_cons g x m t
      rw[if_neg hn] at e
      exact one e
theorem l5Take_tot (g:List UInt8)(hg:g.length≤100)(t:TX)(h1:t.length≤3000)(hm:∀l∈t,l.length≤3000):
 ∃(out:TX) (k:Nat),f_S_l5Take t g=some ((out,(k:Int),()),())∧k≤t.length∧out.length≤3000∧∀l∈out,l.length≤3000:=by
 obtain⟨out,k,q1,q2,q3,q4⟩:=takeS_tot g hg t.length t [] [] (Nat.le_refl _) (by simpa using h1) (Nat.le_refl _) hm (fun l h=>by cases h)
 refine⟨out,k,?_,q2,q3,q4⟩
 unfold f_S_l5Take
 rw[show w_S_l5Take_3 (t,g,[],0,())=_ from q1]
 show some ((out,((0+k:Nat):Int),()),())=_
 rw[Nat.zero_add]
theorem preS_app (g:List UInt8){s:List UInt8}(hs:1≤s.length):preS g (g++s)=true:=by
 unfold preS
 rw[List.take_left,List.length_append,decide_eq_true (by omega)]
 simp
theorem takeS_good {g:List UInt8}(hg:g=ltL∨g=gtL){r:TX}(hr:headOk g r):∀(l p out:TX),(∀s∈l,lineP s=true)→endsG l→(p++(allL g l++r)).length≤3000→out.length≤p.length→(∀x∈allL g l++r,x.length≤3000)→
 w_S_l5Take_3 (p++(allL g l++r),g,out,(p.length:Int),())=some (out++l,((p.length+(allL g l).length:Nat):Int),()):=by
 have hg2:g.length=2:=by rcases hg with rfl|rfl<;>rfl
 intro l
 induction l with
 |nil=>
  intro p out _ _ hn ho hm
  rw[List.append_nil]
  show w_S_l5Take_3 (p++r,g,out,(p.length:Int),())=some (out,(p.length:Int),())
  have hn:(p++r).length≤3000:=hn
  have hm:∀x∈r,x.length≤3000:=hm
  cases r with
  |nil=>rw[List.append_nil];exact endU (stopU p out g)
  |cons x r=>
   have hn':=hn
   rw[List.length_append,List.length_cons] at hn'
   have hs:=takeS_step g x p r out (by omega) hn (hm x (List.mem_cons_self ..)) (by omega)
   rw[preS_pre hr.1,if_neg (by simp)] at hs
   exact endU hs
 |cons s l ih=>
  intro p out hl he hn ho hm
  have hls:=hl s (List.mem_cons_self ..)
  have hsl:=line_len hls
  have e:allL g (s::l)=shownL g s++allL g l:=by unfold allL;rw[List.flatMap_cons]
  rw[e] at hn hm ⊢
  rw[List.append_assoc] at hn hm ⊢
  have hl':∀x∈l,lineP x=true:=fun x hx=>hl x (List.mem_cons_of_mem _ hx)
  have he':endsG l:=by
   cases l with
   |nil=>trivial
   |cons y l=>exact he.2
  have hn':=hn
  rw[List.length_append] at hn'
  cases hes:endP s with
  |true=>
   have e2:shownL g s=[g++s]:=by unfold shownL;rw[hes,if_pos rfl]
   rw[e2] at hn hn' hm ⊢
   rw[show[g++s]++(allL g l++r)=(g++s)::(allL g l++r) from rfl] at hn hn' hm ⊢
   simp only[List.length_cons] at hn'
   have hs:=takeS_step g (g++s) p (allL g l++r) out (by omega) hn (hm _ (List.mem_cons_self ..)) (by omega)
   have hnx:nxS g (g++s) (allL g l++r)=(1,s):=by
    cases hc:allL g l++r with
    |nil=>rw[nxS_nil,List.drop_left]
    |cons m t=>rw[nxS_cons,if_neg (headOk_all hg hr l m t hc),List.drop_left]
   rw[preS_app g hsl.1,if_pos rfl,hnx] at hs
   have:=ih (p++[g++s]) (out++[s]) hl' he' (by rw[List.append_assoc];exact hn) (by simp;omega) (fun x hx=>hm x (List.mem_cons_of_mem _ hx))
   rw[List.append_assoc p,show[g++s]++(allL g l++r)=(g++s)::(allL g l++r) from rfl,List.append_assoc out,List.length_append,show[g++s].length=1 from rfl,Nat.add_assoc] at this
   rw[show([g++s]++allL g l).length=1+(allL g l).length from by rw[List.length_append];rfl]
   exact goU hs this
  |false=>
   have e2:shownL g s=[(g++s)++[10],noneL]:=by unfold shownL;rw[hes,if_neg (by simp)]
   have hnil:l=[]:=by
    cases l with
    |nil=>rfl
    |cons y l=>rw[he.1] at hes;cases hes
   subst hnil
   rw[e2] at hn hn' hm ⊢
   rw[show[(g++s)++[10],noneL]++(allL g []++r)=((g++s)++[10])::noneL::r from rfl] at hn hn' hm ⊢
   simp only[List.length_cons] at hn'
   have hs:=takeS_step g ((g++s)++[10]) p (noneL::r) out (by omega) hn (hm _ (List.mem_cons_self ..)) (by omega)
   have hnx:nxS g ((g++s)++[10]) (noneL::r)=(2,s):=by
    rw[nxS_cons,if_pos rfl,List.append_assoc,List.drop_left]
    simp
   have hp:preS g ((g++s)++[10])=true:=by rw[List.append_assoc];exact preS_app g (by simp)
   rw[hp,if_pos rfl,hnx] at hs
   have:=ih (p++[(g++s)++[10],noneL]) (out++[s]) hl' he' (by rw[List.append_assoc];exact hn) (by simp;omega) (fun x hx=>hm x (List.mem_cons_of_mem _ (List.mem_cons_of_mem _ hx)))
   rw[List.append_assoc p,show[(g++s)++[10],noneL]++(allL g []++r)=((g++s)++[10])::noneL::r from rfl,List.append_assoc out,List.length_append,show[(g++s)++[10],noneL].length=2 from rfl,Nat.add_assoc] at this
   rw[show([(g++s)++[10],noneL]++allL g []).length=2+(allL g []).length from by rw[List.length_append];rfl]
   exact goU hs this
theorem l5Take_good {g:List UInt8}(hg:g=ltL∨g=gtL){r:TX}(hr:headOk g r){l:TX}(h:∀s∈l,lineP s=true)(he:endsG l)(hn:(allL g l++r).length≤3000)(hm:∀x∈allL g l++r,x.length≤3000):
 f_S_l5Take (allL g l++r) g=some ((l,((allL g l).length:Int),()),()):=by
 have:=takeS_good hg hr l [] [] h he (by simpa using hn) (Nat.le_refl _) hm
 unfold f_S_l5Take
 rw[show w_S_l5Take_3 (allL g l++r,g,[],0,())=_ from this]
 show some ((l,((0+(allL g l).length:Nat):Int),()),())=_
 rw[Nat.zero_add]
end R.V
end

section
/- Steps, read: the head of one, and what comes behind it, on both sides, whatever the lines are. -/
open Go Go.Dn
namespace R.V
set_option linter.unusedVariables false
theorem b97 (c:UInt8):((c.toNat:Int)==97)=(c==97):=Go.Dn.byte_eq (n:=97) (by omega)
theorem b99 (c:UInt8):((c.toNat:Int)==99)=(c==99):=Go.Dn.byte_eq (n:=99) (by omega)
theorem b100 (c:UInt8):((c.toNat:Int)==100)=(c==100):=Go.Dn.byte_eq (n:=100) (by omega)
theorem sg3_or (c:UInt8):sg3.contains c=(c==97||(c==99||c==100)):=by
 unfold sg3
 simp only[List.contains_cons,List.contains_nil,Bool.or_false]
def mkS (a b c d:Int):PV Y_impl_Step:=(a,(b,(([]:PV S_string),(c,(d,(([]:PV S_string),()))))))
abbrev RI:=(PV S_string×PV S_impl_Step×Unit)⊕((PV S_impl_Step×Unit)⊕(PV S_impl_Step×PV .bool×Unit))
def failI:Option RI:=some (.inr (.inr ([],false,())))
def headN (l0:List UInt8):Option (Nat×Nat×Nat×Nat×Nat):=
 if Lib.indexAny (plainB l0) sg3<0 then none else
  match twoN ((plainB l0).take (Lib.indexAny (plainB l0) sg3).toNat) with
  |none=>none
  |some (a,b,_)=>match twoN ((plainB l0).drop ((Lib.indexAny (plainB l0) sg3).toNat+1)) with
   |none=>none
   |some (c,d,_)=>some (a,b,c,d,(Lib.indexAny (plainB l0) sg3).toNat)
noncomputable def restI (t:TX)(out:SR)(x:PV Y_impl_Step)(w:UInt8):Option RI:=
 ((bif !(w==97) then(f_I_takeShown t ltL).bind fun r13=>some (r13.1.2.1,(x.1,(x.2.1,(r13.1.1,x.2.2.2)))) else some (t,x):Option (PV S_string×PV Y_impl_Step))).bind fun j14=>
   ((bif w==99 then
      (bif (bif ((List.length j14.1:Int)==0) then true else !((List.getD j14.1 ((0:Int).toNat) [])==midL)) then some (.inr ()) else some (.inl (List.drop 1 j14.1)))
     else some (.inl j14.1):Option (PV S_string⊕Unit))).bind fun z=>
     match z with
     | .inr _=>failI
     | .inl t2=>
       ((bif !(w==100) then(f_I_takeShown t2 gtL).bind fun r18=>some (r18.1.2.1,(j14.2.1,(j14.2.2.1,(j14.2.2.2.1,(j14.2.2.2.2.1,(j14.2.2.2.2.2.1,(r18.1.1,j14.2.2.2.2.2.2.2))))))) else some (t2,j14.2):Option (PV S_string×PV Y_impl_Step))).bind fun j19=>
         some (.inl (j19.1,out++[j19.2],()))
theorem cut1 (t:TX)(h:t.length≠0):cutB 1 (t.length:Int) t.length=true∧cutL 1 (t.length:Int) t=t.drop 1:=
 ⟨cutB_drop (j:=1) (by omega),cutL_drop 1 t⟩
theorem pre_I (l0:List UInt8)(t:TX)(out:SR)(h0:l0.length≤3000)(hn:t.length≤3000)(hm:∀l∈t,l.length≤3000)(ho:out.length≤20):
 b_I_readSteps_2 (l0::t) out=(if out.length=20 then failI else match headN l0 with|none=>failI|some (a,b,c,d,j)=>restI t out (mkS a b c d) ((plainB l0).getD j 0))∧
 (∀a b c d j,headN l0=some (a,b,c,d,j)→j<(plainB l0).length):=by
 have hpl:=plainB_le l0
 constructor
 ·unfold b_I_readSteps_2
  rw[decide_eq_true (by simp only[List.length_cons];omega:(((l0::t).length:Nat):Int)>0),cond_true,show inB 0 (l0::t).length=true from inB_lt (i:=0) (by simp),cond_true,show(l0::t).getD ((0:Int).toNat) []=l0 from rfl,plain_I l0 (by omega),Option.bind_some]
  dsimp only
  rw[any_I _ (by omega),Option.bind_some]
  dsimp only
  rcases iany_rng sg3 (plainB l0) with hi|⟨hi1,hi2⟩
  ·rw[hi]
   have:headN l0=none:=by unfold headN;rw[hi];rfl
   rw[this]
   dsimp only
   split<;>rfl
  ·obtain⟨j,hj⟩:∃j:Nat,Lib.indexAny (plainB l0) sg3=(j:Int):=⟨_,(Int.toNat_of_nonneg hi1).symm⟩
   rw[hj] at hi2 ⊢
   have hjl:j<(plainB l0).length:=by omega
   rw[decide_eq_false (by omega:¬(j:Int)<0),cond_false,Option.bind_some]
   dsimp only
   by_cases h60:out.length=20
   ·rw[if_pos h60,show((out.length:Int)==20)=true from by rw[h60];rfl]
    rfl
   ·rw[if_neg h60,show((out.length:Int)==20)=false from beq_eq_false_iff_ne.2 (by omega),cond_false,cutB_take (by omega),cond_true,cutL_take,wrap64 (by omega) (by omega),show(j:Int)+1=((j+1:Nat):Int) by omega,cutB_drop (by omega),cutL_drop]
    have hN:headN l0=match twoN ((plainB l0).take j) with
     |none=>none
     |some (a,b,_)=>match twoN ((plainB l0).drop (j+1)) with
      |none=>none
      |some (c,d,_)=>some (a,b,c,d,j):=by
     unfold headN
     rw[hj,if_neg (by omega),toNat_cast]
    rw[hN]
    have hl1:((plainB l0).take j).length≤100000:=by rw[List.length_take];omega
    have hl2:((plainB l0).drop (j+1)).length≤100000:=by rw[List.length_drop];omega
    rcases readTwo_I _ hl1 with⟨a,b,q,h1,h2⟩|⟨h1,a,b,q,h2⟩
    ·rw[h1,h2,Option.bind_some,cond_true]
     dsimp only
     rcases readTwo_I _ hl2 with⟨c,d,q',h3,h4⟩|⟨h3,c,d,q',h4⟩
     ·rw[h3,h4,Option.bind_some]
      dsimp only
      rw[Bool.not_true,cond_false,Option.bind_some]
      dsimp only
      rw[cond_false,drop_ok,cond_true,drop_one,inB_lt hjl,cond_true,toNat_cast,b97]
      have hr:∀x:PV Y_impl_Step,roomB (out.length+[x].length)=true:=fun x=>roomB_ok (by simp only[List.length_cons,List.length_nil];omega)
      obtain⟨w,hw⟩:∃w,(plainB l0).getD j 0=w:=⟨_,rfl⟩
      unfold restI mkS
      rw[hw,show([60,32]:List UInt8)=ltL from rfl,show([62,32]:List UInt8)=gtL from rfl,show([45,45,45,10]:List UInt8)=midL from rfl]
      have fin:∀(t1:TX) (x1:PV Y_impl_Step),(((bif inB (j:Int) (plainB l0).length then
       bif ((((plainB l0).getD (j:Int).toNat 0).toNat:Int)==99) then
        ((bif ((t1.length:Int)==0) then some (t1,out,plainB l0,(j:Int),x1,true,()) else bif inB 0 t1.length then some (t1,out,plainB l0,(j:Int),x1,(!((t1.getD ((0:Int).toNat) [])==midL)),()) else none:Option ((PV S_string×PV S_impl_Step×PV .str×PV (.int .i64)×PV Y_impl_Step×PV .bool×Unit)))).bind fun j16=>
          bif j16.2.2.2.2.2.1 then some (.inr ([],false,())) else bif cutB 1 (j16.1.length:Int) j16.1.length then some (.inl ((cutL 1 (j16.1.length:Int) j16.1),j16.2.1,j16.2.2.1,j16.2.2.2.1,j16.2.2.2.2.1,())) else none
       else some (.inl (t1,out,plainB l0,(j:Int),x1,()))
       else none:Option ((PV S_string×PV S_impl_Step×PV .str×PV (.int .i64)×PV Y_impl_Step×Unit)⊕(PV S_impl_Step×PV .bool×Unit)))).bind fun x25=>
        match x25 with
        | .inl j17=>
          ((bif inB j17.2.2.2.1 j17.2.2.1.length then
             bif (!(((j17.2.2.1.getD j17.2.2.2.1.toNat 0).toNat:Int)==100)) then
              (f_I_takeShown j17.1 gtL).bind fun r18=>some (r18.1.2.1,j17.2.1,(j17.2.2.2.2.1.1,(j17.2.2.2.2.1.2.1,(j17.2.2.2.2.1.2.2.1,(j17.2.2.2.2.1.2.2.2.1,(j17.2.2.2.2.1.2.2.2.2.1,(r18.1.1,j17.2.2.2.2.1.2.2.2.2.2.2)))))),())
             else some (j17.1,j17.2.1,j17.2.2.2.2.1,())
            else none:Option ((PV S_string×PV S_impl_Step×PV Y_impl_Step×Unit)))).bind fun j19=>
            bif roomB (j19.2.1.length+[j19.2.2.1].length) then some (.inl (j19.1,(j19.2.1++[j19.2.2.1]),())) else none
        | .inr j20=>some (.inr (.inr (j20.1,j20.2.1,()))))=
       (((bif w==99 then(bif (bif ((List.length t1:Int)==0) then true else !((List.getD t1 ((0:Int).toNat) [])==midL)) then some (.inr ()) else some (.inl (List.drop 1 t1))) else some (.inl t1):Option (PV S_string⊕Unit))).bind fun z=>
         match z with
         | .inr _=>failI
         | .inl t2=>((bif !(w==100) then(f_I_takeShown t2 gtL).bind fun r18=>some (r18.1.2.1,(x1.1,(x1.2.1,(x1.2.2.1,(x1.2.2.2.1,(x1.2.2.2.2.1,(r18.1.1,x1.2.2.2.2.2.2))))))) else some (t2,x1):Option (PV S_string×PV Y_impl_Step))).bind fun j19=>some (.inl (j19.1,out++[j19.2],()))):=by
       intro t1 x1
       have e2:∀t2:TX,(((bif inB (j:Int) (plainB l0).length then
        bif (!((((plainB l0).getD (j:Int).toNat 0).toNat:Int)==100)) then
         (f_I_takeShown t2 gtL).bind fun r18=>some (r18.1.2.1,out,(x1.1,(x1.2.1,(x1.2.2.1,(x1.2.2.2.1,(x1.2.2.2.2.1,(r18.1.1,x1.2.2.2.2.2.2)))))),())
        else some (t2,out,x1,())
        else none:Option ((PV S_string×PV S_impl_Step×PV Y_impl_Step×Unit)))).bind fun j19=>
        bif roomB (j19.2.1.length+[j19.2.2.1].length) then some (.inl (j19.1,(j19.2.1++[j19.2.2.1]),())) else none:Option RI)=
        ((bif !(w==100) then(f_I_takeShown t2 gtL).bind fun r18=>some (r18.1.2.1,(x1.1,(x1.2.1,(x1.2.2.1,(x1.2.2.2.1,(x1.2.2.2.2.1,(r18.1.1,x1.2.2.2.2.2.2))))))) else some (t2,x1):Option (PV S_string×PV Y_impl_Step))).bind fun j19=>some (.inl (j19.1,out++[j19.2],())):=by
        intro t2
        rw[inB_lt hjl,cond_true,toNat_cast,hw,b100]
        cases !(w==100)
        ·rw[cond_false,cond_false,Option.bind_some,Option.bind_some]
         dsimp only
         rw[hr,cond_true]
        ·rw[cond_true,cond_true]
         cases f_I_takeShown t2 gtL with
         |none=>rfl
         |some r=>
          rw[Option.bind_some,Option.bind_some,Option.bind_some,Option.bind_some]
          dsimp only
          rw[hr,cond_true]
       rw[inB_lt hjl,cond_true,toNat_cast,hw,b99]
       cases hw9:w==99
       ·rw[cond_false,cond_false,Option.bind_some,Option.bind_some]
        exact e2 t1
       ·rw[cond_true,cond_true]
        by_cases hz:t1.length=0
        ·rw[show((t1.length:Int)==0)=true from by rw[hz];rfl,cond_true,cond_true]
         rfl
        ·rw[show((t1.length:Int)==0)=false from beq_eq_false_iff_ne.2 (by omega),cond_false,cond_false,show inB 0 t1.length=true from inB_lt (i:=0) (by omega),cond_true,Option.bind_some]
         dsimp only
         cases !((List.getD t1 ((0:Int).toNat) [])==midL)
         ·rw[cond_false,cond_false,(cut1 t1 hz).1,cond_true,(cut1 t1 hz).2,Option.bind_some,Option.bind_some]
          exact e2 _
         ·rfl
      cases hw7: !(w==97)
      ·rw[cond_false,cond_false,Option.bind_some,Option.bind_some]
       exact fin t _
      ·rw[cond_true,cond_true]
       cases f_I_takeShown t ltL with
       |none=>rfl
       |some r=>
        rw[Option.bind_some,Option.bind_some,Option.bind_some,Option.bind_some]
        exact fin _ _
     ·rw[h3,h4]
      rfl
    ·rw[h1,h2,Option.bind_some,cond_true]
     dsimp only
     rcases readTwo_I _ hl2 with⟨c,d,q',h3,h4⟩|⟨h3,c,d,q',h4⟩
     ·rw[h4];rfl
     ·rw[h4];rfl
 ·intro a b c d j hh
  unfold headN at hh
  rcases iany_rng sg3 (plainB l0) with hi|⟨hi1,hi2⟩
  ·rw[hi] at hh;cases hh
  ·rw[if_neg (by omega)] at hh
   split at hh
   ·cases hh
   ·split at hh
    ·cases hh
    ·injection hh with hh
     simp only[Prod.mk.injEq] at hh
     omega
end R.V
end

section
/- Steps, read: the head of one, and what comes behind it, as the reference reads them. -/
open Go Go.Dn
namespace R.V
set_option linter.unusedVariables false
theorem l5Head_loop (h:List UInt8)(hs:h.length≤3000)(x:PV Y_impl_Step):w_S_l5Head_2 (h,x,0,())=some (h,x,((h.findIdx fun c=>sg3.contains c:Nat):Int),()):=by
 rw[show w_S_l5Head_2 (h,x,0,())=_ from fix_any (B:=fun d=>b_S_l5Head_2 d.1 d.2.1 d.2.2.1) h (fun c=>sg3.contains c) (fun i=>(h,x,(i:Int),())) (fun i=>(h,x,(i:Int),())) (h,x,(h.length:Int),())
  (fun i hi hq=>by
    show b_S_l5Head_2 h x i=_
    rw[sg3_or,Bool.or_eq_false_iff,Bool.or_eq_false_iff] at hq
    unfold b_S_l5Head_2
    rw[decide_eq_true (by omega:(i:Int)<(h.length:Int)),cond_true,inB_lt hi,cond_true,toNat_cast,getD_of hi,b97,hq.1,Bool.not_false,cond_true,cond_true,b99,hq.2.1,Bool.not_false,cond_true,cond_true,b100,hq.2.2,Bool.not_false,cond_true,wrap64 (by omega) (by omega)];rfl)
  (fun i hi hq=>by
    show b_S_l5Head_2 h x i=_
    rw[sg3_or] at hq
    unfold b_S_l5Head_2
    rw[decide_eq_true (by omega:(i:Int)<(h.length:Int)),cond_true,inB_lt hi,cond_true,toNat_cast,getD_of hi,b97]
    cases h1:h[i]==97
    ·rw[Bool.not_false,cond_true,cond_true,b99]
     cases h2:h[i]==99
     ·rw[h1,h2,Bool.false_or,Bool.false_or] at hq
      rw[Bool.not_false,cond_true,cond_true,b100,hq,Bool.not_true,cond_false]
     ·rw[Bool.not_true,cond_false]
    ·rw[Bool.not_true,cond_false])
  (by
    show b_S_l5Head_2 h x h.length=_
    unfold b_S_l5Head_2
    rw[decide_eq_false (Int.lt_irrefl _),cond_false])]
 cases ha:h.any fun c=>sg3.contains c
 ·rw[if_neg (by simp)]
  have:h.findIdx (fun c=>sg3.contains c)=h.length:=List.findIdx_eq_length.2 fun c hc=>by simpa using List.any_eq_false.1 ha c hc
  rw[this]
 ·rw[if_pos rfl]
def ixS (h:List UInt8):Nat:=h.findIdx fun c=>sg3.contains c
theorem ixS_le (h:List UInt8):ixS h≤h.length:=List.findIdx_le_length
def hS (h:List UInt8):Option (Int×Int×Int×Int×UInt8):=
 if ixS h=h.length then none else
  if ((endR 0 (h.take (ixS h))).2.2.1&&(endR 0 (h.drop (ixS h+1))).2.2.1)=true then
   some ((endR 0 (h.take (ixS h))).1,(endR 0 (h.take (ixS h))).2.1,(endR 0 (h.drop (ixS h+1))).1,(endR 0 (h.drop (ixS h+1))).2.1,h.getD (ixS h) 0)
  else none
theorem head_S (h:List UInt8)(hs:h.length≤3000):f_S_l5Head h=some ((match hS h with|none=>(mkS 0 0 0 0,0,false,())|some (a,b,c,d,w)=>(mkS a b c d,(w.toNat:Int),true,())),()):=by
 have hle:=ixS_le h
 unfold f_S_l5Head
 rw[l5Head_loop h hs,Option.bind_some]
 dsimp only
 rw[show(h.findIdx fun c=>sg3.contains c)=ixS h from rfl]
 unfold hS
 by_cases h1:ixS h=h.length
 ·rw[if_pos h1,show((ixS h:Int)==(h.length:Int))=true from beq_iff_eq.2 (by omega)];rfl
 ·rw[if_neg h1,show((ixS h:Int)==(h.length:Int))=false from beq_eq_false_iff_ne.2 (by omega),cond_false,cutB_take hle,cond_true,cutL_take,readPair_S _ (by rw[List.length_take];omega),Option.bind_some]
  dsimp only
  rw[wrap64 (by omega) (by omega),show(ixS h:Int)+1=((ixS h+1:Nat):Int) by omega,cutB_drop (by omega),cond_true,cutL_drop,readPair_S _ (by rw[List.length_drop];omega),Option.bind_some]
  dsimp only
  cases(endR 0 (h.take (ixS h))).2.2.1
  ·rfl
  ·rw[Bool.not_true,cond_false,Option.bind_some]
   dsimp only
   cases(endR 0 (h.drop (ixS h+1))).2.2.1
   ·rfl
   ·rw[Bool.not_true,cond_false,inB_lt (by omega),cond_true,toNat_cast]
    rfl
abbrev RS:=(PV .str×PV S_string×PV S_impl_Step×Unit)⊕((PV .str×PV S_impl_Step×Unit)⊕(PV S_impl_Step×PV (.int .i64)×PV .bool×Unit))
def failS:Option RS:=some (.inr (.inr ([],1,false,())))
noncomputable def restS (s:List UInt8)(t:TX)(out:SR)(x:PV Y_impl_Step)(w:UInt8):Option RS:=
 ((bif !(w==97) then(f_S_l5Take t ltL).bind fun r8=>(bif cutB r8.1.2.1 (t.length:Int) t.length then some (cutL r8.1.2.1 (t.length:Int) t,(x.1,(x.2.1,(r8.1.1,x.2.2.2)))) else none) else some (t,x):Option (PV S_string×PV Y_impl_Step))).bind fun j9=>
   ((bif !(w==100) then(f_S_l5Take (bif w==99 then List.drop 1 j9.1 else j9.1) gtL).bind fun r13=>
      (bif cutB r13.1.2.1 (List.length (bif w==99 then List.drop 1 j9.1 else j9.1:PV S_string):Int) (List.length (bif w==99 then List.drop 1 j9.1 else j9.1:PV S_string)) then
        some (cutL r13.1.2.1 (List.length (bif w==99 then List.drop 1 j9.1 else j9.1:PV S_string):Int) (bif w==99 then List.drop 1 j9.1 else j9.1),(j9.2.1,(j9.2.2.1,(j9.2.2.2.1,(j9.2.2.2.2.1,(j9.2.2.2.2.2.1,(r13.1.1,j9.2.2.2.2.2.2.2))))))) else none)
     else some ((bif w==99 then List.drop 1 j9.1 else j9.1),j9.2):Option (PV S_string×PV Y_impl_Step))).bind fun j14=>
     some (.inl (s,j14.1,out++[j14.2],()))
theorem drop0 (t:TX):(bif (decide ((t.length:Int)>0)) then(bif cutB 1 (t.length:Int) t.length then some (cutL 1 (t.length:Int) t) else none) else some t:Option (PV S_string))=some (List.drop 1 t):=by
 by_cases h:t.length=0
 ·obtain rfl:t=[]:=List.eq_nil_of_length_eq_zero h
  rfl
 ·rw[decide_eq_true (by omega),cond_true,(cut1 t h).1,cond_true,(cut1 t h).2]
theorem pre_S (s l0:List UInt8)(t:TX)(out:SR)(h1:1≤l0.length)(h0:l0.length≤3000)(hn:t.length≤3000)(ho:out.length≤3000):
 b_S_ReadNormal_5 s (l0::t) out=match hS (plainB l0) with|none=>failS|some (a,b,c,d,w)=>restS s t out (mkS a b c d) w:=by
 have hpl:=plainB_le l0
 have hr:∀x:PV Y_impl_Step,roomB (out.length+[x].length)=true:=fun x=>roomB_ok (by simp only[List.length_cons,List.length_nil];omega)
 unfold b_S_ReadNormal_5
 rw[decide_eq_true (by simp only[List.length_cons];omega:(((l0::t).length:Nat):Int)>0),cond_true,show inB 0 (l0::t).length=true from inB_lt (i:=0) (by simp),cond_true,show(l0::t).getD ((0:Int).toNat) []=l0 from rfl,plain_S l0 h1 (by omega),Option.bind_some]
 dsimp only
 rw[head_S _ (by omega),Option.bind_some]
 cases hh:hS (plainB l0) with
 |none=>rfl
 |some q=>
  obtain⟨a,b,c,d,w⟩:=q
  dsimp only
  rw[Bool.not_true,cond_false,drop_ok,cond_true,drop_one,b97]
  unfold restS
  rw[show([60,32]:List UInt8)=ltL from rfl,show([62,32]:List UInt8)=gtL from rfl]
  have fin:∀(t1:TX) (x1:PV Y_impl_Step),
   ((((bif ((w.toNat:Int)==99) then some (s,t1,out,x1,(w.toNat:Int),(decide ((t1.length:Int)>0)),()) else some (s,t1,out,x1,(w.toNat:Int),false,()):Option ((PV .str×PV S_string×PV S_impl_Step×PV Y_impl_Step×PV (.int .u8)×PV .bool×Unit)))).bind fun j10=>
     bif j10.2.2.2.2.2.1 then bif cutB 1 (j10.2.1.length:Int) j10.2.1.length then some (j10.1,(cutL 1 (j10.2.1.length:Int) j10.2.1),j10.2.2.1,j10.2.2.2.1,j10.2.2.2.2.1,()) else none
     else some (j10.1,j10.2.1,j10.2.2.1,j10.2.2.2.1,j10.2.2.2.2.1,()):Option ((PV .str×PV S_string×PV S_impl_Step×PV Y_impl_Step×PV (.int .u8)×Unit))))=
   some (s,(bif w==99 then List.drop 1 t1 else t1),out,x1,(w.toNat:Int),()):=by
   intro t1 x1
   rw[b99]
   cases w==99
   ·rfl
   ·rw[cond_true,cond_true,Option.bind_some]
    dsimp only
    have:=drop0 t1
    by_cases hz:t1.length=0
    ·obtain rfl:t1=[]:=List.eq_nil_of_length_eq_zero hz
     rfl
    ·rw[decide_eq_true (by omega),cond_true,(cut1 t1 hz).1,cond_true,(cut1 t1 hz).2]
  cases hw7: !(w==97)
  ·rw[cond_false,cond_false,Option.bind_some,Option.bind_some]
   dsimp only
   rw[fin,Option.bind_some]
   dsimp only
   rw[b100]
   cases !(w==100)
   ·rw[cond_false,cond_false,Option.bind_some,Option.bind_some]
    dsimp only
    rw[hr,cond_true]
   ·rw[cond_true,cond_true]
    cases f_S_l5Take (bif w==99 then List.drop 1 t else t) gtL with
    |none=>rfl
    |some r=>
     rw[Option.bind_some,Option.bind_some]
     cases cutB r.1.2.1 (List.length (bif w==99 then List.drop 1 t else t:PV S_string):Int) (List.length (bif w==99 then List.drop 1 t else t:PV S_string))
     ·rfl
     ·rw[cond_true,cond_true,Option.bind_some,Option.bind_some]
      dsimp only
      rw[hr,cond_true]
  ·rw[cond_true,cond_true]
   cases f_S_l5Take t ltL with
   |none=>rfl
   |some r0=>
    rw[Option.bind_some,Option.bind_some]
    cases cutB r0.1.2.1 (t.length:Int) t.length
    ·rfl
    ·rw[cond_true,cond_true,Option.bind_some,Option.bind_some]
     dsimp only
     rw[fin,Option.bind_some]
     dsimp only
     rw[b100]
     generalize cutL r0.1.2.1 (t.length:Int) t=t1
     cases !(w==100)
     ·rw[cond_false,cond_false,Option.bind_some,Option.bind_some]
      dsimp only
      rw[hr,cond_true]
     ·rw[cond_true,cond_true]
      cases f_S_l5Take (bif w==99 then List.drop 1 t1 else t1) gtL with
      |none=>rfl
      |some r=>
       rw[Option.bind_some,Option.bind_some]
       cases cutB r.1.2.1 (List.length (bif w==99 then List.drop 1 t1 else t1:PV S_string):Int) (List.length (bif w==99 then List.drop 1 t1 else t1:PV S_string))
       ·rfl
       ·rw[cond_true,cond_true,Option.bind_some,Option.bind_some]
        dsimp only
        rw[hr,cond_true]
end R.V
end

section
/- Steps, read: both readers end, whatever the lines are. -/
open Go Go.Dn
namespace R.V
set_option linter.unusedVariables false
def OW (x:PV Y_impl_Step):Prop:=(List.length x.2.2.1≤3000∧∀l∈(x.2.2.1:TX),l.length≤3000)∧(List.length x.2.2.2.2.2.1≤3000∧∀l∈(x.2.2.2.2.2.1:TX),l.length≤3000)
theorem OW.tot {gs:SR}(hl:gs.length≤3000)(h:∀x∈gs,OW x):tot S_impl_Step gs≤4611686018427387904:=by
 have hx:∀x∈gs,Go.Dn.tot Y_impl_Step x≤20000000:=fun x hx=>by
  obtain⟨⟨h1,h2⟩,h3,h4⟩:=h x hx
  have h5:Go.Dn.tot S_string x.2.2.1≤(3000+1)*List.length x.2.2.1:=tot_le fun s hs=>by
   have:=h2 s hs
   rw[tot_str];exact this
  have h6:Go.Dn.tot S_string x.2.2.2.2.2.1≤(3000+1)*List.length x.2.2.2.2.2.1:=tot_le fun s hs=>by
   have:=h4 s hs
   rw[tot_str];exact this
  simp only[Go.Dn.tot] at h5 h6 ⊢
  omega
 have h5:Go.Dn.tot S_impl_Step gs≤(20000000+1)*gs.length:=tot_le hx
 omega
theorem mk_ow (a b c d:Int):OW (mkS a b c d):=⟨⟨Nat.zero_le _,fun l h=>by cases h⟩,Nat.zero_le _,fun l h=>by cases h⟩
theorem restI_tot (t:TX)(out:SR){x:PV Y_impl_Step}(w:UInt8)(hx:OW x)(hn:t.length≤3000)(hm:∀l∈t,l.length≤3000):
 restI t out x w=failI∨∃(y:PV Y_impl_Step) (r:TX),restI t out x w=some (.inl (r,out++[y],()))∧OW y∧r.length≤t.length∧∀l∈r,l∈t:=by
 have s1:∃(t1:TX) (x1:PV Y_impl_Step),((bif !(w==97) then(f_I_takeShown t ltL).bind fun r13=>some (r13.1.2.1,(x.1,(x.2.1,(r13.1.1,x.2.2.2)))) else some (t,x):Option (PV S_string×PV Y_impl_Step)))=some (t1,x1)∧OW x1∧t1.length≤t.length∧∀l∈t1,l∈t:=by
  cases !(w==97)
  ·exact⟨t,x,rfl,hx,Nat.le_refl _,fun l h=>h⟩
  ·obtain⟨o,r,q1,q2,q3,q4,q5⟩:=takeShown_tot ltL (by decide) t hn hm
   rw[cond_true,q1,Option.bind_some]
   exact⟨r,_,rfl,⟨⟨q2,q5⟩,hx.2⟩,q3,q4⟩
 obtain⟨t1,x1,e1,o1,n1,m1⟩:=s1
 have s2:((bif w==99 then
  (bif (bif ((List.length t1:Int)==0) then true else !((List.getD t1 ((0:Int).toNat) [])==midL)) then some (.inr ()) else some (.inl (List.drop 1 t1)))
  else some (.inl t1):Option (PV S_string⊕Unit)))=some (.inr ())∨∃t2:TX,((bif w==99 then
   (bif (bif ((List.length t1:Int)==0) then true else !((List.getD t1 ((0:Int).toNat) [])==midL)) then some (.inr ()) else some (.inl (List.drop 1 t1)))
  else some (.inl t1):Option (PV S_string⊕Unit)))=some (.inl t2)∧t2.length≤t1.length∧∀l∈t2,l∈t1:=by
  cases w==99
  ·exact .inr ⟨t1,rfl,Nat.le_refl _,fun l h=>h⟩
  ·rw[cond_true]
   cases(bif ((List.length t1:Int)==0) then true else !((List.getD t1 ((0:Int).toNat) [])==midL))
   ·exact .inr ⟨List.drop 1 t1,rfl,by rw[List.length_drop];omega,fun l h=>List.mem_of_mem_drop h⟩
   ·exact .inl rfl
 unfold restI
 rw[e1,Option.bind_some]
 dsimp only
 rcases s2 with e2|⟨t2,e2,n2,m2⟩
 ·rw[e2];exact .inl rfl
 ·right
  rw[e2,Option.bind_some]
  dsimp only
  cases !(w==100)
  ·rw[cond_false,Option.bind_some]
   exact⟨x1,t2,rfl,o1,by omega,fun l h=>m1 l (m2 l h)⟩
  ·obtain⟨o,r,q1,q2,q3,q4,q5⟩:=takeShown_tot gtL (by decide) t2 (by omega) (fun l h=>hm l (m1 l (m2 l h)))
   rw[cond_true,q1,Option.bind_some,Option.bind_some]
   exact⟨_,r,rfl,⟨o1.1,q2,q5⟩,by omega,fun l h=>m1 l (m2 l (q4 l h))⟩
noncomputable abbrev BI (d:PV S_string×PV S_impl_Step×Unit):=b_I_readSteps_2 d.1 d.2.1
theorem go_I {ls:TX}{out:SR}{d r}(h:b_I_readSteps_2 ls out=some (.inl d))(h2:w_I_readSteps_2 d=some r):w_I_readSteps_2 (ls,out,())=some r:=Eq.trans (fix_go (B:=BI) (s:=(ls,out,())) (t:=d) h) h2
theorem end_I {ls:TX}{out:SR}{r}(h:b_I_readSteps_2 ls out=some (.inr r)):w_I_readSteps_2 (ls,out,())=some r:=fix_end (B:=BI) (s:=(ls,out,())) h
theorem raw_I:∀(n:Nat) (ls:TX) (out:SR),ls.length≤n→ls.length≤3000→(∀l∈ls,l.length≤3000)→out.length≤20→(∀x∈out,OW x)→
 ∃gs:SR,gs.length≤20∧(∀x∈gs,OW x)∧(w_I_readSteps_2 (ls,out,())=some (.inl (gs,()))∨w_I_readSteps_2 (ls,out,())=some (.inr (gs,false,()))):=by
 have fail:∀{ls:TX} {out:SR},b_I_readSteps_2 ls out=failI→∃gs:SR,gs.length≤20∧(∀x∈gs,OW x)∧(w_I_readSteps_2 (ls,out,())=some (.inl (gs,()))∨w_I_readSteps_2 (ls,out,())=some (.inr (gs,false,()))):=
  fun h=>⟨[],Nat.zero_le _,fun x hx=>(by cases hx),.inr (end_I h)⟩
 intro n
 induction n with
 |zero=>
  intro ls out h _ _ ho hg
  obtain rfl:ls=[]:=List.eq_nil_of_length_eq_zero (by omega)
  exact⟨out,ho,hg,.inl (end_I rfl)⟩
 |succ n ih=>
  intro ls out h h1 hm ho hg
  cases ls with
  |nil=>exact⟨out,ho,hg,.inl (end_I rfl)⟩
  |cons l0 t=>
   simp only[List.length_cons] at h h1
   have hmt:∀l∈t,l.length≤3000:=fun l hl=>hm l (List.mem_cons_of_mem _ hl)
   have hs:=(pre_I l0 t out (hm l0 (List.mem_cons_self ..)) (by omega) hmt ho).1
   by_cases h60:out.length=20
   ·rw[if_pos h60] at hs;exact fail hs
   ·rw[if_neg h60] at hs
    cases hh:headN l0 with
    |none=>rw[hh] at hs;exact fail hs
    |some q=>
     obtain⟨a,b,c,d,j⟩:=q
     rw[hh] at hs
     dsimp only at hs
     rcases restI_tot t out ((plainB l0).getD j 0) (mk_ow a b c d) (by omega) hmt with e|⟨y,r,e,hy,hr,hmem⟩
     ·rw[e] at hs;exact fail hs
     ·rw[e] at hs
      obtain⟨gs,q1,q2,q3⟩:=ih r (out++[y]) (by omega) (by omega) (fun l hl=>hmt l (hmem l hl)) (by simp;omega) (fun z hz=>by
       rcases List.mem_append.1 hz with hz|hz
       ·exact hg z hz
       ·obtain rfl:=List.mem_singleton.1 hz
        exact hy)
      exact⟨gs,q1,q2,q3.imp (go_I hs) (go_I hs)⟩
theorem readRaw_I (ls:TX)(h1:ls.length≤3000)(hm:∀l∈ls,l.length≤3000):∃(gs:SR) (q:Bool),f_I_readSteps ls=some ((gs,q,()),())∧tot S_impl_Step gs≤4611686018427387904:=by
 obtain⟨gs,q1,q2,q3⟩:=raw_I ls.length ls [] (Nat.le_refl _) h1 hm (Nat.zero_le _) (fun x hx=>by cases hx)
 unfold f_I_readSteps
 rcases q3 with e|e
 ·rw[show w_I_readSteps_2 (ls,([]:PV S_impl_Step),())=_ from e];exact⟨gs,true,rfl,OW.tot (by omega) q2⟩
 ·rw[show w_I_readSteps_2 (ls,([]:PV S_impl_Step),())=_ from e];exact⟨gs,false,rfl,OW.tot (by omega) q2⟩
theorem takeS_at (g:List UInt8)(hg:g.length≤100)(t:TX)(h1:t.length≤3000)(hm:∀l∈t,l.length≤3000):
 ∃(o:TX) (k:Nat),f_S_l5Take t g=some ((o,(k:Int),()),())∧cutB (k:Int) (t.length:Int) t.length=true∧cutL (k:Int) (t.length:Int) t=t.drop k∧(t.drop k).length≤t.length∧o.length≤3000∧∀l∈o,l.length≤3000:=by
 obtain⟨o,k,q1,q2,q3,q4⟩:=l5Take_tot g hg t h1 hm
 exact⟨o,k,q1,cutB_drop q2,cutL_drop k t,by rw[List.length_drop];omega,q3,q4⟩
theorem restS_tot (s:List UInt8)(t:TX)(out:SR){x:PV Y_impl_Step}(w:UInt8)(hx:OW x)(hn:t.length≤3000)(hm:∀l∈t,l.length≤3000):
 ∃(y:PV Y_impl_Step) (r:TX),restS s t out x w=some (.inl (s,r,out++[y],()))∧OW y∧r.length≤t.length∧∀l∈r,l∈t:=by
 have s1:∃(t1:TX) (x1:PV Y_impl_Step),((bif !(w==97) then(f_S_l5Take t ltL).bind fun r8=>(bif cutB r8.1.2.1 (t.length:Int) t.length then some (cutL r8.1.2.1 (t.length:Int) t,(x.1,(x.2.1,(r8.1.1,x.2.2.2)))) else none) else some (t,x):Option (PV S_string×PV Y_impl_Step)))=some (t1,x1)∧OW x1∧t1.length≤t.length∧∀l∈t1,l∈t:=by
  cases !(w==97)
  ·exact⟨t,x,rfl,hx,Nat.le_refl _,fun l h=>h⟩
  ·obtain⟨o,k,q1,q2,q3,q4,q5,q6⟩:=takeS_at ltL (by decide) t hn hm
   rw[cond_true,q1,Option.bind_some]
   dsimp only
   rw[q2,cond_true,q3]
   exact⟨_,_,rfl,⟨⟨q5,q6⟩,hx.2⟩,q4,fun l h=>List.mem_of_mem_drop h⟩
 obtain⟨t1,x1,e1,o1,n1,m1⟩:=s1
 have s2:∃t2:TX,(bif w==99 then List.drop 1 t1 else t1)=t2∧t2.length≤t1.length∧∀l∈t2,l∈t1:=by
  cases w==99
  ·exact⟨t1,rfl,Nat.le_refl _,fun l h=>h⟩
  ·exact⟨List.drop 1 t1,rfl,by rw[List.length_drop];omega,fun l h=>List.mem_of_mem_drop h⟩
 obtain⟨t2,e2,n2,m2⟩:=s2
 unfold restS
 rw[e1,Option.bind_some]
 dsimp only
 rw[e2]
 cases !(w==100)
 ·rw[cond_false,Option.bind_some]
  exact⟨x1,t2,rfl,o1,by omega,fun l h=>m1 l (m2 l h)⟩
 ·obtain⟨o,k,q1,q2,q3,q4,q5,q6⟩:=takeS_at gtL (by decide) t2 (by omega) (fun l h=>hm l (m1 l (m2 l h)))
  rw[cond_true,q1,Option.bind_some]
  dsimp only
  rw[q2,cond_true,q3,Option.bind_some]
  exact⟨_,t2.drop k,rfl,⟨o1.1,q5,q6⟩,by omega,fun l h=>m1 l (m2 l (List.mem_of_mem_drop h))⟩
noncomputable abbrev BS (d:PV .str×PV S_string×PV S_impl_Step×Unit):=b_S_ReadNormal_5 d.1 d.2.1 d.2.2.1
theorem go_S {s:List UInt8}{ls:TX}{out:SR}{d r}(h:b_S_ReadNormal_5 s ls out=some (.inl d))(h2:w_S_ReadNormal_5 d=some r):w_S_ReadNormal_5 (s,ls,out,())=some r:=Eq.trans (fix_go (B:=BS) (s:=(s,ls,out,())) (t:=d) h) h2
theorem end_S {s:List UInt8}{ls:TX}{out:SR}{r}(h:b_S_ReadNormal_5 s ls out=some (.inr r)):w_S_ReadNormal_5 (s,ls,out,())=some r:=fix_end (B:=BS) (s:=(s,ls,out,())) h
theorem raw_S (s:List UInt8):∀(n:Nat) (ls:TX) (out:SR),ls.length≤n→out.length+ls.length≤3000→(∀l∈ls,1≤l.length∧l.length≤3000)→(∀x∈out,OW x)→
 (∃gs:SR,gs.length≤3000∧(∀x∈gs,OW x)∧w_S_ReadNormal_5 (s,ls,out,())=some (.inl (s,gs,())))∨w_S_ReadNormal_5 (s,ls,out,())=some (.inr ([],1,false,())):=by
 intro n
 induction n with
 |zero=>
  intro ls out h h1 _ hg
  obtain rfl:ls=[]:=List.eq_nil_of_length_eq_zero (by omega)
  exact .inl ⟨out,by simpa using h1,hg,end_S rfl⟩
 |succ n ih=>
  intro ls out h h1 hm hg
  cases ls with
  |nil=>exact .inl ⟨out,by simpa using h1,hg,end_S rfl⟩
  |cons l0 t=>
   simp only[List.length_cons] at h h1
   have hs:=pre_S s l0 t out (hm l0 (List.mem_cons_self ..)).1 (hm l0 (List.mem_cons_self ..)).2 (by omega) (by omega)
   have hmt:∀l∈t,1≤l.length∧l.length≤3000:=fun l hl=>hm l (List.mem_cons_of_mem _ hl)
   cases hh:hS (plainB l0) with
   |none=>rw[hh] at hs;exact .inr (end_S hs)
   |some q=>
    obtain⟨a,b,c,d,w⟩:=q
    rw[hh] at hs
    dsimp only at hs
    obtain⟨y,r,e,hy,hr,hmem⟩:=restS_tot s t out w (mk_ow a b c d) (by omega) (fun l hl=>(hmt l hl).2)
    rw[e] at hs
    rcases ih r (out++[y]) (by omega) (by simp;omega) (fun l hl=>hmt l (hmem l hl)) (fun z hz=>by
     rcases List.mem_append.1 hz with hz|hz
     ·exact hg z hz
     ·obtain rfl:=List.mem_singleton.1 hz
      exact hy) with⟨gs,q1,q2,q3⟩|q3
    ·exact .inl ⟨gs,q1,q2,go_S hs q3⟩
    ·exact .inr (go_S hs q3)
end R.V
end

section
/- Steps, read: what is written of good steps is read back by both. -/
open Go Go.Dn
namespace R.V
set_option linter.unusedVariables false
theorem ch_fact {c:UInt8}(h:isDg c=true∨c=44):sg3.contains c=false∧c≠10∧c≠60∧c≠62∧c≠92:=by
 rcases h with h|rfl
 ·have key:∀d:UInt8,isDg d=false→c≠d:=fun d hd e=>by rw[e,hd] at h;cases h
  refine⟨?_,key 10 rfl,key 60 rfl,key 62 rfl,key 92 rfl⟩
  rw[sg3_or,beq_eq_false_iff_ne.2 (key 97 rfl),beq_eq_false_iff_ne.2 (key 99 rfl),beq_eq_false_iff_ne.2 (key 100 rfl)]
  rfl
 ·exact⟨by decide,by decide,by decide,by decide,by decide⟩
theorem wordC_in (x:PV Y_impl_Step):(wordC x=97∨wordC x=99∨wordC x=100)∧sg3.contains (wordC x)=true∧wordC x≠10:=by
 unfold wordC
 split
 ·exact⟨.inl rfl,by decide,by decide⟩
 ·split
  ·exact⟨.inr (.inr rfl),by decide,by decide⟩
  ·exact⟨.inr (.inl rfl),by decide,by decide⟩
theorem findIdx_at {q:UInt8→Bool}{c:UInt8}(r:List UInt8)(hc:q c=true):∀{p:List UInt8},(∀b∈p,q b=false)→(p++c::r).findIdx q=p.length
 |[],_=>by rw[List.nil_append,List.findIdx_cons,hc];rfl
 |b::p,h=>by
  have ih:=findIdx_at (p:=p) r hc fun x hx=>h x (List.mem_cons_of_mem _ hx)
  rw[List.cons_append,List.findIdx_cons,h b (List.mem_cons_self ..),ih]
  rfl
theorem dec_ne {n:Nat}(h:n<10000):∃c r,dec n=c::r∧isDg c=true:=by
 have hc:=(canon_dec h).1
 cases hd:Lib.decDigits n with
 |nil=>rw[hd] at hc;cases hc
 |cons c r=>exact⟨c,r,hd,canon_dg hc c (by rw[hd];exact List.mem_cons_self ..)⟩
theorem pairT_ne {a b:Nat}(ha:a<10000):∃c r,pairT a b=c::r∧isDg c=true:=by
 obtain⟨c,r,e,h⟩:=dec_ne ha
 unfold pairT
 split
 ·exact⟨c,r,e,h⟩
 ·rw[e];exact⟨c,_,rfl,h⟩
theorem heads {x:PV Y_impl_Step}(h:stepP x=true):isL (headT x)∧
 (∃a b c d j:Nat,headN (headT x)=some (a,b,c,d,j)∧(plainB (headT x)).getD j 0=wordC x∧(x.1,(x.2.1,(([]:PV S_string),(x.2.2.2.1,(x.2.2.2.2.1,(([]:PV S_string),()))))))=mkS a b c d)∧
 hS (plainB (headT x))=some (x.1,x.2.1,x.2.2.2.1,x.2.2.2.2.1,wordC x)∧(∀g,g=ltL∨g=gtL→pre g (headT x)=false)∧headT x≠noneL:=by
 obtain⟨a,b,c,d,ea,eb,ec,ed,hab,hb,hcd,hd,_,_,_⟩:=step_facts h
 obtain⟨hw,hw1,hw2⟩:=wordC_in x
 have hch:∀e∈pairT a b,sg3.contains e=false∧e≠10∧e≠60∧e≠62∧e≠92:=fun e he=>ch_fact (pairT_ch (by omega) (by omega) e he)
 have hch2:∀e∈pairT c d,sg3.contains e=false∧e≠10∧e≠60∧e≠62∧e≠92:=fun e he=>ch_fact (pairT_ch (by omega) (by omega) e he)
 have hT:headT x=(pairT a b++wordC x::pairT c d)++[10]:=by
  unfold headT
  rw[ea,eb,ec,ed,toNat_cast,toNat_cast,toNat_cast,toNat_cast]
  simp
 have hpl:plainB (headT x)=pairT a b++wordC x::pairT c d:=by rw[hT,plainB_end]
 have hi:Lib.indexAny (pairT a b++wordC x::pairT c d) sg3=((pairT a b).length:Int):=iany_at _ hw1 fun e he=>(hch e he).1
 have hx:ixS (pairT a b++wordC x::pairT c d)=(pairT a b).length:=findIdx_at _ hw1 fun e he=>(hch e he).1
 have hdr:(pairT a b++wordC x::pairT c d).drop ((pairT a b).length+1)=pairT c d:=by rw[←List.drop_drop,List.drop_left];rfl
 have hget:(pairT a b++wordC x::pairT c d).getD (pairT a b).length 0=wordC x:=by simp[List.getD]
 obtain⟨q,hq⟩:=twoN_pair (a:=a) (b:=b) (by omega) (by omega)
 obtain⟨q',hq'⟩:=twoN_pair (a:=c) (b:=d) (by omega) (by omega)
 obtain⟨e0,r0,he0,hd0⟩:=pairT_ne (a:=a) (b:=b) (by omega)
 have h0:=hch e0 (by rw[he0];exact List.mem_cons_self ..)
 refine⟨⟨pairT a b++wordC x::pairT c d,hT,fun hm=> ?_⟩,⟨a,b,c,d,(pairT a b).length,?_,?_,?_⟩,?_,?_,?_⟩
 ·rcases List.mem_append.1 hm with hm|hm
  ·exact(hch 10 hm).2.1 rfl
  ·rcases List.mem_cons.1 hm with hm|hm
   ·exact hw2 hm.symm
   ·exact(hch2 10 hm).2.1 rfl
 ·unfold headN
  rw[hpl,hi,if_neg (by omega),toNat_cast,List.take_left,hq,hdr,hq']
 ·rw[hpl,hget]
 ·rw[ea,eb,ec,ed];rfl
 ·unfold hS
  rw[hpl,hx,if_neg (by simp),List.take_left,hdr,endR_pair hab hb,endR_pair hcd hd,hget,ea,eb,ec,ed]
  rfl
 ·intro g hg
  unfold pre
  rw[hT,he0]
  rcases hg with rfl|rfl
  ·rw[show List.take ltL.length ((e0::r0++wordC x::pairT c d)++[10])=e0::List.take 1 ((r0++wordC x::pairT c d)++[10]) from rfl]
   rw[show(e0::List.take 1 ((r0++wordC x::pairT c d)++[10])==ltL)=false from beq_eq_false_iff_ne.2 fun e=>by unfold ltL at e;injection e with e _;exact h0.2.2.1 e,Bool.and_false]
  ·rw[show List.take gtL.length ((e0::r0++wordC x::pairT c d)++[10])=e0::List.take 1 ((r0++wordC x::pairT c d)++[10]) from rfl]
   rw[show(e0::List.take 1 ((r0++wordC x::pairT c d)++[10])==gtL)=false from beq_eq_false_iff_ne.2 fun e=>by unfold gtL at e;injection e with e _;exact h0.2.2.2.1 e,Bool.and_false]
 ·rw[hT,he0]
  intro e
  unfold noneL at e
  injection e with e _
  exact h0.2.2.2.2 e
def tailOk (r:TX):Prop:=headOk ltL r∧headOk gtL r
theorem tail_nil:tailOk []:=⟨trivial,trivial⟩
theorem tail_step {x:PV Y_impl_Step}(h:stepP x=true)(r:TX):tailOk (stepL x++r):=by
 obtain⟨_,_,_,h1,h2⟩:=heads h
 exact⟨⟨h1 _ (.inl rfl),h2⟩,⟨h1 _ (.inr rfl),h2⟩⟩
theorem restI_good {x:PV Y_impl_Step}(h:stepP x=true){r:TX}(hr:tailOk r)(out:SR)(hn:((allL ltL x.2.2.1++(midLs x++allL gtL x.2.2.2.2.2.1))++r).length≤3000)(hm:∀l∈(allL ltL x.2.2.1++(midLs x++allL gtL x.2.2.2.2.2.1))++r,l.length≤3000):
 restI ((allL ltL x.2.2.1++(midLs x++allL gtL x.2.2.2.2.2.1))++r) out (x.1,(x.2.1,(([]:PV S_string),(x.2.2.2.1,(x.2.2.2.2.1,(([]:PV S_string),())))))) (wordC x)=some (.inl (r,out++[x],())):=by
 obtain⟨f,t,o,n,m,w,u⟩:=x
 obtain⟨_,_,_,_,_,_,_,_,_,_,_,_,⟨l1,m1,g1⟩,⟨l2,m2,g2⟩,hpos⟩:=step_facts h
 dsimp only at l1 m1 g1 l2 m2 g2 hpos hn hm ⊢
 unfold restI
 dsimp only
 have hmid:midLs (f,t,o,n,m,w,u)=if List.length o=0 then[] else if List.length w=0 then[] else[midL]:=rfl
 have hwd:wordC (f,t,o,n,m,w,u)=if List.length o=0 then 97 else if List.length w=0 then 100 else 99:=rfl
 rw[hwd]
 rw[hmid] at hn hm ⊢
 by_cases ho:List.length o=0
 ·obtain rfl:o=[]:=List.eq_nil_of_length_eq_zero ho
  rw[if_pos ho,show(allL ltL []++(([]:TX)++allL gtL w))++r=allL gtL w++r from rfl] at hn hm
  rw[if_pos ho,if_pos ho,show(allL ltL []++(([]:TX)++allL gtL w))++r=allL gtL w++r from rfl]
  rw[show((97:UInt8)==97)=true from rfl,Bool.not_true,cond_false,Option.bind_some]
  dsimp only
  rw[show((97:UInt8)==99)=false from rfl,cond_false,Option.bind_some]
  dsimp only
  rw[show((97:UInt8)==100)=false from rfl,Bool.not_false,cond_true,takeShown_good (.inr rfl) hr.2 m2 g2 hn hm]
  rfl
 ·rw[if_neg ho] at hn hm
  rw[if_neg ho,if_neg ho]
  by_cases hw:List.length w=0
  ·obtain rfl:w=[]:=List.eq_nil_of_length_eq_zero hw
   rw[if_pos hw,show(allL ltL o++(([]:TX)++allL gtL []))++r=allL ltL o++r from by rw[show(([]:TX)++allL gtL [])=[] from rfl,List.append_nil]] at hn hm
   rw[if_pos hw,if_pos hw,show(allL ltL o++(([]:TX)++allL gtL []))++r=allL ltL o++r from by rw[show(([]:TX)++allL gtL [])=[] from rfl,List.append_nil]]
   rw[show((100:UInt8)==97)=false from rfl,Bool.not_false,cond_true,takeShown_good (.inl rfl) hr.1 m1 g1 hn hm,Option.bind_some,Option.bind_some]
   rfl
  ·rw[if_neg hw,List.append_assoc,show([midL]++allL gtL w)++r=midL::(allL gtL w++r) from rfl] at hn hm
   rw[if_neg hw,if_neg hw,List.append_assoc,show([midL]++allL gtL w)++r=midL::(allL gtL w++r) from rfl]
   have hmidok:headOk ltL (midL::(allL gtL w++r)):=⟨rfl,by decide⟩
   have hn2:(allL gtL w++r).length≤3000:=by rw[List.length_append,List.length_cons] at hn;omega
   rw[show((99:UInt8)==97)=false from rfl,Bool.not_false,cond_true,takeShown_good (.inl rfl) hmidok m1 g1 hn hm,Option.bind_some,Option.bind_some]
   dsimp only
   rw[show((99:UInt8)==99)=true from rfl,cond_true,show((((midL::(allL gtL w++r)).length:Nat):Int)==0)=false from beq_eq_false_iff_ne.2 (by simp only[List.length_cons];omega),cond_false,show(midL::(allL gtL w++r)).getD ((0:Int).toNat) []=midL from rfl,beq_self_eq_true,Bool.not_true,cond_false,Option.bind_some]
   dsimp only
   rw[show((99:UInt8)==100)=false from rfl,Bool.not_false,cond_true,show List.drop 1 (midL::(allL gtL w++r))=allL gtL w++r from rfl,takeShown_good (.inr rfl) hr.2 m2 g2 hn2 (fun x hx=>hm x (List.mem_append_right _ (List.mem_cons_of_mem _ hx)))]
   rfl
theorem takeS_got {g:List UInt8}(hg:g=ltL∨g=gtL){r:TX}(hr:headOk g r){l:TX}(h:∀s∈l,lineP s=true)(he:endsG l)(hn:(allL g l++r).length≤3000)(hm:∀x∈allL g l++r,x.length≤3000):
 f_S_l5Take (allL g l++r) g=some ((l,((allL g l).length:Int),()),())∧cutB ((allL g l).length:Int) ((allL g l++r).length:Int) (allL g l++r).length=true∧cutL ((allL g l).length:Int) ((allL g l++r).length:Int) (allL g l++r)=r:=
 ⟨l5Take_good hg hr h he hn hm,cutB_drop (by rw[List.length_append];omega),by rw[cutL_drop,List.drop_left]⟩
theorem restS_good (s:List UInt8){x:PV Y_impl_Step}(h:stepP x=true){r:TX}(hr:tailOk r)(out:SR)(hn:((allL ltL x.2.2.1++(midLs x++allL gtL x.2.2.2.2.2.1))++r).length≤3000)(hm:∀l∈(allL ltL x.2.2.1++(midLs x++allL gtL x.2.2.2.2.2.1))++r,l.length≤3000):
 restS s ((allL ltL x.2.2.1++(midLs x++allL gtL x.2.2.2.2.2.1))++r) out (mkS x.1 x.2.1 x.2.2.2.1 x.2.2.2.2.1) (wordC x)=some (.inl (s,r,out++[x],())):=by
 obtain⟨f,t,o,n,m,w,u⟩:=x
 obtain⟨_,_,_,_,_,_,_,_,_,_,_,_,⟨l1,m1,g1⟩,⟨l2,m2,g2⟩,hpos⟩:=step_facts h
 dsimp only at l1 m1 g1 l2 m2 g2 hpos hn hm ⊢
 unfold restS mkS
 dsimp only
 have hmid:midLs (f,t,o,n,m,w,u)=if List.length o=0 then[] else if List.length w=0 then[] else[midL]:=rfl
 have hwd:wordC (f,t,o,n,m,w,u)=if List.length o=0 then 97 else if List.length w=0 then 100 else 99:=rfl
 rw[hwd]
 rw[hmid] at hn hm ⊢
 by_cases ho:List.length o=0
 ·obtain rfl:o=[]:=List.eq_nil_of_length_eq_zero ho
  rw[if_pos ho,show(allL ltL []++(([]:TX)++allL gtL w))++r=allL gtL w++r from rfl] at hn hm
  rw[if_pos ho,if_pos ho,show(allL ltL []++(([]:TX)++allL gtL w))++r=allL gtL w++r from rfl]
  obtain⟨k1,k2,k3⟩:=takeS_got (g:=gtL) (.inr rfl) hr.2 m2 g2 hn hm
  rw[show((97:UInt8)==97)=true from rfl,Bool.not_true,cond_false,Option.bind_some]
  dsimp only
  rw[show((97:UInt8)==99)=false from rfl,cond_false,show((97:UInt8)==100)=false from rfl,Bool.not_false,cond_true,k1,Option.bind_some]
  dsimp only
  rw[k2,cond_true,k3]
  rfl
 ·rw[if_neg ho] at hn hm
  rw[if_neg ho,if_neg ho]
  by_cases hw:List.length w=0
  ·obtain rfl:w=[]:=List.eq_nil_of_length_eq_zero hw
   rw[if_pos hw,show(allL ltL o++(([]:TX)++allL gtL []))++r=allL ltL o++r from by rw[show(([]:TX)++allL gtL [])=[] from rfl,List.append_nil]] at hn hm
   rw[if_pos hw,if_pos hw,show(allL ltL o++(([]:TX)++allL gtL []))++r=allL ltL o++r from by rw[show(([]:TX)++allL gtL [])=[] from rfl,List.append_nil]]
   obtain⟨k1,k2,k3⟩:=takeS_got (g:=ltL) (.inl rfl) hr.1 m1 g1 hn hm
   rw[show((100:UInt8)==97)=false from rfl,Bool.not_false,cond_true,k1,Option.bind_some]
   dsimp only
   rw[k2,cond_true,k3]
   rfl
  ·rw[if_neg hw,List.append_assoc,show([midL]++allL gtL w)++r=midL::(allL gtL w++r) from rfl] at hn hm
   rw[if_neg hw,if_neg hw,List.append_assoc,show([midL]++allL gtL w)++r=midL::(allL gtL w++r) from rfl]
   have hmidok:headOk ltL (midL::(allL gtL w++r)):=⟨rfl,by decide⟩
   have hn2:(allL gtL w++r).length≤3000:=by rw[List.length_append,List.length_cons] at hn;omega
   obtain⟨k1,k2,k3⟩:=takeS_got (g:=ltL) (.inl rfl) hmidok m1 g1 hn hm
   obtain⟨k4,k5,k6⟩:=takeS_got (g:=gtL) (.inr rfl) hr.2 m2 g2 hn2 (fun x hx=>hm x (List.mem_append_right _ (List.mem_cons_of_mem _ hx)))
   rw[show((99:UInt8)==97)=false from rfl,Bool.not_false,cond_true,k1,Option.bind_some]
   dsimp only
   rw[k2,cond_true,k3,Option.bind_some]
   dsimp only
   rw[show((99:UInt8)==99)=true from rfl,cond_true,show((99:UInt8)==100)=false from rfl,Bool.not_false,cond_true,show List.drop 1 (midL::(allL gtL w++r))=allL gtL w++r from rfl,k4,Option.bind_some]
   dsimp only
   rw[k5,cond_true,k6]
   rfl
theorem one_good {x:PV Y_impl_Step}(h:stepP x=true)(s:List UInt8){r:TX}(hr:tailOk r)(out:SR)(hm:∀l∈stepL x++r,l.length≤3000)(hn:(stepL x++r).length≤3000):
 (out.length<20→b_I_readSteps_2 (stepL x++r) out=some (.inl (r,out++[x],())))∧(out.length≤20→b_S_ReadNormal_5 s (stepL x++r) out=some (.inl (s,r,out++[x],()))):=by
 obtain⟨⟨tt,htt,_⟩,⟨a,b,c,d,j,e1,e2,e3⟩,e4,_,_⟩:=heads h
 have hl0:1≤(headT x).length:=by rw[htt];simp
 have e:stepL x++r=headT x::((allL ltL x.2.2.1++(midLs x++allL gtL x.2.2.2.2.2.1))++r):=by unfold stepL;rw[List.cons_append]
 rw[e] at hm hn ⊢
 simp only[List.length_cons] at hn
 have hm0:=hm _ (List.mem_cons_self ..)
 have hm1:∀l∈(allL ltL x.2.2.1++(midLs x++allL gtL x.2.2.2.2.2.1))++r,l.length≤3000:=fun l hl=>hm l (List.mem_cons_of_mem _ hl)
 constructor
 ·intro h20
  rw[(pre_I _ _ out hm0 (by omega) hm1 (by omega)).1,if_neg (by omega),e1]
  dsimp only
  rw[e2,←e3]
  exact restI_good h hr out (by omega) hm1
 ·intro h20
  rw[pre_S s _ _ out hl0 hm0 (by omega) (by omega),e4]
  dsimp only
  exact restS_good s h hr out (by omega) hm1
end R.V
end

section
/- Steps, read: both sides answer the same. -/
open Go Go.Dn
namespace R.V
set_option linter.unusedVariables false
theorem flat_cons (x:PV Y_impl_Step)(os:SR):(x::os).flatMap stepL=stepL x++os.flatMap stepL:=List.flatMap_cons
theorem tail_all:∀{os:SR},(∀x∈os,stepP x=true)→tailOk (os.flatMap stepL)
 |[],_=>tail_nil
 |x::os,h=>by rw[flat_cons];exact tail_step (h x (List.mem_cons_self ..)) _
theorem good_I:∀(os out:SR),(∀x∈os,stepP x=true)→(out++os).length≤20→(∀l∈os.flatMap stepL,l.length≤3000)→(os.flatMap stepL).length≤3000→
 w_I_readSteps_2 (os.flatMap stepL,out,())=some (.inl (out++os,()))
 |[],out,_,_,_,_=>by rw[List.append_nil];exact end_I rfl
 |x::os,out,hg,hl,hm,hn=>by
  rw[flat_cons] at hm hn ⊢
  rw[List.length_append,List.length_cons] at hl
  have hg':∀y∈os,stepP y=true:=fun y hy=>hg y (List.mem_cons_of_mem _ hy)
  have ih:=good_I os (out++[x]) hg' (by simp;omega) (fun l hl=>hm l (List.mem_append_right _ hl)) (by rw[List.length_append] at hn;omega)
  rw[List.append_assoc] at ih
  exact go_I ((one_good (hg x (List.mem_cons_self ..)) [] (tail_all hg') out hm hn).1 (by omega)) ih
theorem good_S (s:List UInt8):∀(os out:SR),(∀x∈os,stepP x=true)→(out++os).length≤20→(∀l∈os.flatMap stepL,l.length≤3000)→(os.flatMap stepL).length≤3000→
 w_S_ReadNormal_5 (s,os.flatMap stepL,out,())=some (.inl (s,out++os,()))
 |[],out,_,_,_,_=>by rw[List.append_nil];exact end_S rfl
 |x::os,out,hg,hl,hm,hn=>by
  rw[flat_cons] at hm hn ⊢
  rw[List.length_append,List.length_cons] at hl
  have hg':∀y∈os,stepP y=true:=fun y hy=>hg y (List.mem_cons_of_mem _ hy)
  have ih:=good_S s os (out++[x]) hg' (by simp;omega) (fun l hl=>hm l (List.mem_append_right _ hl)) (by rw[List.length_append] at hn;omega)
  rw[List.append_assoc] at ih
  exact go_S ((one_good (hg x (List.mem_cons_self ..)) s (tail_all hg') out hm hn).2 (by omega)) ih
theorem step_isL {x:PV Y_impl_Step}(h:stepP x=true):∀l∈stepL x,isL l:=by
 obtain⟨_,_,_,_,_,_,_,_,_,_,_,_,⟨_,m1,_⟩,⟨_,m2,_⟩,_⟩:=step_facts h
 intro l hl
 unfold stepL at hl
 rcases List.mem_cons.1 hl with rfl|hl
 ·exact(heads h).1
 ·rcases List.mem_append.1 hl with hl|hl
  ·exact all_isL (by decide) m1 l hl
  ·rcases List.mem_append.1 hl with hl|hl
   ·unfold midLs at hl
    split at hl
    ·cases hl
    ·split at hl
     ·cases hl
     ·obtain rfl:=List.mem_singleton.1 hl
      exact midL_isL
   ·exact all_isL (by decide) m2 l hl
theorem text_lines {os:SR}(hg:stepsP os=true):cutP (textP os)=os.flatMap stepL:=by
 have hL:∀l∈os.flatMap stepL,isL l:=fun l hl=>by
  obtain⟨x,hx,hl⟩:=List.mem_flatMap.1 hl
  exact step_isL ((steps_at hg).2 x hx) l hl
 rw[←textP_flat os,cutP_lines hL]
theorem raw_good {os:SR}(hg:stepsP os=true)(hl:(textP os).length≤3000)(s:List UInt8):
 f_I_readSteps (cutP (textP os))=some ((os,true,()),())∧w_S_ReadNormal_5 (s,cutP (textP os),[],())=some (.inl (s,os,())):=by
 obtain⟨h1,h2⟩:=steps_at hg
 have hc:=cutP_len (textP os)
 have hm:∀l∈cutP (textP os),l.length≤3000:=fun l h=>by have:=cutP_mem h;omega
 rw[text_lines hg] at hc hm ⊢
 refine⟨?_,good_S s os [] h2 (by simpa using h1) hm (by omega)⟩
 unfold f_I_readSteps
 rw[show w_I_readSteps_2 (os.flatMap stepL,([]:PV S_impl_Step),())=_ from good_I os [] h2 (by simpa using h1) hm (by omega)]
 rfl
def holeQ (x:PV Y_impl_Step):Bool:=((x.2.2.1:TX)++(x.2.2.2.2.2.1:TX)).any fun t=>t==[]
theorem hole_loop (s:List UInt8){gs:SR}(hl:gs.length≤3000)(h:∀x∈gs,OW x):w_S_ReadNormal_22 (s,gs,gs,(gs.length:Int),0,())=some (if gs.any holeQ then .inr ([],1,false,()) else .inl (s,gs,())):=by
 have inner:∀(i:Nat) (l:TX),l.length≤6000→w_S_ReadNormal_25 (s,gs,gs,(gs.length:Int),(i:Int),l,(l.length:Int),0,())=some (if l.any (fun t=>t==[]) then .inr ([],1,false,()) else .inl (s,gs,gs,(gs.length:Int),(i:Int),())):=fun i l hl6=>
  fix_any (B:=fun d=>b_S_ReadNormal_25 d.1 d.2.1 d.2.2.1 d.2.2.2.1 d.2.2.2.2.1 d.2.2.2.2.2.1 d.2.2.2.2.2.2.1 d.2.2.2.2.2.2.2.1) l (fun t=>t==[]) (fun k=>(s,gs,gs,(gs.length:Int),(i:Int),l,(l.length:Int),(k:Int),())) (fun _=>.inr ([],1,false,())) (.inl (s,gs,gs,(gs.length:Int),(i:Int),()))
   (fun k hk hq=>by
     show b_S_ReadNormal_25 s gs gs gs.length i l l.length k=_
     unfold b_S_ReadNormal_25
     rw[decide_eq_true (by omega:(k:Int)<(l.length:Int)),cond_true,inB_lt hk,cond_true,toNat_cast,getD_of hk,show(l[k]==([]:PV .str))=false from hq,cond_false,wrap64 (by omega) (by omega)];rfl)
   (fun k hk hq=>by
     show b_S_ReadNormal_25 s gs gs gs.length i l l.length k=_
     unfold b_S_ReadNormal_25
     rw[decide_eq_true (by omega:(k:Int)<(l.length:Int)),cond_true,inB_lt hk,cond_true,toNat_cast,getD_of hk,show(l[k]==([]:PV .str))=true from hq,cond_true])
   (by
     show b_S_ReadNormal_25 s gs gs gs.length i l l.length l.length=_
     unfold b_S_ReadNormal_25
     rw[decide_eq_false (Int.lt_irrefl _),cond_false])
 have body:∀i (hi:i<gs.length),b_S_ReadNormal_22 s gs gs (gs.length:Int) (i:Int)=if holeQ gs[i]=true then some (.inr (.inr ([],1,false,()))) else some (.inl (s,gs,gs,(gs.length:Int),((i+1:Nat):Int),())):=by
  intro i hi
  obtain⟨⟨h1,_⟩,h2,_⟩:=h _ (List.getElem_mem hi)
  have hlen:((([]:PV S_string)++gs[i].2.2.1)++gs[i].2.2.2.2.2.1).length≤6000:=by
   show List.length (([]++gs[i].2.2.1)++gs[i].2.2.2.2.2.1)≤6000
   rw[List.length_append,List.nil_append]
   omega
  unfold b_S_ReadNormal_22 f_S_l1OwnT
  rw[decide_eq_true (by omega:(i:Int)<(gs.length:Int)),cond_true,inB_lt hi,cond_true,toNat_cast,getD_of hi,roomB_ok (by show 0+_≤_;omega),cond_true,Option.bind_some]
  dsimp only
  rw[roomB_ok (by rw[List.nil_append];omega),cond_true,inner i _ hlen,Option.bind_some,List.nil_append]
  unfold holeQ
  cases List.any (gs[i].2.2.1++gs[i].2.2.2.2.2.1) (fun t=>t==[])
  ·rw[if_neg (by simp),if_neg (by simp)]
   dsimp only
   rw[wrap64 (by omega) (by omega)]
   rfl
  ·rw[if_pos rfl,if_pos rfl]
 exact fix_any (B:=fun d=>b_S_ReadNormal_22 d.1 d.2.1 d.2.2.1 d.2.2.2.1 d.2.2.2.2.1) gs holeQ (fun i=>(s,gs,gs,(gs.length:Int),(i:Int),())) (fun _=>.inr ([],1,false,())) (.inl (s,gs,()))
  (fun i hi hq=>by
    show b_S_ReadNormal_22 s gs gs gs.length i=_
    rw[body i hi,hq,if_neg (by simp)])
  (fun i hi hq=>by
    show b_S_ReadNormal_22 s gs gs gs.length i=_
    rw[body i hi,hq,if_pos rfl])
  (by
    show b_S_ReadNormal_22 s gs gs gs.length gs.length=_
    unfold b_S_ReadNormal_22
    rw[decide_eq_false (Int.lt_irrefl _),cond_false])
theorem good_hole {gs:SR}(hg:stepsP gs=true):gs.any holeQ=false:=by
 rw[List.any_eq_false]
 intro x hx hq
 obtain⟨_,_,_,_,_,_,_,_,_,_,_,_,⟨_,m1,_⟩,⟨_,m2,_⟩,_⟩:=step_facts ((steps_at hg).2 x hx)
 unfold holeQ at hq
 obtain⟨t,ht,he⟩:=List.any_eq_true.1 hq
 have he:t=[]:=by simpa using he
 subst he
 rcases List.mem_append.1 ht with ht|ht
 ·have:=(line_len (m1 _ ht)).1
  simp at this
 ·have:=(line_len (m2 _ ht)).1
  simp at this
def NoS (s:List UInt8):Prop:=∀gs:SR,stepsP gs=true→textP gs=s→s.length≤3000→False
theorem read_I (s:List UInt8):∃(gs:SR) (c:Int) (q:Bool),f_I_ReadNormal s=some ((gs,c,q,()),())∧
 ((stepsP gs=true∧textP gs=s∧s.length≤3000∧c=0∧q=true)∨(NoS s∧gs=[]∧c=1∧q=false)):=by
 unfold f_I_ReadNormal
 by_cases hs:s.length≤3000
 ·rw[decide_eq_true (by omega:(s.length:Int)≤3000),cond_true,linesOf_I s (by omega),Option.bind_some]
  dsimp only
  have hc:=cutP_len s
  obtain⟨gs,q,e,hsm⟩:=readRaw_I (cutP s) (by omega) (fun l h=>by have:=cutP_mem h;omega)
  rw[e,Option.bind_some]
  dsimp only
  rw[text_I hsm,Option.bind_some]
  dsimp only
  have key:∀gs0,stepsP gs0=true→textP gs0=s→gs=gs0∧q=true∧sOk gs=true∧sR gs=s:=fun gs0 h1 h2=>by
   have:=(raw_good h1 (by rw[h2];exact hs) s).1
   rw[h2,e] at this
   have h3:=Option.some.inj this
   have h4:=(Prod.mk.inj h3).1
   obtain⟨rfl,h5⟩:=Prod.mk.inj h4
   have h6:=(Prod.mk.inj h5).1
   have h7:sOk gs=true:=by unfold sOk;rw[h1,h2,decide_eq_true hs];rfl
   exact⟨rfl,h6,h7,by unfold sR;rw[if_pos h7,h2]⟩
  by_cases H:q=true∧sOk gs=true∧sR gs=s
  ·obtain⟨h1,h2,h3⟩:=H
   rw[h1,h2,cond_true,cond_true,h3,Option.bind_some]
   dsimp only
   rw[beq_self_eq_true,cond_true,Option.bind_some]
   have h2':=h2
   unfold sOk at h2'
   rw[Bool.and_eq_true] at h2'
   refine⟨gs,0,true,rfl,.inl ⟨h2'.1,?_,hs,rfl,rfl⟩⟩
   unfold sR at h3
   rw[if_pos h2] at h3
   exact h3
  ·have hno:NoS s:=fun gs0 h1 h2 _=>by
    obtain⟨rfl,h5,h6,h7⟩:=key gs0 h1 h2
    exact H ⟨h5,h6,h7⟩
   refine⟨[],1,false,?_,.inr ⟨hno,rfl,rfl,rfl⟩⟩
   cases hq:q
   ·rfl
   ·rw[cond_true]
    cases ho:sOk gs
    ·rfl
    ·rw[cond_true]
     have:(sR gs==s)=false:=by
      rw[beq_eq_false_iff_ne]
      exact fun h=>H ⟨hq,ho,h⟩
     rw[this]
     rfl
 ·rw[decide_eq_false (by omega:¬(s.length:Int)≤3000),cond_false,Option.bind_some]
  exact⟨[],1,false,rfl,.inr ⟨fun _ _ _ h=>hs h,rfl,rfl,rfl⟩⟩
theorem read_S (s:List UInt8):∃(gs:SR) (c:Int) (q:Bool),f_S_ReadNormal s=some ((gs,c,q,()),())∧
 ((stepsP gs=true∧textP gs=s∧s.length≤3000∧c=0∧q=true)∨(NoS s∧gs=[]∧c=1∧q=false)):=by
 unfold f_S_ReadNormal
 by_cases hs:s.length≤3000
 ·rw[decide_eq_false (by omega:¬(s.length:Int)>3000),cond_false,l1Cut_S s (by omega),Option.bind_some]
  dsimp only
  have hc:=cutP_len s
  have key:∀gs0,stepsP gs0=true→textP gs0=s→w_S_ReadNormal_5 (s,cutP s,[],())=some (.inl (s,gs0,())):=fun gs0 h1 h2=>by
   have:=(raw_good h1 (by rw[h2];exact hs) s).2
   rwa [h2] at this
  rcases raw_S s (cutP s).length (cutP s) [] (Nat.le_refl _) (by simp;omega) (fun l h=>⟨List.length_pos_iff.2 (cutP_ne h),by have:=cutP_mem h;omega⟩) (fun x hx=>by cases hx) with⟨gs,q1,q2,q3⟩|q3
  ·have same:∀gs0,stepsP gs0=true→textP gs0=s→gs=gs0:=fun gs0 h1 h2=>by
    have h3:=key gs0 h1 h2
    rw[q3] at h3
    exact(Prod.mk.inj (Prod.mk.inj (Sum.inl.inj (Option.some.inj h3))).2).1
   rw[q3,Option.bind_some]
   dsimp only
   rw[hole_loop s q1 q2,Option.bind_some]
   cases hh:gs.any holeQ
   ·rw[if_neg (by simp)]
    dsimp only
    have hsm:=OW.tot q1 q2
    rw[steps_S gs hsm,Option.bind_some]
    dsimp only
    cases hg:stepsP gs
    ·refine⟨[],1,false,rfl,.inr ⟨fun gs0 h1 h2 _=> ?_,rfl,rfl,rfl⟩⟩
     rw[same gs0 h1 h2,h1] at hg
     cases hg
    ·rw[Bool.not_true,cond_false,l5Text_S hg,Option.bind_some]
     dsimp only
     rw[Option.bind_some]
     dsimp only
     by_cases ht:textP gs=s
     ·rw[ht,beq_self_eq_true]
      exact⟨gs,0,true,rfl,.inl ⟨hg,ht,hs,rfl,rfl⟩⟩
     ·rw[beq_eq_false_iff_ne.2 ht]
      refine⟨[],1,false,rfl,.inr ⟨fun gs0 h1 h2 _=> ?_,rfl,rfl,rfl⟩⟩
      exact ht (by rw[same gs0 h1 h2];exact h2)
   ·rw[if_pos rfl]
    refine⟨[],1,false,rfl,.inr ⟨fun gs0 h1 h2 _=> ?_,rfl,rfl,rfl⟩⟩
    have:=good_hole h1
    rw[←same gs0 h1 h2,hh] at this
    cases this
  ·rw[q3,Option.bind_some]
   refine⟨[],1,false,rfl,.inr ⟨fun gs0 h1 h2 _=> ?_,rfl,rfl,rfl⟩⟩
   have h3:=key gs0 h1 h2
   rw[q3] at h3
   cases h3
 ·rw[decide_eq_true (by omega:(s.length:Int)>3000),cond_true]
  exact⟨[],1,false,rfl,.inr ⟨fun _ _ _ h=>hs h,rfl,rfl,rfl⟩⟩
theorem steps_both (s:List UInt8):∃(gs:SR) (c:Int) (q:Bool),f_I_ReadNormal s=some ((gs,c,q,()),())∧f_S_ReadNormal s=some ((gs,c,q,()),())∧
 ((stepsP gs=true∧textP gs=s∧s.length≤3000∧c=0∧q=true)∨(gs=[]∧c=1∧q=false)):=by
 obtain⟨g1,c1,q1,e1,h1⟩:=read_I s
 obtain⟨g2,c2,q2,e2,h2⟩:=read_S s
 rcases h1 with⟨a1,a2,a3,rfl,rfl⟩|⟨a1,rfl,rfl,rfl⟩
 ·rcases h2 with⟨b1,b2,_,rfl,rfl⟩|⟨b1,_⟩
  ·have r1:=(raw_good a1 (by rw[a2];exact a3) s).1
   have r2:=(raw_good b1 (by rw[b2];exact a3) s).1
   rw[a2] at r1
   rw[b2,r1] at r2
   have:g1=g2:=(Prod.mk.inj (Prod.mk.inj (Option.some.inj r2)).1).1
   subst this
   exact⟨g1,0,true,e1,e2,.inl ⟨a1,a2,a3,rfl,rfl⟩⟩
  ·exact(b1 g1 a1 a2 a3).elim
 ·rcases h2 with⟨b1,b2,b3,_⟩|⟨_,rfl,rfl,rfl⟩
  ·exact(a1 g2 b1 b2 b3).elim
  ·exact⟨[],1,false,e1,e2,.inr ⟨rfl,rfl,rfl⟩⟩
theorem back_I {o:SR}(h:sOk o=true):f_I_ReadNormal (textP o)=some ((o,0,true,()),()):=by
 unfold sOk at h
 rw[Bool.and_eq_true,decide_eq_true_eq] at h
 obtain⟨gs,c,q,e,h1⟩:=read_I (textP o)
 rcases h1 with⟨a1,a2,a3,rfl,rfl⟩|⟨a1,_⟩
 ·have r1:=(raw_good a1 (by rw[a2];exact a3) []).1
  have r2:=(raw_good h.1 h.2 []).1
  rw[a2] at r1
  rw[r1] at r2
  have:gs=o:=(Prod.mk.inj (Prod.mk.inj (Option.some.inj r2)).1).1
  subst this
  exact e
 ·exact(a1 o h.1 rfl h.2).elim
theorem good_tot {gs:SR}(h:stepsP gs=true):gs.length≤20∧(∀x∈gs,OW x):=by
 obtain⟨hl,hg⟩:=steps_at h
 refine⟨hl,fun x hx=> ?_⟩
 obtain⟨_,_,_,_,_,_,_,_,_,_,_,_,⟨l1,m1,_⟩,⟨l2,m2,_⟩,_⟩:=step_facts (hg x hx)
 exact⟨⟨by omega,fun s hs=>by have:=line_len (m1 s hs);omega⟩,by omega,fun s hs=>by have:=line_len (m2 s hs);omega⟩
end R.V
end

section
/- Good hunks: both sides answer the same. -/
open Go Go.Dn
namespace R
set_option linter.unusedVariables false
theorem l1Good_S (t0:List (List UInt8))(hs:Sm t0):f_S_l1Good t0=some ((goodP t0,()),()):=by
 have hl:=hs.len
 unfold f_S_l1Good
 have hw:IntKind.wrap .i64 ((t0.length:Int) -1)=(t0.length:Int) -1:=wrap64 (by omega) (by omega)
 have hr:∀i,i<t0.length→(((f_S_l1Line (t0.getD i [])).bind fun r4=>bif !r4.1.1 then some (t0,t0,(t0.length:Int),(i:Int),true,()) else
  bif decide ((i:Int)<(t0.length:Int) -1) then(f_S_l1Ends (t0.getD i [])).bind fun r5=>some (t0,t0,(t0.length:Int),(i:Int), !r5.1.1,()) else some (t0,t0,(t0.length:Int),(i:Int),false,())):Option (PV S_string×PV S_string×Int×Int×Bool×Unit))=
  some (t0,t0,(t0.length:Int),(i:Int), !(lineP (t0.getD i []))||(decide ((i:Int)<(t0.length:Int) -1)&& !(endP (t0.getD i []))),()):=by
  intro i hi
  rw[getD_of hi,line_S _ (hs.mem hi),Option.bind_some]
  dsimp only
  cases hL:lineP t0[i]
  ·rfl
  ·rw[Bool.not_true,cond_false,Bool.false_or]
   cases decide ((i:Int)<(t0.length:Int) -1)
   ·rfl
   ·rw[cond_true,ends_S _ (line_len hL).1 (hs.mem hi)];rfl
 rw[show w_S_l1Good_2 (t0,t0,(t0.length:Int),0,())=_ from fix_anyN (B:=fun d=>b_S_l1Good_2 d.1 d.2.1 d.2.2.1 d.2.2.2.1) t0.length (fun k=> !(lineP (t0.getD k []))||(decide ((k:Int)<(t0.length:Int) -1)&& !(endP (t0.getD k []))))
    (fun i=>(t0,t0,(t0.length:Int),(i:Int),())) (fun _=>.inr (false,())) (.inl (t0,()))
    (fun i hi hq=>by
      show b_S_l1Good_2 t0 t0 t0.length i=_
      unfold b_S_l1Good_2
      rw[decide_eq_true (by omega:(i:Int)<(t0.length:Int)),cond_true,inB_lt hi,cond_true,toNat_cast,hw,hr i hi,hq,Option.bind_some]
      dsimp only
      rw[cond_false,wrap64 (by omega) (by omega)];rfl)
    (fun i hi hq=>by
      show b_S_l1Good_2 t0 t0 t0.length i=_
      unfold b_S_l1Good_2
      rw[decide_eq_true (by omega:(i:Int)<(t0.length:Int)),cond_true,inB_lt hi,cond_true,toNat_cast,hw,hr i hi,hq,Option.bind_some]
      rfl)
    (by
      show b_S_l1Good_2 t0 t0 t0.length t0.length=_
      unfold b_S_l1Good_2
      rw[decide_eq_false (Int.lt_irrefl _),cond_false])]
 rw[anyN_or,show(anyN t0.length fun k=> !(lineP (t0.getD k [])))=t0.any fun s=> !lineP s from anyN_list (f:=fun s=> !lineP s)]
 unfold goodP linesP endsP
 cases t0.any fun s=> !lineP s
 ·cases anyN t0.length fun k=>decide ((k:Int)<(t0.length:Int) -1)&& !(endP (t0.getD k []))
  ·simp;omega
  ·simp
 ·simp
abbrev H0:PV Y_impl_Hunk:=dflt Y_impl_Hunk
def badH (many:Int)(x:PV Y_impl_Hunk):Bool:=
 !(inI x.1 0 many)||(!(inI x.2.1 0 (IntKind.wrap .i64 (many -x.1)))||(!(linesP x.2.2.1)||((x.2.1==0)&&((List.length x.2.2.1:Int)==0))))
def badP (h:List (PV Y_impl_Hunk))(k:Nat):Bool:=
 decide ((k:Int)>0)&&decide ((h.getD k H0).1≤IntKind.wrap .i64 ((h.getD (k -1) H0).1+(h.getD (k -1) H0).2.1))
def badK (many:Int)(h:List (PV Y_impl_Hunk))(k:Nat):Bool:=badH many (h.getD k H0)||badP h k
def hunksP (many:Int)(h:List (PV Y_impl_Hunk)):Bool:=inI many 0 40&&(decide (h.length≤20)&& !(anyN h.length (badK many h)))
def SmH (h:List (PV Y_impl_Hunk)):Prop:=h.length≤4611686018427387904∧∀x∈h,Sm x.2.2.1
theorem SmH.len {h:List (PV Y_impl_Hunk)}(hs:SmH h):h.length≤4611686018427387904:=hs.1
theorem SmH.mem {h:List (PV Y_impl_Hunk)}(hs:SmH h){i:Nat}(hi:i<h.length):Sm (h.getD i H0).2.2.1:=by
 rw[getD_of hi]
 exact hs.2 _ (List.getElem_mem hi)
theorem SmH.of {e:TypeId}{h:List (PV Y_impl_Hunk)}{n:Nat}(hs:tot (.slice e Y_impl_Hunk) h≤n)(hn:n≤4611686018427387904):SmH h:=by
 refine⟨?_,fun x hx=> ?_⟩
 ·have h':=hs
  rw[tot_slice] at h'
  omega
 ·obtain⟨i,hi,rfl⟩:=List.mem_iff_getElem.1 hx
  have:=Nat.le_trans (tot_mem (e:=e) (t:=Y_impl_Hunk) (xs:=h) hi) hs
  refine Sm.of (n:=n) ?_ hn
  simp only[tot] at this ⊢
  omega
def badS (many:Int)(x:PV Y_impl_Hunk):Bool:=
 decide (x.1<0)||(decide (x.2.1<0)||(decide (x.2.1>many)||(decide (x.1>IntKind.wrap .i64 (many -x.2.1))||((IntKind.wrap .i64 (x.2.1+(List.length x.2.2.1:Int))==0)||decide ((List.length x.2.2.1:Int)>40)))))
theorem bad_nums {many A G n:Int}(h0:0≤many)(h1:many≤4611686018427387903)(hn:0≤n)(hm:n≤4611686018427387904):
 (decide (A<0)||(decide (G<0)||(decide (G>many)||(decide (A>IntKind.wrap .i64 (many -G))||((IntKind.wrap .i64 (G+n)==0)||decide (n>40))))))=
   (!(decide (A≥0)&&decide (A≤many))||(!(decide (G≥0)&&decide (G≤IntKind.wrap .i64 (many -A)))||(!(decide (n≤40))||((G==0)&&(n==0))))):=by
 rw[Bool.eq_iff_iff]
 simp only[Bool.or_eq_true,Bool.not_eq_true',decide_eq_true_eq,decide_eq_false_iff_not,beq_iff_eq,Bool.and_eq_false_iff,Bool.and_eq_true]
 by_cases a4:A≤many∧0≤A
 ·rw[wrap64 (x:=many -A) (by omega) (by omega)]
  by_cases a3:0≤G∧G≤many
  ·rw[wrap64 (x:=many -G) (by omega) (by omega),wrap64 (x:=G+n) (by omega) (by omega)]
   omega
  ·constructor
   ·intro _;right;left;omega
   ·intro _;omega
 ·constructor
  ·intro _;left;omega
  ·intro _
   by_cases a1:A<0
   ·exact .inl a1
   ·by_cases a2:G<0
    ·exact .inr (.inl a2)
    ·by_cases a3:G>many
     ·exact .inr (.inr (.inl a3))
     ·right;right;right;left
      rw[wrap64 (x:=many -G) (by omega) (by omega)]
      omega
theorem bad_same {many:Int}{x:PV Y_impl_Hunk}(h0:0≤many)(h1:many≤4611686018427387903)(hm:List.length x.2.2.1≤4611686018427387904):
 (badS many x||List.any x.2.2.1 fun s=> !lineP s)=badH many x:=by
 unfold badS badH linesP inI
 have:=bad_nums (A:=x.1) (G:=x.2.1) (n:=(List.length x.2.2.1:Int)) h0 h1 (by omega) (by omega)
 rw[this]
 rw[show decide (List.length x.2.2.1≤40)=decide ((List.length x.2.2.1:Int)≤40) from by rw[Bool.eq_iff_iff];simp;omega]
 cases(decide ((x.1:Int)≥0)&&decide ((x.1:Int)≤many))<;>cases(decide ((x.2.1:Int)≥0)&&decide ((x.2.1:Int)≤IntKind.wrap .i64 (many -x.1)))<;>cases decide ((List.length x.2.2.1:Int)≤40)<;>
  cases((x.2.1==0)&&((List.length x.2.2.1:Int)==0))<;>cases(List.any x.2.2.1 fun s=> !lineP s)<;>rfl
theorem stepH_S (many:Int)(h:List (PV Y_impl_Hunk))(hs:SmH h)(h0:0≤many)(h1:many≤4611686018427387903){i:Nat}(hi:i<h.length):
 b_S_l2Hunks_2 many h h h.length i=some (if badK many h i then .inr (.inr (false,())) else .inl (many,h,h,(h.length:Int),(i:Int)+1,())):=by
 have hl:=hs.len
 have hm:=hs.mem hi
 unfold b_S_l2Hunks_2
 rw[decide_eq_true (by omega:(i:Int)<(h.length:Int)),cond_true,inB_lt hi,cond_true,toNat_cast]
 have hq:badK many h i=((badS many (h.getD i H0)||badP h i)||List.any (h.getD i H0).2.2.1 fun s=> !lineP s):=by
  unfold badK
  rw[←bad_same h0 h1 hm.len]
  cases badS many (h.getD i H0)<;>cases badP h i<;>cases List.any (h.getD i H0).2.2.1 fun s=> !lineP s<;>rfl
 rw[hq]
 unfold badP
 generalize hx:h.getD i H0=x at*
 have hr:∀f:Bool,(bif f then some (Sum.inr (Sum.inr (false,()))) else
  (w_S_l2Hunks_7 (many,h,h,(h.length:Int),(i:Int),x.2.2.1,(List.length x.2.2.1:Int),0,())).bind fun x14=>
    match x14 with
    | .inl l7=>
      some (.inl (l7.1,l7.2.1,l7.2.2.1,l7.2.2.2.1,(IntKind.wrap .i64 (l7.2.2.2.2.1+1)),()))
    | .inr l8=>
      some (.inr (.inr (l8.1,()))):Option ((PV (.int .i64)×PV S_impl_Hunk×PV S_impl_Hunk×PV (.int .i64)×PV (.int .i64)×Unit)⊕((PV (.int .i64)×PV S_impl_Hunk×Unit)⊕(PV .bool×Unit))))=
  some (if (f||List.any x.2.2.1 fun s=> !lineP s) then .inr (.inr (false,())) else .inl (many,h,h,(h.length:Int),(i:Int)+1,())):=by
  intro f
  cases f
  ·rw[cond_false,Bool.false_or,show w_S_l2Hunks_7 (many,h,h,(h.length:Int),(i:Int),x.2.2.1,(List.length x.2.2.1:Int),0,())=_ from
    fix_any (B:=fun d=>b_S_l2Hunks_7 d.1 d.2.1 d.2.2.1 d.2.2.2.1 d.2.2.2.2.1 d.2.2.2.2.2.1 d.2.2.2.2.2.2.1 d.2.2.2.2.2.2.2.1) x.2.2.1 (fun s=> !lineP s) (fun k=>(many,h,h,(h.length:Int),(i:Int),x.2.2.1,(List.length x.2.2.1:Int),(k:Int),())) (fun _=>.inr (false,())) (.inl (many,h,h,(h.length:Int),(i:Int),()))
    (fun k hk hq=>by
      have hml:=hm.len
      show b_S_l2Hunks_7 many h h h.length i x.2.2.1 (List.length x.2.2.1) k=_
      unfold b_S_l2Hunks_7
      rw[decide_eq_true (by omega:(k:Int)<(List.length x.2.2.1:Int)),cond_true,inB_lt hk,cond_true,toNat_cast,getD_of hk,line_S _ (hm.mem hk),Option.bind_some]
      dsimp only
      rw[hq,cond_false,wrap64 (by omega) (by omega)];rfl)
    (fun k hk hq=>by
      show b_S_l2Hunks_7 many h h h.length i x.2.2.1 (List.length x.2.2.1) k=_
      unfold b_S_l2Hunks_7
      rw[decide_eq_true (by omega:(k:Int)<(List.length x.2.2.1:Int)),cond_true,inB_lt hk,cond_true,toNat_cast,getD_of hk,line_S _ (hm.mem hk),Option.bind_some]
      dsimp only
      rw[hq,cond_true])
    (by
      show b_S_l2Hunks_7 many h h h.length i x.2.2.1 (List.length x.2.2.1) (List.length x.2.2.1)=_
      unfold b_S_l2Hunks_7
      rw[decide_eq_false (Int.lt_irrefl _),cond_false])]
   cases List.any x.2.2.1 fun s=> !lineP s
   ·rw[if_neg (by simp),if_neg (by simp),Option.bind_some]
    dsimp only
    rw[wrap64 (by omega) (by omega)]
   ·rfl
  ·rfl
 have hb:∀j:Bool,((bif decide ((i:Int)>0) then bif inB (IntKind.wrap .i64 ((i:Int) -1)) h.length then bif inB (IntKind.wrap .i64 ((i:Int) -1)) h.length then
  some (many,h,x,h,(h.length:Int),(i:Int),decide (x.1≤IntKind.wrap .i64 ((h.getD (IntKind.wrap .i64 ((i:Int) -1)).toNat (dflt Y_impl_Hunk)).1+(h.getD (IntKind.wrap .i64 ((i:Int) -1)).toNat (dflt Y_impl_Hunk)).2.1)),()) else none else none
  else some (many,h,x,h,(h.length:Int),(i:Int),false,())):Option ((PV (.int .i64)×PV S_impl_Hunk×PV Y_impl_Hunk×PV S_impl_Hunk×PV (.int .i64)×PV (.int .i64)×PV .bool×Unit)))=
  some (many,h,x,h,(h.length:Int),(i:Int),decide ((i:Int)>0)&&decide (x.1≤IntKind.wrap .i64 ((h.getD (i -1) H0).1+(h.getD (i -1) H0).2.1)),()):=by
  intro _
  cases i with
  |zero=>rw[decide_eq_false (by omega:¬(((0:Nat):Int)>0))];rfl
  |succ j=>
   rw[decide_eq_true (by omega:((j+1:Nat):Int)>0),cond_true,show IntKind.wrap .i64 (((j+1:Nat):Int) -1)=(j:Int) from by rw[wrap64 (by omega) (by omega)];omega,inB_lt (by omega:j<h.length),cond_true,cond_true,toNat_cast,Bool.true_and,Nat.add_sub_cancel]
 rw[hb true]
 unfold badS
 cases decide (x.1<0)
 ·rw[cond_false]
  cases decide (x.2.1<0)
  ·rw[cond_false]
   cases decide (x.2.1>many)
   ·rw[cond_false]
    cases decide (x.1>IntKind.wrap .i64 (many -x.2.1))
    ·rw[cond_false]
     cases(IntKind.wrap .i64 (x.2.1+(List.length x.2.2.1:Int))==0)
     ·rw[cond_false]
      cases decide ((List.length x.2.2.1:Int)>40)
      ·rw[cond_false,Option.bind_some]
       exact hr _
      ·rfl
     ·rfl
    ·rfl
   ·rfl
  ·rfl
 ·rfl
theorem hunks_S (many:Int)(h:List (PV Y_impl_Hunk))(hs:SmH h)(h0:0≤many)(h1:many≤4611686018427387903):f_S_l2Hunks many h=some ((hunksP many h,()),()):=by
 have hl:=hs.len
 unfold f_S_l2Hunks hunksP
 rw[show w_S_l2Hunks_2 (many,h,h,(h.length:Int),0,())=_ from fix_anyN (B:=fun d=>b_S_l2Hunks_2 d.1 d.2.1 d.2.2.1 d.2.2.2.1 d.2.2.2.2.1) h.length (badK many h) (fun i=>(many,h,h,(h.length:Int),(i:Int),())) (fun _=>.inr (false,())) (.inl (many,h,()))
     (fun i hi hq=>by show b_S_l2Hunks_2 many h h h.length i=_;rw[stepH_S many h hs h0 h1 hi,hq];rfl)
     (fun i hi hq=>by show b_S_l2Hunks_2 many h h h.length i=_;rw[stepH_S many h hs h0 h1 hi,hq];rfl)
     (by
       show b_S_l2Hunks_2 many h h h.length h.length=_
       unfold b_S_l2Hunks_2
       rw[decide_eq_false (Int.lt_irrefl _),cond_false])]
 cases anyN h.length (badK many h)
 ·rw[if_neg (by simp),Option.bind_some]
  dsimp only
  rw[in_S,Option.bind_some]
  by_cases hn:h.length≤20
  ·rw[decide_eq_true (by omega:(h.length:Int)≤20),cond_true,decide_eq_true hn]
   unfold inI
   cases decide (many≥0)&&decide (many≤40)<;>rfl
  ·rw[decide_eq_false (by omega:¬(h.length:Int)≤20),cond_false,decide_eq_false hn]
   simp
 ·rw[if_pos rfl]
  simp
end R
end

section
/- Lines behind hunks: both sides make the same. -/
open Go Go.Dn
namespace R
set_option linter.unusedVariables false
def stepP (l:List (List UInt8))(a:List (List UInt8)×Int)(x:PV Y_impl_Hunk):List (List UInt8)×Int:=((a.1++cutL a.2 x.1 l)++x.2.2.1,x.1+x.2.1)
def foldP (l:List (List UInt8))(h:List (PV Y_impl_Hunk)):List (List UInt8)×Int:=h.foldl (stepP l) ([],0)
def patchL (l:List (List UInt8))(h:List (PV Y_impl_Hunk)):List (List UInt8):=(foldP l h).1++cutL (foldP l h).2 (l.length:Int) l
theorem linesP_len {l:List (List UInt8)}(h:linesP l=true):l.length≤40:=by
 unfold linesP at h
 simp only[Bool.and_eq_true,decide_eq_true_eq] at h
 exact h.1
theorem goodP_len {l:List (List UInt8)}(h:goodP l=true):l.length≤40:=by
 unfold goodP at h
 simp only[Bool.and_eq_true] at h
 exact linesP_len h.1
theorem hunk_facts {many:Int}{h:List (PV Y_impl_Hunk)}(hh:hunksP many h=true):0≤many∧many≤40∧h.length≤20∧∀i,i<h.length→
 0≤(h.getD i H0).1∧(h.getD i H0).1≤many∧0≤(h.getD i H0).2.1∧(h.getD i H0).1+(h.getD i H0).2.1≤many∧List.length (h.getD i H0).2.2.1≤40∧linesP (h.getD i H0).2.2.1=true∧
  (0<i→(h.getD (i -1) H0).1+(h.getD (i -1) H0).2.1<(h.getD i H0).1):=by
 unfold hunksP inI at hh
 simp only[Bool.and_eq_true,decide_eq_true_eq,Bool.not_eq_true'] at hh
 obtain⟨⟨h0,h1⟩,h2,h3⟩:=hh
 have hq:∀i,i<h.length→badK many h i=false:=fun i hi=>by
  cases hb:badK many h i with
  |false=>rfl
  |true=>rw[anyN_iff.2 ⟨i,hi,hb⟩] at h3;cases h3
 have h4:∀i,i<h.length→(0:Int)≤(h.getD i H0).1∧((h.getD i H0).1:Int)≤many∧(0:Int)≤(h.getD i H0).2.1∧((h.getD i H0).1:Int)+(h.getD i H0).2.1≤many∧linesP (h.getD i H0).2.2.1=true:=by
  intro i hi
  have hb:=hq i hi
  unfold badK badH inI at hb
  generalize h.getD i H0=x at*
  obtain⟨A,G,N,u⟩:=x
  have e:∀(A G:Int),(decide (A≥0)&&decide (A≤many))=true→(decide (G≥0)&&decide (G≤IntKind.wrap .i64 (many -A)))=true→0≤A∧A≤many∧0≤G∧A+G≤many:=by
   intro A G p q
   simp only[Bool.and_eq_true,decide_eq_true_eq] at p q
   rw[wrap64 (by omega) (by omega)] at q
   omega
  dsimp only at hb ⊢
  simp only[Bool.or_eq_false_iff,Bool.not_eq_false'] at hb
  obtain⟨⟨b1,b2,b3,_⟩,_⟩:=hb
  obtain⟨c1,c2,c3,c4⟩:=e A G b1 b2
  exact⟨c1,c2,c3,c4,b3⟩
 refine⟨h0,h1,h2,fun i hi=> ?_⟩
 obtain⟨a1,a2,a3,a4,a5⟩:=h4 i hi
 refine⟨a1,a2,a3,a4,linesP_len a5,a5,fun hpos=> ?_⟩
 have hb:=hq i hi
 unfold badK badP at hb
 simp only[Bool.or_eq_false_iff] at hb
 have hb:=hb.2
 rw[decide_eq_true (by omega:(i:Int)>0),Bool.true_and,decide_eq_false_iff_not] at hb
 obtain⟨b1,b2,b3,b4,_⟩:=h4 (i -1) (by omega)
 have e:∀(A P G:Int),0≤P→0≤G→P+G≤many→many≤40→¬A≤IntKind.wrap .i64 (P+G)→P+G<A:=by
  intro A P G p1 p2 p3 p4 q
  rw[wrap64 (by omega) (by omega)] at q
  omega
 exact e _ _ _ b1 b3 b4 h1 hb
theorem cut_len {l:List (List UInt8)}{a b:Int}:(cutL a b l).length≤l.length:=by
 unfold cutL
 simp
 omega
theorem cut_mem {l:List (List UInt8)}{a b:Int}{s:List UInt8}(h:s∈cutL a b l):s∈l:=List.mem_of_mem_take (List.mem_of_mem_drop h)
def InvP (l:List (List UInt8))(h:List (PV Y_impl_Hunk))(i:Nat)(a:List (List UInt8)×Int):Prop:=
 a.1.length≤80*i∧0≤a.2∧a.2≤(l.length:Int)∧(i=0→a.2=0)∧(0<i→a.2=(h.getD (i -1) H0).1+(h.getD (i -1) H0).2.1)∧∀s∈a.1,s.length≤4611686018427387904
theorem inv_next {l:List (List UInt8)}{h:List (PV Y_impl_Hunk)}(hl:Sm l)(hh:SmH h)(hg:hunksP (l.length:Int) h=true){i:Nat}(hi:i<h.length){a:List (List UInt8)×Int}(hI:InvP l h i a):
 InvP l h (i+1) (stepP l a h[i])∧0≤a.2∧a.2≤(h[i].1:Int)∧(h[i].1:Int)≤l.length∧0≤(h[i].2.1:Int)∧(h[i].1:Int)+h[i].2.1≤l.length∧List.length h[i].2.2.1≤40∧a.1.length≤1600∧l.length≤40:=by
 obtain⟨f1,f2,f3,f4⟩:=hunk_facts hg
 have f5:=f4 i hi
 rw[getD_of hi] at f5
 obtain⟨g1,g2,g3,g4,g5,g6,g7⟩:=f5
 obtain⟨i1,i2,i3,i4,i5,i6⟩:=hI
 have hat:∀A:Int,A=h[i].1→a.2≤A:=by
  intro A hA
  rcases Nat.eq_zero_or_pos i with h0|hp
  ·rw[i4 h0,hA];exact g1
  ·rw[i5 hp,hA];exact Int.le_of_lt (g7 hp)
 have hat:=hat _ rfl
 have hc:(cutL a.2 h[i].1 l).length≤40:=Nat.le_trans cut_len (by omega)
 refine⟨⟨?_,?_,?_,fun h=>by omega,fun _=> ?_,?_⟩,i2,hat,g2,g3,g4,g5,by omega,by omega⟩
 ·show((a.1++cutL a.2 h[i].1 l)++h[i].2.2.1).length≤80*(i+1)
  rw[List.length_append,List.length_append]
  omega
 ·exact Int.add_nonneg g1 g3
 ·exact g4
 ·rw[Nat.add_sub_cancel,getD_of hi];rfl
 ·intro s hs
  rcases List.mem_append.1 hs with hs|hs
  ·rcases List.mem_append.1 hs with hs|hs
   ·exact i6 s hs
   ·exact hl.2 s (cut_mem hs)
  ·exact(hh.2 _ (List.getElem_mem hi)).2 s hs
theorem cutB_ok {a b:Int}{n:Nat}(h0:0≤a)(h1:a≤b)(h2:b≤(n:Int)):cutB a b n=true:=by
 unfold cutB
 rw[decide_eq_true h0,decide_eq_true h1,decide_eq_true h2]
 rfl
theorem patch_loop_S {l:List (List UInt8)}{h:List (PV Y_impl_Hunk)}(hl:Sm l)(hh:SmH h)(hg:hunksP (l.length:Int) h=true):
 w_S_l2Patch_4 (l,([]:List (List UInt8)),0,h,(h.length:Int),0,())=some (l,(foldP l h).1,(foldP l h).2,())∧InvP l h h.length (foldP l h):=by
 have:=fix_fold (B:=fun d=>b_S_l2Patch_4 d.1 d.2.1 d.2.2.1 d.2.2.2.1 d.2.2.2.2.1 d.2.2.2.2.2.1) h (stepP l) (fun a i=>(l,a.1,a.2,h,(h.length:Int),(i:Int),())) (fun a=>(l,a.1,a.2,())) (InvP l h)
  (fun i hi a hI=>by
    obtain⟨q0,q1,q2,q3,q4,q5,q6,q7,q8⟩:=inv_next hl hh hg hi hI
    refine⟨q0,?_⟩
    show b_S_l2Patch_4 l a.1 a.2 h h.length i=_
    have hlen:=hh.len
    unfold b_S_l2Patch_4
    rw[decide_eq_true (by omega:(i:Int)<(h.length:Int)),cond_true,inB_lt hi,cond_true,toNat_cast,getD_of hi]
    have hc:(cutL a.2 h[i].1 l).length≤40:=Nat.le_trans cut_len q8
    rw[cutB_ok q1 q2 q3,cond_true,roomB_ok (by omega),cond_true,roomB_ok (by rw[List.length_append];omega),cond_true]
    have e:∀A G:Int,0≤A→0≤G→A+G≤(l.length:Int)→IntKind.wrap .i64 (A+G)=A+G:=fun A G p1 p2 p3=>wrap64 (by omega) (by omega)
    rw[e _ _ (Int.le_trans q1 q2) q4 q5,wrap64 (by omega) (by omega)]
    simp[stepP])
  (fun a _=>by
    show b_S_l2Patch_4 l a.1 a.2 h h.length h.length=_
    unfold b_S_l2Patch_4
    rw[decide_eq_false (Int.lt_irrefl _),cond_false]) ([],0) ⟨by simp,Int.le_refl _,by simp,fun _=>rfl,fun h=>by omega,fun s hs=>by cases hs⟩
 exact this
theorem patchL_sm {l:List (List UInt8)}{h:List (PV Y_impl_Hunk)}(hl:Sm l)(hh:SmH h)(hg:hunksP (l.length:Int) h=true):Sm (patchL l h)∧(patchL l h).length≤1640:=by
 obtain⟨_,h2⟩:=patch_loop_S hl hh hg
 obtain⟨f1,f2,f3,_⟩:=hunk_facts hg
 obtain⟨i1,i2,i3,_,_,i6⟩:=h2
 have hc:(cutL (foldP l h).2 (l.length:Int) l).length≤40:=Nat.le_trans cut_len (by omega)
 refine⟨⟨?_,fun s hs=> ?_⟩,?_⟩
 ·unfold patchL;rw[List.length_append];omega
 ·rcases List.mem_append.1 hs with hs|hs
  ·exact i6 s hs
  ·exact hl.2 s (cut_mem hs)
 ·unfold patchL;rw[List.length_append];omega
theorem patched_S {l:List (List UInt8)}{h:List (PV Y_impl_Hunk)}(hl:Sm l)(hh:SmH h)(hg:hunksP (l.length:Int) h=true):f_S_l2Patch l h=some ((patchL l h,()),()):=by
 obtain⟨hloop,h2⟩:=patch_loop_S hl hh hg
 obtain⟨f1,f2,f3,_⟩:=hunk_facts hg
 obtain⟨i1,i2,i3,_,_,i6⟩:=h2
 have hc:(cutL (foldP l h).2 (l.length:Int) l).length≤40:=Nat.le_trans cut_len (by omega)
 unfold f_S_l2Patch
 rw[show w_S_l2Patch_4 (l,[],0,h,(h.length:Int),0,())=_ from hloop,Option.bind_some]
 dsimp only
 rw[cutB_ok i2 i3 (Int.le_refl _),cond_true,roomB_ok (by omega),cond_true]
 rfl
def patchOk (l:List (List UInt8))(h:List (PV Y_impl_Hunk)):Bool:=goodP l&&(hunksP (l.length:Int) h&&goodP (patchL l h))
def patchR (l:List (List UInt8))(h:List (PV Y_impl_Hunk)):List (List UInt8):=bif patchOk l h then patchL l h else[]
theorem patch_S {l:List (List UInt8)}{h:List (PV Y_impl_Hunk)}(hl:Sm l)(hh:SmH h):f_S_Patch l h=some ((patchR l h,patchOk l h,()),()):=by
 have hlen:=hl.len
 unfold f_S_Patch f_S_l2Asked patchR patchOk
 rw[l1Good_S l hl,Option.bind_some]
 dsimp only
 cases hgl:goodP l
 ·rfl
 ·have:=goodP_len hgl
  rw[cond_true,hunks_S _ h hh (by omega) (by omega),Option.bind_some,Option.bind_some]
  dsimp only
  cases hg:hunksP (l.length:Int) h
  ·rfl
  ·obtain⟨p2,_⟩:=patchL_sm hl hh hg
   rw[patched_S hl hh hg,Option.bind_some,l1Good_S _ p2,Option.bind_some]
   simp only[Bool.not_true,cond_false]
   cases goodP (patchL l h)<;>rfl
end R
end

section
/- The drawn inputs: choices, lines, hunks; what is drawn is small. -/
open Go Go.Dn
namespace R
set_option linter.unusedVariables false
abbrev HK:=List (PV Y_impl_Hunk)
abbrev Cur:=PV Y_spec_l1Cur
structure CurOk (K:Int)(c:Cur):Prop where
 by_:∀x∈(c.1:List Int),0≤x∧x≤255
 a0:(0:Int)≤c.2.1
 a1:(c.2.1:Int)≤K
theorem CurOk.up {K K':Int}{c:Cur}(h:CurOk K c)(hk:K≤K'):CurOk K' c:=⟨h.by_,h.a0,Int.le_trans h.a1 hk⟩
theorem wrapU {n:Nat}(h:n≤255):IntKind.wrap .u64 (n:Int)=n:=by
 simp[IntKind.wrap,IntKind.min,IntKind.max,IntKind.signed,IntKind.bits]
 omega
theorem and255 (X:Int):(BitVec.ofInt (IntKind.bits .u64) X&&&BitVec.ofInt (IntKind.bits .u64) 255).toNat≤255:=by
 rw[BitVec.toNat_and]
 exact Nat.le_trans Nat.and_le_right (by decide)
theorem and255w (X:Int):0≤IntKind.wrap .i64 (IntKind.wrap .u64 ((BitVec.ofInt (IntKind.bits .u64) X&&&BitVec.ofInt (IntKind.bits .u64) 255).toNat:Int))∧IntKind.wrap .i64 (IntKind.wrap .u64 ((BitVec.ofInt (IntKind.bits .u64) X&&&BitVec.ofInt (IntKind.bits .u64) 255).toNat:Int))≤255:=by
 have h:=and255 X
 generalize (BitVec.ofInt (IntKind.bits .u64) X&&&BitVec.ofInt (IntKind.bits .u64) 255).toNat=n at*
 rw[wrapU h,wrap64 (by omega) (by omega)]
 omega
theorem next_ok {K:Int}{c:Cur}(h:CurOk K c)(hK:K≤4611686018427387904):∃(r:Int) (c':Cur),f_S_l1Cur_next c=some ((r,()),(c',()))∧0≤r∧r≤255∧CurOk (K+1) c':=by
 obtain⟨code,at_,seed,u⟩:=c
 obtain⟨h1,h2,h3⟩:=h
 have h1:∀x∈(code:List Int),0≤x∧x≤255:=h1
 have h2:(0:Int)≤at_:=h2
 have h3:(at_:Int)≤K:=h3
 have e:∀a:Int,0≤a→a≤K→IntKind.wrap .i64 (a+1)=a+1∧0≤a+1∧a+1≤K+1:=fun a _ _=>⟨wrap64 (by omega) (by omega),by omega,by omega⟩
 obtain⟨e1,e2,e3⟩:=e _ h2 h3
 have fin:∀(b:Int),0≤b→b≤255→∃(r:Int) (c':Cur),(bif (decide ((IntKind.wrap .i64 (at_+1))≤(List.length code:Int))) then
  some ((b,()),((code,((IntKind.wrap .i64 (at_+1)),((IntKind.wrap .u64 ((IntKind.wrap .u64 ((IntKind.wrap .u64 (seed*6364136223846793005))+(IntKind.wrap .u64 b)))+1442695040888963407)),u))),()))
  else
   bif decide ((0:Int)≤40) then
    some (((IntKind.wrap .i64 (IntKind.wrap .u64 ((BitVec.ofInt (IntKind.bits .u64) ((IntKind.wrap .u64 ((IntKind.wrap .u64 ((IntKind.wrap .u64 (seed*6364136223846793005))+(IntKind.wrap .u64 b)))+1442695040888963407)).fdiv (2^(min (40:Int).toNat (IntKind.bits .u64))))&&&BitVec.ofInt (IntKind.bits .u64) 255).toNat:Int))),()),((code,((IntKind.wrap .i64 (at_+1)),((IntKind.wrap .u64 ((IntKind.wrap .u64 ((IntKind.wrap .u64 (seed*6364136223846793005))+(IntKind.wrap .u64 b)))+1442695040888963407)),u))),()))
   else
    none:Option (PVs [(.int .i64)]×PVs [Y_spec_l1Cur]))=some ((r,()),(c',()))∧0≤r∧r≤255∧CurOk (K+1) c':=by
  intro b b0 b1
  cases decide ((IntKind.wrap .i64 (at_+1))≤(List.length code:Int))
  ·rw[cond_false,decide_eq_true (by omega:(0:Int)≤40),cond_true]
   refine⟨_,_,rfl,(and255w _).1,(and255w _).2,h1,?_,?_⟩
   ·show 0≤IntKind.wrap .i64 (at_+1);rw[e1];exact e2
   ·show IntKind.wrap .i64 (at_+1)≤K+1;rw[e1];exact e3
  ·rw[cond_true]
   refine⟨_,_,rfl,b0,b1,h1,?_,?_⟩
   ·show 0≤IntKind.wrap .i64 (at_+1);rw[e1];exact e2
   ·show IntKind.wrap .i64 (at_+1)≤K+1;rw[e1];exact e3
 unfold f_S_l1Cur_next
 dsimp only
 cases hc:decide (at_<(List.length code:Int))
 ·rw[cond_false,Option.bind_some]
  exact fin 0 (by omega) (by omega)
 ·have hlt:at_<(List.length code:Int):=of_decide_eq_true hc
  obtain⟨i,rfl⟩:∃i:Nat,at_=(i:Int):=⟨at_.toNat,(Int.toNat_of_nonneg h2).symm⟩
  have hi:i<List.length code:=Int.ofNat_lt.1 hlt
  obtain⟨b0,b1⟩:=h1 _ (List.getElem_mem hi)
  rw[cond_true,inB_lt hi,cond_true,Option.bind_some]
  dsimp only
  rw[toNat_cast,getD_of hi]
  have e4:∀b:Int,0≤b→b≤255→IntKind.wrap .i64 b=b:=fun b _ _=>wrap64 (by omega) (by omega)
  rw[e4 _ b0 b1]
  exact fin _ b0 b1
theorem pick_ok {K n:Int}{c:Cur}(h:CurOk K c)(hK:K≤4611686018427387000)(hn:n≤1000000):∃(r:Int) (c':Cur),f_S_l1Cur_pick c n=some ((r,()),(c',()))∧0≤r∧(1≤n→r<n)∧(n≤1→r=0)∧CurOk (K+2) c':=by
 unfold f_S_l1Cur_pick
 by_cases h1:n≤1
 ·rw[decide_eq_true h1,cond_true]
  exact⟨0,c,rfl,Int.le_refl _,fun _=>by omega,fun _=>rfl,h.up (by omega)⟩
 ·rw[decide_eq_false h1,cond_false]
  obtain⟨r,c1,q1,q2,q3,q4⟩:=next_ok h (by omega)
  rw[q1,Option.bind_some]
  dsimp only
  have fin:∀(x:Int) (c2:Cur),0≤x→CurOk (K+2) c2→∃(r:Int) (c':Cur),(bif n==0 then none else some ((x.tmod n,()),(c2,())):Option (PVs [(.int .i64)]×PVs [Y_spec_l1Cur]))=some ((r,()),(c',()))∧0≤r∧(1≤n→r<n)∧(n≤1→r=0)∧CurOk (K+2) c':=by
   intro x c2 hx hc
   rw[show(n==0)=false from by rw[beq_eq_false_iff_ne];omega,cond_false]
   exact⟨_,_,rfl,Int.tmod_nonneg n hx,fun _=>Int.tmod_lt_of_pos x (by omega),fun q=>absurd q h1,hc⟩
  by_cases h2:n>200
  ·obtain⟨r2,c2,p1,p2,p3,p4⟩:=next_ok q4 (by omega)
   rw[decide_eq_true h2,cond_true,p1,Option.bind_some,Option.bind_some]
   dsimp only
   rw[wrap64 (x:=r*256) (by omega) (by omega),wrap64 (x:=r*256+r2) (by omega) (by omega)]
   exact fin _ _ (by omega) (p4.up (by omega))
  ·rw[decide_eq_false h2,cond_false,Option.bind_some]
   exact fin _ _ q2 (q4.up (by omega))
theorem one_ok {K n:Int}{c:Cur}(h:CurOk K c)(hK:K≤4611686018427387000)(hn:n≤1000000):∃(r:Bool) (c':Cur),f_S_l1Cur_one c n=some ((r,()),(c',()))∧CurOk (K+2) c':=by
 obtain⟨r,c1,q1,_,_,_,q4⟩:=pick_ok h hK hn
 unfold f_S_l1Cur_one
 rw[q1,Option.bind_some]
 exact⟨_,_,rfl,q4⟩
def wl:List (List UInt8):=[[97],[98],[99],[100],[],[46],[46,46],[111,110,101,32,116,119,111],[43,120],[45,121],[92,32,122],[64,64]]
theorem wl_sm:∀i<12,(wl.getD i []).length≤8:=by decide
def wl3:List (List UInt8):=[[97],[101,110,100],[46]]
theorem wl3_sm:∀i<3,1≤(wl3.getD i []).length∧(wl3.getD i []).length≤8:=by decide
theorem line_ok {K:Int}{c:Cur}(h:CurOk K c)(hK:K≤4611686018427387000):∃(s:List UInt8) (c':Cur),f_S_l1Cur_line c=some ((s,()),(c',()))∧s.length≤8∧CurOk (K+2) c':=by
 obtain⟨r,c1,q1,q2,q3,_,q4⟩:=pick_ok (n:=12) h hK (by omega)
 have e:f_S_l1Cur_line c=(f_S_l1Cur_pick c 12).bind fun r1=>bif inB r1.1.1 12 then some ((wl.getD r1.1.1.toNat [],()),(r1.2.1,())) else none:=rfl
 obtain⟨i,rfl⟩:∃i:Nat,r=(i:Int):=⟨r.toNat,(Int.toNat_of_nonneg q2).symm⟩
 have hi:i<12:=by have:=q3 (by omega);omega
 rw[e,q1,Option.bind_some]
 dsimp only
 rw[show inB (i:Int) 12=true from inB_lt hi,cond_true,toNat_cast]
 exact⟨_,_,rfl,wl_sm i hi,q4⟩
def SmL (l:TX):Prop:=∀s∈l,1≤s.length∧s.length≤9
theorem SmL.snoc {l:TX}{s:List UInt8}(h:SmL l)(h1:1≤s.length)(h2:s.length≤9):SmL (l++[s]):=by
 intro x hx
 rcases List.mem_append.1 hx with hx|hx
 ·exact h x hx
 ·obtain rfl:=List.mem_singleton.1 hx
  exact⟨h1,h2⟩
theorem SmL.sm {l:TX}(h:SmL l)(hl:l.length≤1000):Sm l:=⟨by omega,fun s hs=>by have:=h s hs;omega⟩
theorem text_loop:∀(n:Nat) {K:Int} {c:Cur} {l:TX},CurOk K c→K+2*(n:Int)≤4611686018427380000→n≤100→l.length+n≤500→SmL l→∃(c':Cur) (l':TX),w_S_l1Cur_text_3 (c,l,(n:Int),())=some (c',l',())∧l'.length=l.length+n∧SmL l'∧CurOk (K+2*n) c'
 |0,K,c,l,h,hK,hn,hl,hs=>by
  refine⟨c,l,fix_end (B:=fun d=>b_S_l1Cur_text_3 d.1 d.2.1 d.2.2.1) ?_,rfl,hs,h.up (by omega)⟩
  show b_S_l1Cur_text_3 c l 0=_
  unfold b_S_l1Cur_text_3
  rw[decide_eq_false (by omega:¬((0:Int)>0)),cond_false]
 |n+1,K,c,l,h,hK,hn,hl,hs=>by
  obtain⟨s,c1,q1,q2,q3⟩:=line_ok h (by omega)
  obtain⟨c',l',p1,p2,p3,p4⟩:=text_loop n (c:=c1) (l:=l++[s++[10]]) q3 (by omega) (by omega) (by simp;omega) (hs.snoc (by simp) (by simp;omega))
  refine⟨c',l',?_,by rw[p2];simp;omega,p3,p4.up (by omega)⟩
  rw[←p1]
  refine fix_go (B:=fun d=>b_S_l1Cur_text_3 d.1 d.2.1 d.2.2.1) ?_
  show b_S_l1Cur_text_3 c l ((n+1:Nat):Int)=_
  unfold b_S_l1Cur_text_3
  rw[decide_eq_true (by omega:((n+1:Nat):Int)>0),cond_true,q1,Option.bind_some]
  dsimp only
  rw[decide_eq_true (by rw[List.length_cons,List.length_nil];omega),cond_true,roomB_ok (by rw[List.length_cons,List.length_nil];omega),cond_true,show IntKind.wrap .i64 (((n+1:Nat):Int) -1)=(n:Int) from by rw[wrap64 (by omega) (by omega)];omega]
theorem text_ok {K:Int}{c:Cur}(h:CurOk K c)(hK:K≤4611686018427370000):∃(l:TX) (c':Cur),f_S_l1Cur_text c=some ((l,()),(c',()))∧l.length≤9∧SmL l∧CurOk (K+30) c':=by
 obtain⟨r,c1,q1,q2,q3,_,q4⟩:=pick_ok (n:=9) h (by omega) (by omega)
 obtain⟨n,rfl⟩:∃n:Nat,r=(n:Int):=⟨r.toNat,(Int.toNat_of_nonneg q2).symm⟩
 have hn:n<9:=by have:=q3 (by omega);omega
 obtain⟨c2,l,p1,p2,p3,p4⟩:=text_loop n (l:=[]) q4 (by omega) (by omega) (by simp;omega) (fun s hs=>by cases hs)
 obtain⟨b,c3,o1,o2⟩:=one_ok (n:=5) p4 (by omega) (by omega)
 have hl:l.length≤8:=by rw[p2];simp;omega
 unfold f_S_l1Cur_text
 rw[q1,Option.bind_some]
 dsimp only
 rw[p1,Option.bind_some]
 dsimp only
 rw[o1,Option.bind_some]
 dsimp only
 cases b
 ·rw[cond_false,Option.bind_some]
  exact⟨_,_,rfl,by show List.length l≤9;omega,p3,o2.up (by omega)⟩
 ·obtain⟨r4,c4,s1,s2,s3,_,s4⟩:=pick_ok (n:=3) o2 (by omega) (by omega)
  obtain⟨i,rfl⟩:∃i:Nat,r4=(i:Int):=⟨r4.toNat,(Int.toNat_of_nonneg s2).symm⟩
  have hi:i<3:=by have:=s3 (by omega);omega
  rw[cond_true,show([[97],[101,110,100],[46]].length:Int)=3 from rfl,s1,Option.bind_some]
  dsimp only
  rw[show inB (i:Int) [[97],[101,110,100],[46]].length=true from inB_lt hi,cond_true,roomB_ok (by rw[List.length_cons,List.length_nil];omega),cond_true,Option.bind_some,toNat_cast]
  have hw:=wl3_sm i hi
  exact⟨_,_,rfl,by rw[List.length_append,List.length_cons,List.length_nil];omega,p3.snoc hw.1 (by have:=hw.2;show List.length (wl3.getD i [])≤9;omega),s4.up (by omega)⟩
def SmX (x:PV Y_impl_Hunk):Prop:=List.length x.2.2.1≤200∧SmL x.2.2.1
theorem new_loop:∀(n:Nat) {K:Int} {c:Cur} {x:PV Y_impl_Hunk} (l:TX) (out:HK) (p len:Int) (bb:Bool),CurOk K c→K+2*(n:Int)≤4611686018427380000→n≤10→List.length x.2.2.1+n≤100→SmL x.2.2.1→
 ∃(c':Cur) (x':PV Y_impl_Hunk),w_S_l1Cur_hunks_6 (c,l,out,p,x,(n:Int),len,bb,())=some (c',l,out,p,x',len,bb,())∧x'.1=x.1∧x'.2.1=x.2.1∧List.length x'.2.2.1=List.length x.2.2.1+n∧SmL x'.2.2.1∧CurOk (K+2*n) c'
 |0,K,c,x,l,out,p,len,bb,h,hK,hn,hl,hs=>by
  refine⟨c,x,fix_end (B:=fun d=>b_S_l1Cur_hunks_6 d.1 d.2.1 d.2.2.1 d.2.2.2.1 d.2.2.2.2.1 d.2.2.2.2.2.1 d.2.2.2.2.2.2.1 d.2.2.2.2.2.2.2.1) ?_,rfl,rfl,rfl,hs,h.up (by omega)⟩
  show b_S_l1Cur_hunks_6 c l out p x 0 len bb=_
  unfold b_S_l1Cur_hunks_6
  rw[decide_eq_false (by omega:¬((0:Int)>0)),cond_false]
 |n+1,K,c,x,l,out,p,len,bb,h,hK,hn,hl,hs=>by
  obtain⟨s,c1,q1,q2,q3⟩:=line_ok h (by omega)
  obtain⟨c',x',p1,p2,p3,p4,p5,p6⟩:=new_loop n (c:=c1) (x:=(x.1,(x.2.1,((x.2.2.1++[s++[10]]),x.2.2.2)))) l out p len bb q3 (by omega) (by omega) (by show List.length (x.2.2.1++[s++[10]])+n≤100;rw[List.length_append,List.length_cons,List.length_nil];omega) (hs.snoc (by simp) (by simp;omega))
  refine⟨c',x',?_,p2,p3,by rw[p4];show List.length (x.2.2.1++[s++[10]])+n=_;rw[List.length_append,List.length_cons,List.length_nil];omega,p5,p6.up (by omega)⟩
  rw[←p1]
  refine fix_go (B:=fun d=>b_S_l1Cur_hunks_6 d.1 d.2.1 d.2.2.1 d.2.2.2.1 d.2.2.2.2.1 d.2.2.2.2.2.1 d.2.2.2.2.2.2.1 d.2.2.2.2.2.2.2.1) ?_
  show b_S_l1Cur_hunks_6 c l out p x ((n+1:Nat):Int) len bb=_
  unfold b_S_l1Cur_hunks_6
  rw[decide_eq_true (by omega:((n+1:Nat):Int)>0),cond_true,q1,Option.bind_some]
  dsimp only
  rw[decide_eq_true (by rw[List.length_cons,List.length_nil];omega),cond_true,roomB_ok (by rw[List.length_cons,List.length_nil];omega),cond_true,show IntKind.wrap .i64 (((n+1:Nat):Int) -1)=(n:Int) from by rw[wrap64 (by omega) (by omega)];omega]
theorem least_S (a b:Int):f_S_l1Least a b=some ((if a<b then a else b,()),()):=by
 unfold f_S_l1Least
 by_cases h:a<b
 ·rw[decide_eq_true h,if_pos h];rfl
 ·rw[decide_eq_false h,if_neg h];rfl
theorem whole_S {l:TX}(hl:l.length≤100)(hs:SmL l):∃b:Bool,f_S_l1Whole l=some ((b,()),()):=by
 unfold f_S_l1Whole
 by_cases h:l.length=0
 ·rw[show((l.length:Int)==0)=true from by rw[h];rfl]
  exact⟨_,rfl⟩
 ·have hi:l.length -1<l.length:=by omega
  obtain⟨h1,h2⟩:=hs _ (List.getElem_mem hi)
  rw[show((l.length:Int)==0)=false from by rw[beq_eq_false_iff_ne];omega,cond_false,show IntKind.wrap .i64 ((l.length:Int) -1)=((l.length -1:Nat):Int) from by rw[wrap64 (by omega) (by omega)];omega,inB_lt hi,cond_true,toNat_cast,getD_of hi,ends_S _ h1 (by omega),Option.bind_some]
  exact⟨_,rfl⟩
def SmHK (h:HK):Prop:=∀x∈h,SmX x
theorem hunks_loop {l:TX}(hl:l.length≤100)(hs:SmL l):∀(f:Nat) {K:Int} {c:Cur} {out:HK} {p:Int},CurOk K c→K+20*(f:Int)≤4611686018427300000→f≤200→(l.length:Int)+1 -p≤f→0≤p→p≤1000→out.length≤6→SmHK out→
 ∃(c':Cur) (h:HK),w_S_l1Cur_hunks_3 (c,l,out,p,())=some (c',h,())∧h.length≤6∧SmHK h∧CurOk (K+20*f) c':=by
 have stop:∀{K:Int} {c:Cur} {out:HK} {p:Int},¬(p≤(l.length:Int)∧(out.length:Int)<6)→w_S_l1Cur_hunks_3 (c,l,out,p,())=some (c,out,()):=by
  intro K c out p hp
  refine fix_end (B:=fun d=>b_S_l1Cur_hunks_3 d.1 d.2.1 d.2.2.1 d.2.2.2.1) ?_
  show b_S_l1Cur_hunks_3 c l out p=_
  unfold b_S_l1Cur_hunks_3
  by_cases h1:p≤(l.length:Int)
  ·rw[decide_eq_true h1,cond_true,decide_eq_false (fun q=>hp ⟨h1,q⟩),cond_false]
  ·rw[decide_eq_false h1,cond_false]
 intro f
 induction f with
 |zero=>
  intro K c out p h hK hf hm hp0 hp1 ho hso
  exact⟨c,out,stop (K:=K) (fun q=>by omega),ho,hso,h.up (by omega)⟩
 |succ f ih=>
  intro K c out p h hK hf hm hp0 hp1 ho hso
  by_cases hg:p≤(l.length:Int)∧(out.length:Int)<6
  ·obtain⟨g1,g2⟩:=hg
   generalize hL:(if (3:Int)<(l.length:Int) -p then(3:Int) else(l.length:Int) -p)=m
   have hm0:0≤m∧m≤3:=by rw[←hL];split<;>omega
   obtain⟨r1,c1,a1,a2,a3,a4,a5⟩:=pick_ok (n:=m+1) h (by omega) (by omega)
   have a3:=a3 (by omega)
   obtain⟨r2,c2,b1,b2,b3,b4,b5⟩:=pick_ok (n:=3) a5 (by omega) (by omega)
   have b3:=b3 (by omega)
   obtain⟨n,rfl⟩:∃n:Nat,r2=(n:Int):=⟨r2.toNat,(Int.toNat_of_nonneg b2).symm⟩
   obtain⟨c3,x,d1,d2,d3,d4,d5,d6⟩:=new_loop n (x:=(p,(r1,(([]:PV S_string),())))) l out p (out.length:Int) (decide ((out.length:Int)<6)) b5 (by omega) (by omega) (by show 0+n≤100;omega) (fun s hs=>by cases hs)
   have d4:List.length x.2.2.1=n:=by rw[d4];show 0+n=n;omega
   obtain⟨r3,c4,e1,e2,e3,e4,e5⟩:=pick_ok (n:=3) d6 (by omega) (by omega)
   have e3:=e3 (by omega)
   obtain⟨wb,hw⟩:=whole_S hl hs
   have hx:SmX x:=⟨by omega,d5⟩
   have key:∃out2:HK,out2.length≤6∧SmHK out2∧w_S_l1Cur_hunks_3 (c,l,out,p,())=w_S_l1Cur_hunks_3 (c4,l,out2,p+(r1+1+r3),()):=by
    have hgo:∀{s t},b_S_l1Cur_hunks_3 s.1 s.2.1 s.2.2.1 s.2.2.2.1=some (.inl t)→w_S_l1Cur_hunks_3 s=w_S_l1Cur_hunks_3 t:=fun hh=>fix_go (B:=fun d=>b_S_l1Cur_hunks_3 d.1 d.2.1 d.2.2.1 d.2.2.2.1) hh
    have hbody:∃bb:Bool,b_S_l1Cur_hunks_3 c l out p=some (.inl (c4,l,(if bb then out++[x] else out),p+(r1+1+r3),())):=by
     unfold b_S_l1Cur_hunks_3
     rw[decide_eq_true g1,cond_true,decide_eq_true g2,cond_true,wrap64 (x:=(l.length:Int) -p) (by omega) (by omega),least_S,Option.bind_some]
     dsimp only
     rw[hL,wrap64 (x:=m+1) (by omega) (by omega),a1,Option.bind_some]
     dsimp only
     rw[b1,Option.bind_some]
     dsimp only
     rw[decide_eq_true g2] at d1
     rw[d1,Option.bind_some]
     dsimp only
     rw[d3,hw,Option.bind_some]
     dsimp only
     have w1:IntKind.wrap .i64 (p+IntKind.wrap .i64 (IntKind.wrap .i64 (r1+1)+r3))=p+(r1+1+r3):=by
      rw[wrap64 (x:=r1+1) (by omega) (by omega),wrap64 (x:=r1+1+r3) (by omega) (by omega),wrap64 (by omega) (by omega)]
     have hroom:roomB (out.length+[x].length)=true:=roomB_ok (by rw[List.length_cons,List.length_nil];omega)
     cases decide (IntKind.wrap .i64 (r1+(List.length x.2.2.1:Int))>0)
     ·refine⟨false,?_⟩
      rw[cond_false,Option.bind_some]
      dsimp only
      rw[cond_false,Option.bind_some]
      dsimp only
      rw[e1,Option.bind_some]
      dsimp only
      rw[d3,w1]
      rfl
     ·rw[cond_true]
      have tail:∀q:Bool,∃bb:Bool,((((some (c3,l,out,p,x,(out.length:Int),true,q,()):Option (PV Y_spec_l1Cur×PV S_string×PV S_impl_Hunk×PV (.int .i64)×PV Y_impl_Hunk×PV (.int .i64)×PV .bool×PV .bool×Unit)).bind fun j33=>
       bif j33.2.2.2.2.2.2.2.1 then
        bif roomB (j33.2.2.1.length+[j33.2.2.2.2.1].length) then
         some (j33.1,j33.2.1,(j33.2.2.1++[j33.2.2.2.2.1]),j33.2.2.2.1,j33.2.2.2.2.1,j33.2.2.2.2.2.1,j33.2.2.2.2.2.2.1,())
        else
         none
       else
        some (j33.1,j33.2.1,j33.2.2.1,j33.2.2.2.1,j33.2.2.2.2.1,j33.2.2.2.2.2.1,j33.2.2.2.2.2.2.1,()):Option ((PV Y_spec_l1Cur×PV S_string×PV S_impl_Hunk×PV (.int .i64)×PV Y_impl_Hunk×PV (.int .i64)×PV .bool×Unit))).bind fun j34=>
       (f_S_l1Cur_pick j34.1 3).bind fun r35=>
         some (.inl (r35.2.1,j34.2.1,j34.2.2.1,(IntKind.wrap .i64 (j34.2.2.2.1+(IntKind.wrap .i64 ((IntKind.wrap .i64 (j34.2.2.2.2.1.2.1+1))+r35.1.1)))),()))):Option ((PV Y_spec_l1Cur×PV S_string×PV S_impl_Hunk×PV (.int .i64)×Unit)⊕((PV Y_spec_l1Cur×PV S_impl_Hunk×Unit))))=some (.inl (c4,l,(if bb then out++[x] else out),p+(r1+1+r3),())):=by
       intro q
       refine⟨q,?_⟩
       rw[Option.bind_some]
       dsimp only
       cases q
       ·rw[cond_false,Option.bind_some]
        dsimp only
        rw[e1,Option.bind_some]
        dsimp only
        rw[d3,w1]
        rfl
       ·rw[cond_true,hroom,cond_true,Option.bind_some]
        dsimp only
        rw[e1,Option.bind_some]
        dsimp only
        rw[d3,w1]
        rfl
      cases decide (IntKind.wrap .i64 (p+r1)<(l.length:Int))
      ·rw[cond_false]
       cases wb
       ·exact tail _
       ·exact tail true
      ·exact tail true
    obtain⟨bb,hbody⟩:=hbody
    refine⟨if bb then out++[x] else out,?_,?_,hgo (s:=(c,l,out,p,())) hbody⟩
    ·cases bb
     ·exact ho
     ·rw[if_pos rfl,List.length_append,List.length_cons,List.length_nil];omega
    ·cases bb
     ·exact hso
     ·intro y hy
      rw[if_pos rfl] at hy
      rcases List.mem_append.1 hy with hy|hy
      ·exact hso y hy
      ·obtain rfl:=List.mem_singleton.1 hy
       exact hx
   obtain⟨out2,k1,k2,k3⟩:=key
   obtain⟨c',h',i1,i2,i3,i4⟩:=ih (out:=out2) (p:=p+(r1+1+r3)) e5 (by omega) (by omega) (by omega) (by omega) (by omega) k1 k2
   exact⟨c',h',k3.trans i1,i2,i3,i4.up (by omega)⟩
  ·exact⟨c,out,stop (K:=K) hg,ho,hso,h.up (by omega)⟩
theorem hunks_ok {l:TX}(hl:l.length≤100)(hs:SmL l){K:Int}{c:Cur}(h:CurOk K c)(hK:K≤4611686018427200000):∃(hh:HK) (c':Cur),f_S_l1Cur_hunks c l=some ((hh,()),(c',()))∧hh.length≤6∧SmHK hh∧CurOk (K+5000) c':=by
 obtain⟨r,c1,q1,q2,q3,_,q4⟩:=pick_ok (n:=3) h (by omega) (by omega)
 have q3:=q3 (by omega)
 obtain⟨c2,hh,p1,p2,p3,p4⟩:=hunks_loop hl hs 150 (out:=[]) (p:=r) q4 (by omega) (by omega) (by omega) q2 (by omega) (by simp) (fun x hx=>by cases hx)
 unfold f_S_l1Cur_hunks
 rw[q1,Option.bind_some]
 dsimp only
 rw[p1,Option.bind_some]
 exact⟨_,_,rfl,p2,p3,p4.up (by omega)⟩
theorem SmHK.sm {h:HK}(hl:h.length≤1000)(hs:SmHK h):SmH h:=⟨by omega,fun x hx=>(hs x hx).2.sm (by have:=(hs x hx).1;omega)⟩
end R
end

section
/- Drawn texts are spoilt: what comes is a text. -/
open Go Go.Dn
namespace R
set_option linter.unusedVariables false
theorem cutS_len {α:Type}{l:List α}{a b:Int}:(cutL a b l).length≤l.length:=by
 unfold cutL
 rw[List.length_drop,List.length_take]
 omega
theorem cutS_ok {a b:Int}{n:Nat}(h0:0≤a)(h1:a≤b)(h2:b≤(n:Int)):cutB a b n=true:=by
 unfold cutB
 simp
 omega
theorem spoilt_loop {ws:List UInt8}(hw0:0<ws.length)(hw1:ws.length≤1000):∀(n:Nat) {K:Int} {c:Cur} (s:List UInt8),CurOk K c→K+6*(n:Int)≤4611686018427380000→s.length+n≤900000→
 ∃(c':Cur) (s':List UInt8),w_S_l1Cur_spoilt_2 (c,s,ws,(n:Int),())=some (c',s',())∧CurOk (K+6*n) c'
 |0,K,c,s,h,hK,hs=>by
  refine⟨c,s,fix_end (B:=fun d=>b_S_l1Cur_spoilt_2 d.1 d.2.1 d.2.2.1 d.2.2.2.1) ?_,h.up (by omega)⟩
  show b_S_l1Cur_spoilt_2 c s ws 0=_
  unfold b_S_l1Cur_spoilt_2
  rw[decide_eq_false (by omega:¬((0:Int)>0)),cond_false]
 |n+1,K,c,s,h,hK,hs=>by
  by_cases h0:(s.length:Int)>0
  ·obtain⟨r1,c1,a1,a2,a3,_,a5⟩:=pick_ok (n:=(s.length:Int)) h (by omega) (by omega)
   have a3:=a3 (by omega)
   obtain⟨i,rfl⟩:∃i:Nat,r1=(i:Int):=⟨r1.toNat,(Int.toNat_of_nonneg a2).symm⟩
   obtain⟨r2,c2,b1,b2,b3,_,b5⟩:=pick_ok (n:=(ws.length:Int)) a5 (by omega) (by omega)
   have b3:=b3 (by omega)
   obtain⟨j,rfl⟩:∃j:Nat,r2=(j:Int):=⟨r2.toNat,(Int.toNat_of_nonneg b2).symm⟩
   obtain⟨r3,c3,d1,d2,d3,_,d5⟩:=pick_ok (n:=3) b5 (by omega) (by omega)
   have hs':∃s':List UInt8,b_S_l1Cur_spoilt_2 c s ws ((n+1:Nat):Int)=some (.inl (c3,s',ws,(n:Int),()))∧s'.length≤s.length+1:=by
    unfold b_S_l1Cur_spoilt_2
    rw[decide_eq_true (by omega:((n+1:Nat):Int)>0),cond_true,decide_eq_true h0,cond_true,a1,Option.bind_some]
    dsimp only
    rw[b1,Option.bind_some]
    dsimp only
    rw[inB_lt (by omega),cond_true,d1,Option.bind_some]
    dsimp only
    have w1:IntKind.wrap .i64 ((i:Int)+1)=((i+1:Nat):Int):=by rw[wrap64 (by omega) (by omega)];omega
    have w2:IntKind.wrap .i64 (((n+1:Nat):Int) -1)=(n:Int):=by rw[wrap64 (by omega) (by omega)];omega
    have k1:cutB 0 (i:Int) s.length=true:=cutS_ok (by omega) (by omega) (by omega)
    have k2:cutB (i:Int) (s.length:Int) s.length=true:=cutS_ok (by omega) (by omega) (by omega)
    have k3:cutB ((i+1:Nat):Int) (s.length:Int) s.length=true:=cutS_ok (by omega) (by omega) (by omega)
    have l1:(cutL 0 (i:Int) s).length≤s.length:=cutS_len
    have l2:(cutL (i:Int) (s.length:Int) s).length≤s.length:=cutS_len
    have l3:(cutL ((i+1:Nat):Int) (s.length:Int) s).length≤s.length:=cutS_len
    have e1:(cutL 0 (i:Int) s).length+(cutL (i:Int) (s.length:Int) s).length=s.length:=by
     unfold cutL
     rw[List.length_drop,List.length_take,List.length_drop,List.length_take]
     omega
    have e2:(cutL 0 (i:Int) s).length+(cutL ((i+1:Nat):Int) (s.length:Int) s).length+1=s.length:=by
     unfold cutL
     rw[List.length_drop,List.length_take,List.length_drop,List.length_take]
     omega
    have lb:∀x:Int,(bytesOfInts [x]).length=1:=fun x=>rfl
    rw[k1,k2,w1,k3]
    simp only[cond_true]
    cases(r3==0)
    ·simp only[cond_false]
     cases(r3==1)
     ·simp only[cond_false]
      rw[decide_eq_true (by omega),cond_true,Option.bind_some]
      dsimp only
      rw[w2]
      exact⟨_,rfl,by rw[List.length_append];omega⟩
     ·simp only[cond_true]
      rw[decide_eq_true (by rw[lb];omega),cond_true,decide_eq_true (by rw[List.length_append,lb];omega),cond_true,Option.bind_some]
      dsimp only
      rw[w2]
      exact⟨_,rfl,by rw[List.length_append,List.length_append,lb];omega⟩
    ·simp only[cond_true]
     rw[decide_eq_true (by rw[lb];omega),cond_true,decide_eq_true (by rw[List.length_append,lb];omega),cond_true,Option.bind_some]
     dsimp only
     rw[w2]
     exact⟨_,rfl,by rw[List.length_append,List.length_append,lb];omega⟩
   obtain⟨s',e1,e2⟩:=hs'
   obtain⟨c',s2,p1,p2⟩:=spoilt_loop hw0 hw1 n s' d5 (by omega) (by omega)
   exact⟨c',s2,Eq.trans (fix_go (B:=fun d=>b_S_l1Cur_spoilt_2 d.1 d.2.1 d.2.2.1 d.2.2.2.1) e1) p1,p2.up (by omega)⟩
  ·refine⟨c,s,fix_end (B:=fun d=>b_S_l1Cur_spoilt_2 d.1 d.2.1 d.2.2.1 d.2.2.2.1) ?_,h.up (by omega)⟩
   show b_S_l1Cur_spoilt_2 c s ws ((n+1:Nat):Int)=_
   unfold b_S_l1Cur_spoilt_2
   rw[decide_eq_true (by omega:((n+1:Nat):Int)>0),cond_true,decide_eq_false h0,cond_false]
theorem spoilt_ok {ws:List UInt8}(hw0:0<ws.length)(hw1:ws.length≤1000){K:Int}{c:Cur}(s:List UInt8)(h:CurOk K c)(hK:K≤4611686018427370000)(hs:s.length≤800000):
 ∃(s':List UInt8) (c':Cur),f_S_l1Cur_spoilt c s ws=some ((s',()),(c',())):=by
 obtain⟨r,c1,q1,q2,q3,_,q4⟩:=pick_ok (n:=2) h (by omega) (by omega)
 have q3:=q3 (by omega)
 obtain⟨n,rfl⟩:∃n:Nat,r=(n:Int):=⟨r.toNat,(Int.toNat_of_nonneg q2).symm⟩
 obtain⟨c2,s2,p1,p2⟩:=spoilt_loop hw0 hw1 (n+1) s q4 (by omega) (by omega)
 unfold f_S_l1Cur_spoilt
 rw[q1,Option.bind_some]
 dsimp only
 rw[show IntKind.wrap .i64 (1+(n:Int))=((n+1:Nat):Int) from by rw[wrap64 (by omega) (by omega)];omega,p1]
 exact⟨_,_,rfl⟩
theorem start_ok {t:PV S_uint8}(hw:WfV S_uint8 t):CurOk 0 ((t,(0,(0,()))):Cur):=⟨fun x hx=>by have:=hw.2 x hx;exact this,Int.le_refl _,Int.le_refl _⟩
theorem big_L {t0 t1:PV S_uint8}:∃b:Bool,f_L_big t0 t1=some ((b,()),()):=by
 unfold f_L_big
 cases decide ((List.length t0:Int)>1048576)
 ·exact⟨_,rfl⟩
 ·exact⟨_,rfl⟩
end R
end

section
/- Drawn texts that are like others: they are small. -/
open Go Go.Dn
namespace R
set_option linter.unusedVariables false
def SmN (m:Nat)(l:TX):Prop:=∀s∈l,1≤s.length∧s.length≤m
theorem SmN.snoc {m:Nat}{l:TX}{s:List UInt8}(h:SmN m l)(h1:1≤s.length)(h2:s.length≤m):SmN m (l++[s]):=by
 intro x hx
 rcases List.mem_append.1 hx with hx|hx
 ·exact h x hx
 ·obtain rfl:=List.mem_singleton.1 hx
  exact⟨h1,h2⟩
theorem SmN.app {m:Nat}{l l':TX}(h:SmN m l)(h':SmN m l'):SmN m (l++l'):=fun x hx=>(List.mem_append.1 hx).elim (h x) (h' x)
theorem SmN.set {m:Nat}{l:TX}{i:Nat}{s:List UInt8}(h:SmN m l)(h1:1≤s.length)(h2:s.length≤m):SmN m (l.set i s):=by
 intro x hx
 rcases List.mem_or_eq_of_mem_set hx with hx|rfl
 ·exact h x hx
 ·exact⟨h1,h2⟩
theorem SmN.up {m m':Nat}{l:TX}(h:SmN m l)(hm:m≤m'):SmN m' l:=fun x hx=>⟨(h x hx).1,Nat.le_trans (h x hx).2 hm⟩
theorem cutG_mem {l:TX}{a b:Int}{x:List UInt8}(hx:x∈cutL a b l):x∈l:=List.mem_of_mem_take (List.mem_of_mem_drop hx)
theorem SmN.cut {m:Nat}{l:TX}{a b:Int}(h:SmN m l):SmN m (cutL a b l):=fun x hx=>h x (cutG_mem hx)
theorem cutG_len {α:Type}{l:List α}{a b:Int}:(cutL a b l).length≤b.toNat -a.toNat:=by
 unfold cutL
 rw[List.length_drop,List.length_take]
 omega
theorem cutG_ok {a b:Int}{n:Nat}(h0:0≤a)(h1:a≤b)(h2:b≤(n:Int)):cutB a b n=true:=by
 unfold cutB
 rw[decide_eq_true h0,decide_eq_true h1,decide_eq_true h2]
 rfl
theorem SmN.sm {m:Nat}{l:TX}(h:SmN m l)(hm:m≤1000)(hl:l.length≤1000):Sm l:=⟨by omega,fun s hs=>by have:=h s hs;omega⟩
theorem wholeN_S {l:TX}(hl:l.length≤100){m:Nat}(hm:m≤1000)(hs:SmN m l):∃b:Bool,f_S_l1Whole l=some ((b,()),()):=by
 unfold f_S_l1Whole
 by_cases h:l.length=0
 ·rw[show((l.length:Int)==0)=true from by rw[h];rfl]
  exact⟨_,rfl⟩
 ·have hi:l.length -1<l.length:=by omega
  obtain⟨h1,h2⟩:=hs _ (List.getElem_mem hi)
  rw[show((l.length:Int)==0)=false from by rw[beq_eq_false_iff_ne];omega,cond_false,show IntKind.wrap .i64 ((l.length:Int) -1)=((l.length -1:Nat):Int) from by rw[wrap64 (by omega) (by omega)];omega,inB_lt hi,cond_true,toNat_cast,getD_of hi,ends_S _ h1 (by omega),Option.bind_some]
  exact⟨_,rfl⟩
theorem plainN_S {s:List UInt8}(h1:1≤s.length)(h2:s.length≤1000):∃r:List UInt8,f_S_l1Plain s=some ((r,()),())∧r.length≤s.length:=by
 unfold f_S_l1Plain
 rw[ends_S s h1 (by omega),Option.bind_some]
 dsimp only
 cases endP s
 ·exact⟨_,rfl,Nat.le_refl _⟩
 ·have hw:IntKind.wrap .i64 ((s.length:Int) -1)=((s.length -1:Nat):Int):=by rw[wrap64 (by omega) (by omega)];omega
  rw[cond_true,hw,cutG_ok (by omega) (by omega) (by omega),cond_true]
  refine⟨_,rfl,?_⟩
  have:=cutG_len (l:=s) (a:=0) (b:=((s.length -1:Nat):Int))
  rw[toNat_cast] at this
  omega
theorem own_Sx (l:TX)(h:l.length≤1099511627776):f_S_l1OwnT l=some ((l,()),()):=by
 unfold f_S_l1OwnT
 rw[roomB_ok (by simpa using h)]
 rfl
theorem other_step {m:Nat}(hm9:9≤m)(hm:m≤100)(n:Nat)(hn:n≤10){K:Int}{c:Cur}{l:TX}(h:CurOk K c)(hK:K≤4611686018427380000)(hl:l.length≤60)(hs:SmN m l):
 ∃(c':Cur) (l':TX),b_S_l1Cur_other_3 c l ((n+1:Nat):Int)=some (.inl (c',l',(n:Int),()))∧l'.length≤l.length+1∧SmN m l'∧CurOk (K+6) c':=by
 obtain⟨r1,c1,a1,a2,a3,a4,a5⟩:=pick_ok (n:=(l.length:Int)+1) h (by omega) (by omega)
 have a3:=a3 (by omega)
 obtain⟨r2,c2,b1,b2,b3,b4,b5⟩:=pick_ok (n:=3) a5 (by omega) (by omega)
 obtain⟨k,rfl⟩:∃k:Nat,r1=(k:Int):=⟨r1.toNat,(Int.toNat_of_nonneg a2).symm⟩
 obtain⟨s,c3,e1,e2,e3⟩:=line_ok b5 (by omega)
 obtain⟨wb,hw⟩:=wholeN_S (l:=l) (by omega) (by omega) hs
 have w1:IntKind.wrap .i64 (((n+1:Nat):Int) -1)=(n:Int):=by rw[wrap64 (by omega) (by omega)];omega
 have hsl:1≤(s++[10]).length∧(s++[10]).length≤m:=by simp;omega
 unfold b_S_l1Cur_other_3
 rw[decide_eq_true (by omega:((n+1:Nat):Int)>0),cond_true,wrap64 (x:=(l.length:Int)+1) (by omega) (by omega),a1,Option.bind_some]
 dsimp only
 rw[b1,Option.bind_some]
 dsimp only
 cases hr0:(r2==0)
 ·rw[cond_false]
  cases hr1:(r2==1)
  ·rw[cond_false]
   have tail:∀q:Bool,∃(c':Cur) (l':TX),(((some (c2,l,((n+1:Nat):Int),(k:Int),q,()):Option ((PV Y_spec_l1Cur×PV S_string×PV (.int .i64)×PV (.int .i64)×PV .bool×Unit))).bind fun j14=>
    bif j14.2.2.2.2.1 then
     bif cutB 0 j14.2.2.2.1 j14.2.1.length then
      (f_S_l1OwnT (cutL 0 j14.2.2.2.1 j14.2.1)).bind fun r15=>
        (f_S_l1Cur_line j14.1).bind fun r16=>
          bif decide (r16.1.1.length+[10].length≤1099511627776) then
           bif roomB (r15.1.1.length+[(r16.1.1++[10])].length) then
            bif cutB j14.2.2.2.1 (j14.2.1.length:Int) j14.2.1.length then
             bif roomB ((r15.1.1++[(r16.1.1++[10])]).length+(cutL j14.2.2.2.1 (j14.2.1.length:Int) j14.2.1).length) then
              some (r16.2.1,((r15.1.1++[(r16.1.1++[10])])++(cutL j14.2.2.2.1 (j14.2.1.length:Int) j14.2.1)),j14.2.2.1,())
             else
              none
            else
             none
           else
            none
          else
           none
     else
      none
    else
     some (j14.1,j14.2.1,j14.2.2.1,()):Option ((PV Y_spec_l1Cur×PV S_string×PV (.int .i64)×Unit))).bind fun j17=>some (.inl (j17.1,j17.2.1,(IntKind.wrap .i64 (j17.2.2.1 -1)),())):Option ((PV Y_spec_l1Cur×PV S_string×PV (.int .i64)×Unit)⊕((PV Y_spec_l1Cur×PV S_string×Unit))))=some (.inl (c',l',(n:Int),()))∧l'.length≤l.length+1∧SmN m l'∧CurOk (K+6) c':=by
    intro q
    rw[Option.bind_some]
    dsimp only
    cases q
    ·rw[cond_false,Option.bind_some]
     dsimp only
     rw[w1]
     exact⟨_,_,rfl,by omega,hs,b5.up (by omega)⟩
    ·have l1:=cutG_len (l:=l) (a:=0) (b:=(k:Int))
     have l2:=cutG_len (l:=l) (a:=(k:Int)) (b:=(l.length:Int))
     rw[toNat_cast] at l1 l2
     rw[toNat_cast] at l2
     rw[cond_true,cutG_ok (by omega) (by omega) (by omega),cond_true,own_Sx _ (by omega),Option.bind_some]
     dsimp only
     rw[e1,Option.bind_some]
     dsimp only
     rw[decide_eq_true (by rw[List.length_cons,List.length_nil];omega),cond_true,roomB_ok (by rw[List.length_cons,List.length_nil];omega),cond_true,cutG_ok (by omega) (by omega) (by omega),cond_true,roomB_ok (by rw[List.length_append,List.length_cons,List.length_nil];omega),cond_true,Option.bind_some]
     dsimp only
     rw[w1]
     exact⟨_,_,rfl,by rw[List.length_append,List.length_append,List.length_cons,List.length_nil];omega,(hs.cut.snoc hsl.1 hsl.2).app hs.cut,e3.up (by omega)⟩
   cases decide ((k:Int)<(l.length:Int))
   ·rw[cond_false,hw,Option.bind_some]
    exact tail wb
   ·exact tail true
  ·rw[cond_true]
   have tail:∀q:Bool,k<l.length∨q=false→∃(c':Cur) (l':TX),(((some (c2,l,((n+1:Nat):Int),(k:Int),q,()):Option ((PV Y_spec_l1Cur×PV S_string×PV (.int .i64)×PV (.int .i64)×PV .bool×Unit))).bind fun j11=>
    bif j11.2.2.2.2.1 then
     (f_S_l1Cur_line j11.1).bind fun r12=>
       bif decide (r12.1.1.length+[10].length≤1099511627776) then
        bif inB j11.2.2.2.1 j11.2.1.length then
         some (r12.2.1,(j11.2.1.set j11.2.2.2.1.toNat (r12.1.1++[10])),j11.2.2.1,())
        else
         none
       else
        none
    else
     some (j11.1,j11.2.1,j11.2.2.1,()):Option ((PV Y_spec_l1Cur×PV S_string×PV (.int .i64)×Unit))).bind fun j17=>some (.inl (j17.1,j17.2.1,(IntKind.wrap .i64 (j17.2.2.1 -1)),())):Option ((PV Y_spec_l1Cur×PV S_string×PV (.int .i64)×Unit)⊕((PV Y_spec_l1Cur×PV S_string×Unit))))=some (.inl (c',l',(n:Int),()))∧l'.length≤l.length+1∧SmN m l'∧CurOk (K+6) c':=by
    intro q hq
    rw[Option.bind_some]
    dsimp only
    cases q
    ·rw[cond_false,Option.bind_some]
     dsimp only
     rw[w1]
     exact⟨_,_,rfl,by omega,hs,b5.up (by omega)⟩
    ·have hk:k<l.length:=by rcases hq with hq|hq;exact hq;cases hq
     rw[cond_true,e1,Option.bind_some]
     dsimp only
     rw[decide_eq_true (by rw[List.length_cons,List.length_nil];omega),cond_true,inB_lt hk,cond_true,Option.bind_some]
     dsimp only
     rw[w1]
     exact⟨_,_,rfl,by rw[List.length_set];omega,hs.set hsl.1 hsl.2,e3.up (by omega)⟩
   by_cases hk:k<l.length
   ·obtain⟨h1,h2⟩:=hs _ (List.getElem_mem hk)
    rw[decide_eq_true (by omega:(k:Int)<(l.length:Int)),cond_true,inB_lt hk,cond_true,toNat_cast,getD_of hk,ends_S _ h1 (by omega),Option.bind_some]
    exact tail _ (.inl hk)
   ·rw[decide_eq_false (by omega:¬(k:Int)<(l.length:Int)),cond_false]
    exact tail false (.inr rfl)
 ·rw[cond_true]
  by_cases hk:k<l.length
  ·have l1:=cutG_len (l:=l) (a:=0) (b:=(k:Int))
   have l2:=cutG_len (l:=l) (a:=((k+1:Nat):Int)) (b:=(l.length:Int))
   rw[toNat_cast] at l1 l2
   rw[toNat_cast] at l2
   rw[decide_eq_true (by omega:(k:Int)<(l.length:Int)),cond_true,cutG_ok (by omega) (by omega) (by omega),cond_true,own_Sx _ (by omega),Option.bind_some]
   dsimp only
   rw[show IntKind.wrap .i64 ((k:Int)+1)=((k+1:Nat):Int) from by rw[wrap64 (by omega) (by omega)];omega,cutG_ok (by omega) (by omega) (by omega),cond_true,roomB_ok (by omega),cond_true,Option.bind_some]
   dsimp only
   rw[w1]
   exact⟨_,_,rfl,by rw[List.length_append];omega,hs.cut.app hs.cut,b5.up (by omega)⟩
  ·rw[decide_eq_false (by omega:¬(k:Int)<(l.length:Int)),cond_false,Option.bind_some]
   dsimp only
   rw[w1]
   exact⟨_,_,rfl,by omega,hs,b5.up (by omega)⟩
theorem other_loop {m:Nat}(hm9:9≤m)(hm:m≤100):∀(n:Nat) {K:Int} {c:Cur} {l:TX},CurOk K c→K+6*(n:Int)≤4611686018427370000→n≤10→l.length+n≤60→SmN m l→
 ∃(c':Cur) (l':TX),w_S_l1Cur_other_3 (c,l,(n:Int),())=some (c',l',())∧l'.length≤l.length+n∧SmN m l'∧CurOk (K+6*n) c'
 |0,K,c,l,h,hK,hn,hl,hs=>by
  refine⟨c,l,fix_end (B:=fun d=>b_S_l1Cur_other_3 d.1 d.2.1 d.2.2.1) ?_,by omega,hs,h.up (by omega)⟩
  show b_S_l1Cur_other_3 c l 0=_
  unfold b_S_l1Cur_other_3
  rw[decide_eq_false (by omega:¬((0:Int)>0)),cond_false]
 |n+1,K,c,l,h,hK,hn,hl,hs=>by
  obtain⟨c1,l1,q1,q2,q3,q4⟩:=other_step hm9 hm n (by omega) h (by omega) (by omega) hs
  obtain⟨c',l',p1,p2,p3,p4⟩:=other_loop hm9 hm n q4 (by omega) (by omega) (by omega) q3
  refine⟨c',l',?_,by omega,p3,p4.up (by omega)⟩
  rw[←p1]
  exact fix_go (B:=fun d=>b_S_l1Cur_other_3 d.1 d.2.1 d.2.2.1) q1
theorem other_ok {m:Nat}(hm9:9≤m)(hm:m≤50){K:Int}{c:Cur}{l:TX}(h:CurOk K c)(hK:K≤4611686018427300000)(hl:l.length≤50)(hs:SmN m l):
 ∃(l':TX) (c':Cur),f_S_l1Cur_other c l=some ((l',()),(c',()))∧l'.length≤l.length+3∧SmN (m+1) l'∧CurOk (K+30) c':=by
 obtain⟨r,c1,q1,q2,q3,_,q4⟩:=pick_ok (n:=4) h (by omega) (by omega)
 have q3:=q3 (by omega)
 obtain⟨n,rfl⟩:∃n:Nat,r=(n:Int):=⟨r.toNat,(Int.toNat_of_nonneg q2).symm⟩
 obtain⟨c2,l2,p1,p2,p3,p4⟩:=other_loop hm9 (by omega) n q4 (by omega) (by omega) (by omega) hs
 unfold f_S_l1Cur_other
 rw[own_Sx _ (by omega),Option.bind_some]
 dsimp only
 rw[q1,Option.bind_some]
 dsimp only
 rw[p1,Option.bind_some]
 dsimp only
 by_cases hl0:(l2.length:Int)>0
 ·obtain⟨o,c3,o1,o2⟩:=one_ok (n:=6) p4 (by omega) (by omega)
  rw[decide_eq_true hl0,cond_true,o1,Option.bind_some,Option.bind_some]
  dsimp only
  cases o
  ·rw[cond_false,Option.bind_some]
   exact⟨_,_,rfl,by show List.length l2≤_;omega,p3.up (by omega),o2.up (by omega)⟩
  ·have hi:l2.length -1<l2.length:=by omega
   have hw:IntKind.wrap .i64 ((l2.length:Int) -1)=((l2.length -1:Nat):Int):=by rw[wrap64 (by omega) (by omega)];omega
   obtain⟨h1,h2⟩:=p3 _ (List.getElem_mem hi)
   obtain⟨pl,pe,pll⟩:=plainN_S (s:=l2[l2.length -1]) h1 (by omega)
   rw[cond_true,hw,inB_lt hi,cond_true,toNat_cast,getD_of hi,pe,Option.bind_some]
   dsimp only
   rw[cond_true,ends_S _ h1 (by omega),Option.bind_some]
   dsimp only
   cases endP l2[l2.length -1]
   ·rw[Bool.not_false,cond_true,decide_eq_true (by rw[List.length_cons,List.length_nil];omega),cond_true,cond_true,Option.bind_some]
    exact⟨_,_,rfl,by show List.length (l2.set _ _)≤_;rw[List.length_set];omega,(p3.up (by omega)).set (by simp) (by rw[List.length_append,List.length_cons,List.length_nil];omega),o2.up (by omega)⟩
   ·rw[Bool.not_true,cond_false]
    cases hpe:(pl==([]:List UInt8))
    ·rw[Bool.not_false,cond_true,cond_true,Option.bind_some]
     have hne:pl.length≠0:=fun hz=>by
      have:pl=[]:=List.length_eq_zero_iff.1 hz
      rw[this] at hpe
      cases hpe
     exact⟨_,_,rfl,by show List.length (l2.set _ _)≤_;rw[List.length_set];omega,(p3.up (by omega)).set (by omega) (by omega),o2.up (by omega)⟩
    ·rw[Bool.not_true,cond_false,Option.bind_some]
     exact⟨_,_,rfl,by show List.length l2≤_;omega,p3.up (by omega),o2.up (by omega)⟩
 ·rw[decide_eq_false hl0,cond_false,Option.bind_some]
  dsimp only
  rw[cond_false,Option.bind_some]
  exact⟨_,_,rfl,by show List.length l2≤_;omega,p3.up (by omega),p4.up (by omega)⟩
end R
end

section
/- Drawn steps: what is made of drawn hunks is small. -/
open Go Go.Dn
namespace R
set_option linter.unusedVariables false
abbrev SR:=List (PV Y_impl_Step)
def OY (x:PV Y_impl_Step):Prop:=(List.length x.2.2.1≤500∧∀l∈(x.2.2.1:TX),l.length≤500)∧(List.length x.2.2.2.2.2.1≤500∧∀l∈(x.2.2.2.2.2.1:TX),l.length≤500)
def OZ (x:PV Y_impl_Step):Prop:=(List.length x.2.2.1≤501∧∀l∈(x.2.2.1:TX),l.length≤500)∧(List.length x.2.2.2.2.2.1≤501∧∀l∈(x.2.2.2.2.2.1:TX),l.length≤500)
theorem OY.oz {x:PV Y_impl_Step}(h:OY x):OZ x:=⟨⟨by have:=h.1.1;omega,h.1.2⟩,by have:=h.2.1;omega,h.2.2⟩
theorem OZ.ow {x:PV Y_impl_Step}(h:OZ x):V.OW x:=⟨⟨by have:=h.1.1;omega,fun l hl=>by have:=h.1.2 l hl;omega⟩,by have:=h.2.1;omega,fun l hl=>by have:=h.2.2 l hl;omega⟩
theorem steps_loop {l:TX}{h:HK}(hl:l.length≤100)(hsl:SmL l)(hs:SmHK h)(hlen:h.length≤6)(hg:hunksP (l.length:Int) h=true):∀(n i:Nat) (out:SR) (m:Int),i+n=h.length→out.length≤i→(∀x∈out,OY x)→
 ∃gs:SR,w_S_l5Steps_4 (l,out,m,h,(h.length:Int),(i:Int),())=some (gs,())∧gs.length≤h.length∧∀x∈gs,OY x
 |0,i,out,m,hi,ho,hb=>by
  refine⟨out,fix_end (B:=fun d=>b_S_l5Steps_4 d.1 d.2.1 d.2.2.1 d.2.2.2.1 d.2.2.2.2.1 d.2.2.2.2.2.1) ?_,by omega,hb⟩
  show b_S_l5Steps_4 l out m h h.length i=_
  unfold b_S_l5Steps_4
  rw[decide_eq_false (by omega:¬(i:Int)<(h.length:Int)),cond_false]
 |n+1,i,out,m,hi,ho,hb=>by
  have hlt:i<h.length:=by omega
  obtain⟨s1,s2⟩:=hs _ (List.getElem_mem hlt)
  obtain⟨_,f2,_,f4⟩:=hunk_facts hg
  have f5:=f4 i hlt
  rw[getD_of hlt] at f5
  obtain⟨g1,g2,g3,g4,_⟩:=f5
  have own:∀y:TX,y.length≤1000→f_S_l1OwnT y=some ((y,()),()):=fun y hy=>own_Sx y (by omega)
  have num:∀a b:Int,∃z:Int,f_S_l4Number a b=some ((z,()),()):=fun a b=>by
   unfold f_S_l4Number
   cases decide (b>0)
   ·exact⟨_,rfl⟩
   ·exact⟨_,rfl⟩
  have hc:(cutL h[i].1 ((h[i].1:Int)+h[i].2.1) l).length≤100:=Nat.le_trans cut_len hl
  have e:∀A G:Int,0≤A→0≤G→A+G≤(l.length:Int)→IntKind.wrap .i64 (A+G)=A+G:=fun A G p1 p2 p3=>wrap64 (by omega) (by omega)
  have step:∃(y:PV Y_impl_Step) (m':Int),b_S_l5Steps_4 l out m h (h.length:Int) (i:Int)=some (.inl (l,out++[y],m',h,(h.length:Int),((i+1:Nat):Int),()))∧OY y:=by
   unfold b_S_l5Steps_4
   rw[decide_eq_true (by omega:(i:Int)<(h.length:Int)),cond_true,inB_lt hlt,cond_true,toNat_cast,getD_of hlt]
   obtain⟨z1,e1⟩:=num h[i].1 h[i].2.1
   obtain⟨z2,e2⟩:=num (IntKind.wrap .i64 (h[i].1+m)) (List.length h[i].2.2.1:Int)
   rw[e1,Option.bind_some]
   dsimp only
   rw[e _ _ g1 g3 g4,cutB_ok g1 (Int.le_add_of_nonneg_right g3) g4,cond_true,own _ (by omega),Option.bind_some]
   dsimp only
   rw[e2,Option.bind_some]
   dsimp only
   rw[own _ (by omega),Option.bind_some]
   dsimp only
   rw[roomB_ok (by simp only[List.length_cons,List.length_nil];omega),cond_true,wrap64 (x:=(i:Int)+1) (by omega) (by omega)]
   exact⟨_,_,rfl,⟨by show(cutL h[i].1 ((h[i].1:Int)+h[i].2.1) l).length≤500;omega,fun s hs'=>by have:=hsl s (cut_mem hs');omega⟩,⟨by show List.length h[i].2.2.1≤500;omega,fun s hs'=>by have:=s2 s hs';omega⟩⟩
  obtain⟨y,m',e3,hy⟩:=step
  obtain⟨gs,q1,q2,q3⟩:=steps_loop hl hsl hs hlen hg n (i+1) (out++[y]) m' (by omega) (by simp;omega) (fun z hz=>by
   rcases List.mem_append.1 hz with hz|hz
   ·exact hb z hz
   ·obtain rfl:=List.mem_singleton.1 hz
    exact hy)
  exact⟨gs,Eq.trans (fix_go (B:=fun d=>b_S_l5Steps_4 d.1 d.2.1 d.2.2.1 d.2.2.2.1 d.2.2.2.2.1 d.2.2.2.2.2.1) (s:=(l,out,m,h,(h.length:Int),(i:Int),())) e3) q1,q2,q3⟩
theorem normal_ok {l:TX}{h:HK}(hl:l.length≤100)(hsl:SmL l)(hs:SmHK h)(hlen:h.length≤6):∃(gs:SR) (b:Bool),f_S_NormalSteps l h=some ((gs,b,()),())∧gs.length≤6∧∀x∈gs,OY x:=by
 unfold f_S_NormalSteps
 rw[patch_S (hsl.sm (by omega)) (hs.sm (by omega)),Option.bind_some]
 dsimp only
 cases hp:patchOk l h
 ·exact⟨[],false,rfl,Nat.zero_le _,fun x hx=>by cases hx⟩
 ·unfold patchOk at hp
  rw[Bool.and_eq_true,Bool.and_eq_true] at hp
  obtain⟨gs,q1,q2,q3⟩:=steps_loop hl hsl hs hlen hp.2.1 h.length 0 [] 0 (by omega) (Nat.le_refl _) (fun x hx=>by cases hx)
  rw[Bool.not_true,cond_false]
  unfold f_S_l5Steps
  rw[show w_S_l5Steps_4 (l,[],0,h,(h.length:Int),0,())=_ from q1]
  exact⟨gs,true,rfl,by omega,q3⟩
theorem set_oz {p:SR}{k:Nat}{y:PV Y_impl_Step}(h:∀x∈p,OZ x)(hy:OZ y):∀x∈p.set k y,OZ x:=fun x hx=>by
 rcases List.mem_or_eq_of_mem_set hx with hx|rfl
 ·exact h x hx
 ·exact hy
theorem get_oz {p:SR}{k:Nat}(h:∀x∈p,OZ x)(hk:k<p.length):OZ (p.getD k (dflt Y_impl_Step)):=by
 rw[getD_of hk]
 exact h _ (List.getElem_mem hk)
theorem steps_ok {K:Int}{c:Cur}(h:CurOk K c)(hK:K≤1000000):∃(l:TX) (p:SR) (c':Cur),f_S_l1Cur_steps c=some ((l,p,()),(c',()))∧p.length≤6∧(∀x∈p,OZ x)∧CurOk (K+6000) c':=by
 obtain⟨l,c1,e1,hl1,hl2,q1⟩:=text_ok h (by omega)
 obtain⟨hh,c2,e2,hh1,hh2,q2⟩:=hunks_ok (by omega) hl2 q1 (by omega)
 obtain⟨p,b,e3,hp1,hp2⟩:=normal_ok (by omega) hl2 hh2 hh1
 unfold f_S_l1Cur_steps
 rw[e1,Option.bind_some]
 dsimp only
 rw[e2,Option.bind_some]
 dsimp only
 rw[e3,Option.bind_some]
 dsimp only
 have key:∀(X:Option (PV Y_spec_l1Cur×PV S_string×PV S_impl_Step×Unit)) (c3:Cur) (p2:SR),X=some (c3,l,p2,())→p2.length≤6→(∀x∈p2,OZ x)→CurOk (K+30+5000+4) c3→
  ∃(l':TX) (p':SR) (c':Cur),(X.bind fun j15=>
     ((
       (f_S_l1Cur_one j15.1 4).bind fun r20=>
         bif r20.1.1 then
          (f_S_l1Cur_other r20.2.1 j15.2.1).bind fun r21=>
            some (r21.2.1,r21.1.1,j15.2.2.1,())
         else
          some (r20.2.1,j15.2.1,j15.2.2.1,()):Option ((PV Y_spec_l1Cur×PV S_string×PV S_impl_Step×Unit)))).bind fun j22=>
       some ((j22.2.1,j22.2.2.1,()),(j22.1,())))=(some ((l',p',()),(c',())):Option (PVs [S_string,S_impl_Step]×PVs [Y_spec_l1Cur]))∧p'.length≤6∧(∀x∈p',OZ x)∧CurOk (K+6000) c':=by
  intro X c3 p2 hX g1 g2 g3
  rw[hX,Option.bind_some]
  dsimp only
  obtain⟨r,c4,e4,q4⟩:=one_ok (n:=4) g3 (by omega) (by omega)
  rw[e4,Option.bind_some]
  dsimp only
  cases r
  ·exact⟨l,p2,c4,rfl,g1,g2,q4.up (by omega)⟩
  ·obtain⟨l',c5,e5,_,_,q5⟩:=other_ok (m:=9) (by omega) (by omega) q4 (by omega) (by omega) (l:=l) (fun s hs=>hl2 s hs)
   rw[cond_true,e5]
   exact⟨l',p2,c5,rfl,g1,g2,q5.up (by omega)⟩
 have hpz:∀x∈p,OZ x:=fun x hx=>(hp2 x hx).oz
 by_cases h0:p.length=0
 ·refine key _ c2 p ?_ hp1 hpz (q2.up (by omega))
  rw[decide_eq_false (by omega:¬(p.length:Int)>0),cond_false]
 ·obtain⟨r,c3,e4,a1,a2,_,q3⟩:=pick_ok (n:=(p.length:Int)) q2 (by omega) (by omega)
  have a2:=a2 (by omega)
  obtain⟨k,rfl⟩:∃k:Nat,r=(k:Int):=⟨r.toNat,(Int.toNat_of_nonneg a1).symm⟩
  have hk:k<p.length:=by omega
  obtain⟨w,c4,e5,_,_,_,q5⟩:=pick_ok (n:=15) q3 (by omega) (by omega)
  have hz:=get_oz hpz hk
  have q6:CurOk (K+30+5000+4) c4:=q5.up (by omega)
  have hset:∀y,(p.set k y).length≤6:=fun y=>by rw[List.length_set];exact hp1
  rw[decide_eq_true (by omega:(p.length:Int)>0),cond_true,e4,Option.bind_some]
  dsimp only
  rw[e5,Option.bind_some]
  dsimp only
  simp only[inB_lt hk,cond_true,toNat_cast,List.length_set]
  cases w==0
  ·rw[cond_false]
   cases w==1
   ·rw[cond_false]
    cases w==2
    ·rw[cond_false]
     cases w==3
     ·rw[cond_false]
      cases w==4
      ·rw[cond_false]
       exact key _ _ _ rfl hp1 hpz q6
      ·rw[cond_true]
       exact key _ _ _ rfl (hset _) (set_oz hpz ⟨hz.1,by show 1≤501;omega,fun s hs=>by obtain rfl:=List.mem_singleton.1 hs;decide⟩) q6
     ·rw[cond_true]
      have hy:∀a:Int,OZ (a,(p.getD k (dflt Y_impl_Step)).2):=fun a=>hz
      have hz2:=get_oz (set_oz (k:=k) hpz (hy (IntKind.wrap .i64 (((p.getD k (dflt Y_impl_Step)).1)+30)))) (k:=k) (by rw[List.length_set];exact hk)
      exact key _ _ _ rfl (by rw[List.length_set];exact hset _) (set_oz (set_oz hpz (hy _)) hz2) q6
    ·rw[cond_true,roomB_ok (by have:=hz.1.1;simp only[List.length_cons,List.length_nil];omega),cond_true,decide_eq_true (by omega:(0:Int)≤(k:Int)),beq_self_eq_true,Bool.and_self,cond_true,cond_true,cond_true]
     have hz1:=(get_oz (k:=k) (p:=p) hpz hk)
     have hyy:List.length (p.getD k (dflt Y_impl_Step)).2.2.1≤500:=by rw[getD_of hk];exact(hp2 _ (List.getElem_mem hk)).1.1
     exact key _ _ _ rfl (hset _) (set_oz hpz ⟨⟨by show List.length (_++[_])≤501;rw[List.length_append];simp only[List.length_cons,List.length_nil];omega,fun s hs=>by
      rcases List.mem_append.1 hs with hs|hs
      ·exact hz1.1.2 s hs
      ·obtain rfl:=List.mem_singleton.1 hs;decide⟩,hz1.2⟩) q6
   ·rw[cond_true]
    exact key _ _ _ rfl (hset _) (set_oz hpz hz) q6
  ·rw[cond_true]
   exact key _ _ _ rfl (hset _) (set_oz hpz hz) q6
end R
end

section
/- Steps: the law: they are read back from their text, and nothing else is. -/
open Go Go.Dn
namespace R
set_option linter.unusedVariables false
theorem sameTexts_self (l:TX)(hl:l.length≤100000):f_L_sameTexts l l=some ((true,()),()):=by
 have hF:=fix_all (B:=fun d=>b_L_sameTexts_4 d.1 d.2.1 d.2.2.1 d.2.2.2.1) (fun i=>(l,l,(l.length:Int),(i:Int),())) l.length (r:=(.inl ()))
  (fun i hi=>by
    show b_L_sameTexts_4 l l l.length i=_
    unfold b_L_sameTexts_4
    rw[decide_eq_true (by omega:(i:Int)<(l.length:Int)),cond_true,inB_lt hi,cond_true,cond_true,beq_self_eq_true,Bool.not_true,cond_false,wrap64 (x:=(i:Int)+1) (by omega) (by omega)]
    rfl)
  (by
    show b_L_sameTexts_4 l l l.length l.length=_
    unfold b_L_sameTexts_4
    rw[decide_eq_false (Int.lt_irrefl _),cond_false])
 unfold f_L_sameTexts
 rw[beq_self_eq_true,Bool.not_true,cond_false,show w_L_sameTexts_4 (l,l,(l.length:Int),0,())=_ from hF,Option.bind_some]
theorem sameSteps_self (o:SR)(ho:o.length≤100000)(hx:∀x∈o,V.OW x):f_L_sameSteps o o=some ((true,()),()):=by
 have hF:=fix_all (B:=fun d=>b_L_sameSteps_4 d.1 d.2.1 d.2.2.1 d.2.2.2.1) (fun i=>(o,o,(o.length:Int),(i:Int),())) o.length (r:=(.inl ()))
  (fun i hi=>by
    obtain⟨⟨h1,_⟩,h2,_⟩:=hx _ (List.getElem_mem hi)
    show b_L_sameSteps_4 o o o.length i=_
    unfold b_L_sameSteps_4
    simp only[decide_eq_true (by omega:(i:Int)<(o.length:Int)),cond_true,inB_lt hi,toNat_cast,getD_of hi,beq_self_eq_true,Bool.not_true,cond_false,sameTexts_self _ (Nat.le_trans h1 (by omega:3000≤100000)),sameTexts_self _ (Nat.le_trans h2 (by omega:3000≤100000)),Option.bind_some,wrap64 (x:=(i:Int)+1) (by omega) (by omega)]
    rfl)
  (by
    show b_L_sameSteps_4 o o o.length o.length=_
    unfold b_L_sameSteps_4
    rw[decide_eq_false (Int.lt_irrefl _),cond_false])
 unfold f_L_sameSteps
 rw[beq_self_eq_true,Bool.not_true,cond_false,show w_L_sameSteps_4 (o,o,(o.length:Int),0,())=_ from hF,Option.bind_some]
theorem drawSteps_ok {t:PV S_uint8}(hw:WfV S_uint8 t):∃o:SR,f_S_DrawStepsText t=some ((o,()),())∧o.length≤6∧∀x∈o,OZ x:=by
 obtain⟨l,o,c',e,h1,h2,_⟩:=steps_ok (start_ok hw) (by omega)
 unfold f_S_DrawStepsText f_S_DrawGoodSteps
 rw[e]
 exact⟨o,rfl,h1,h2⟩
theorem sR_len (o:SR):(V.sR o).length≤3000:=by
 unfold V.sR
 split
 ·rename_i h
  unfold V.sOk at h
  rw[Bool.and_eq_true,decide_eq_true_eq] at h
  exact h.2
 ·exact Nat.zero_le _
theorem of_ok {K:Int}{c:Cur}(q:CurOk K c)(hK:K≤1000000)(L:TX)(h1:1≤L.length)(h2:L.length≤1000):
 ∃s:List UInt8,(((f_S_l1Cur_pick c (L.length:Int)).bind fun r12=>bif inB r12.1.1 L.length then some (L.getD r12.1.1.toNat [],()) else none:Option (PV .str×Unit)).bind fun j13=>some ((j13.1,()),()):Option (PVs [.str]×PVs []))=some ((s,()),()):=by
 obtain⟨r3,c3,p3,a3,b3,_,q3⟩:=pick_ok (n:=(L.length:Int)) q (by omega) (by omega)
 have b3:=b3 (by omega)
 obtain⟨i,rfl⟩:∃i:Nat,r3=(i:Int):=⟨r3.toNat,(Int.toNat_of_nonneg a3).symm⟩
 rw[p3,Option.bind_some]
 dsimp only
 rw[inB_lt (by omega),cond_true]
 exact⟨_,rfl⟩
theorem drawRead_ok {t:PV S_uint8}(hw:WfV S_uint8 t):∃s:List UInt8,f_S_DrawReadNormal t=some ((s,()),()):=by
 obtain⟨l,o,c1,e,h1,h2,q1⟩:=steps_ok (start_ok hw) (by omega)
 obtain⟨r,c2,p2,a2,b2,_,q2⟩:=pick_ok (n:=4) q1 (by omega) (by omega)
 have:=sR_len o
 unfold f_S_DrawReadNormal
 rw[e,Option.bind_some]
 dsimp only
 rw[V.text_ST (V.OW.tot (by omega) fun x hx=>(h2 x hx).ow),Option.bind_some]
 dsimp only
 rw[p2,Option.bind_some]
 dsimp only
 cases h0:(r==0)
 ·rw[cond_false]
  cases h3:(r==1)
  ·exact⟨_,rfl⟩
  ·rw[cond_true]
   exact of_ok q2 (by omega) [[],[49,97,50,10,62,32,120,10],[49,97,50,10,62,32,120],[49,97,50,10,62,32,120,10,92,32,110,111,110,101,10],[49,100,48,10,60,32,10,92,32,110,111,110,101,10],[49,99,49,10,60,32,97,10,62,32,98,10],[49,99,49,10,60,32,97,10,45,45,45,10,62,32,98,10],[48,97,49,44,50,10,62,32,120,10,62,32,121,10],[48,49,97,50,10,62,32,120,10]] (by decide) (by decide)
 ·obtain⟨s',c3,e3⟩:=spoilt_ok (ws:=[97,99,100,60,62,45,44,49,10,32]) (by decide) (by decide) (V.sR o) q2 (by omega) (by omega)
  rw[cond_true,e3]
  exact⟨_,rfl⟩
theorem tail_ok (s:List UInt8):(f_I_ReadNormal s).bind (fun r32=>
 (f_S_ReadNormal s).bind fun r34=>
   ((
     bif (!(r32.1.2.2.1==r34.1.2.2.1)) then
      some (s,r32.1.1,r32.1.2.1,r32.1.2.2.1,true,())
     else
      bif (!(r32.1.2.1==r34.1.2.1)) then
       some (s,r32.1.1,r32.1.2.1,r32.1.2.2.1,true,())
      else
       (f_L_sameSteps r32.1.1 r34.1.1).bind fun r38=>
         some (s,r32.1.1,r32.1.2.1,r32.1.2.2.1,(!r38.1.1),()):Option ((PV .str×PV S_impl_Step×PV (.int .i64)×PV .bool×PV .bool×Unit)))).bind fun j39=>
     bif j39.2.2.2.2.1 then
      some ((false,()),())
     else
      bif j39.2.2.2.1 then
       (f_I_StepsText j39.2.1).bind fun r43=>
         bif r43.1.2.1 then
          some (((r43.1.1==j39.1),()),())
         else
          some ((false,()),())
      else
       some (((j39.2.2.1==1),()),()))=(some ((true,()),()):Option (PVs [.bool]×PVs [])):=by
 obtain⟨gs,c,q,e1,e2,h⟩:=V.steps_both s
 rw[e1,Option.bind_some,e2,Option.bind_some]
 dsimp only
 simp only[beq_self_eq_true,Bool.not_true,cond_false]
 rcases h with⟨h1,h2,h3,rfl,rfl⟩|⟨rfl,rfl,rfl⟩
 ·obtain⟨g1,g2⟩:=V.good_tot h1
  rw[sameSteps_self gs (by omega) g2,Option.bind_some]
  dsimp only
  rw[Option.bind_some]
  dsimp only
  rw[Bool.not_true,cond_false,cond_true,V.text_I (V.OW.tot (by omega) g2),Option.bind_some]
  dsimp only
  have hk:V.sOk gs=true:=by unfold V.sOk;rw[h1,h2,decide_eq_true h3];rfl
  rw[hk,cond_true]
  unfold V.sR
  rw[if_pos hk,h2,beq_self_eq_true]
 ·rw[sameSteps_self [] (by simp) (fun x hx=>by cases hx),Option.bind_some]
  rfl
theorem law_Steps (t0 t1:PV S_uint8)(hw:WfV S_uint8 t0)(hw1:WfV S_uint8 t1):f_L_FnSteps t0 t1=some ((true,()),()):=by
 obtain⟨b,eb⟩:=big_L (t0:=t0) (t1:=t1)
 obtain⟨o,eo,h1,h2⟩:=drawSteps_ok hw
 obtain⟨s,es⟩:=drawRead_ok hw1
 have how:∀x∈o,V.OW x:=fun x hx=>(h2 x hx).ow
 have htot:=V.OW.tot (by omega) how
 unfold f_L_FnSteps
 rw[eb,Option.bind_some]
 dsimp only
 cases b
 case true=>rfl
 rw[cond_false,eo,Option.bind_some]
 dsimp only
 rw[V.text_I htot,Option.bind_some]
 dsimp only
 rw[V.text_ST htot,Option.bind_some]
 dsimp only
 unfold f_I_GoodSteps
 simp only[beq_self_eq_true,Bool.not_true,cond_false,V.steps_I o htot,V.steps_S o htot,Option.bind_some]
 cases hk:V.sOk o
 ·rw[cond_false,Option.bind_some]
  dsimp only
  rw[es,Option.bind_some]
  exact tail_ok s
 ·have hR:V.sR o=V.textP o:=by unfold V.sR;rw[if_pos hk]
  rw[cond_true,hR,V.back_I hk,Option.bind_some]
  dsimp only
  simp only[beq_self_eq_true,Bool.not_true,cond_false,sameSteps_self o (by omega) how,Option.bind_some]
  rw[es,Option.bind_some]
  exact tail_ok s
end R
end
