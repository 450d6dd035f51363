/- Parts of the proof: Ya9 Yb1 Yb2 Yb3 Yb4 Xe1. -/
import Derived.Test.YtljgmcbpjakecaaGreatDoorQXg31
section
/- Rows, as both sides read them. -/
open Go Go.Dn
namespace R.U
set_option linter.unusedVariables false
def kindQ (b:UInt8):Int:=if b=32 then 1 else if b=45 then 2 else if b=43 then 3 else 0
def mN (b:UInt8):Int:=if kindQ b=3 then 0 else 1
def kN (b:UInt8):Int:=if kindQ b=2 then 0 else 1
def rowsQ:Nat→TX→Int→Int→Option (RW×TX)
 |0,ls,m,k=>if m=0∧k=0 then some ([],ls) else none
 |f+1,ls,m,k=>if m=0∧k=0 then some ([],ls) else if m<0∨k<0 then none else match ls with
  |[]=>none
  |[]::_=>none
  |(c::t)::rest=>if kindQ c=0 then none else(rowsQ f (restQ rest) (m -mN c) (k -kN c)).map fun p=>(mkRow (kindQ c) (lineQ t rest)::p.1,p.2)
theorem rowsQ_zero (f:Nat)(ls:TX):rowsQ f ls 0 0=some ([],ls):=by
 cases f<;>simp[rowsQ]
theorem rowsQ_neg {f:Nat}{ls:TX}{m k:Int}(h:m<0∨k<0):rowsQ f ls m k=none:=by
 have h0:¬(m=0∧k=0):=by omega
 cases f with
 |zero=>unfold rowsQ;rw[if_neg h0]
 |succ f=>unfold rowsQ;rw[if_neg h0,if_pos h]
theorem rowsQ_nil {f:Nat}{m k:Int}(h:¬(m=0∧k=0)):rowsQ f [] m k=none:=by
 cases f with
 |zero=>unfold rowsQ;rw[if_neg h]
 |succ f=>
  unfold rowsQ
  rw[if_neg h]
  split<;>rfl
theorem rowsQ_step {f:Nat}{c:UInt8}{t:List UInt8}{rest:TX}{m k:Int}(h:¬(m=0∧k=0))(h2:¬(m<0∨k<0)):
 rowsQ (f+1) ((c::t)::rest) m k=if kindQ c=0 then none else(rowsQ f (restQ rest) (m -mN c) (k -kN c)).map fun p=>(mkRow (kindQ c) (lineQ t rest)::p.1,p.2):=by
 conv=>lhs;unfold rowsQ
 rw[if_neg h,if_neg h2]
theorem kindQ_cases (c:UInt8):(kindQ c=0)∨(c=32∧kindQ c=1)∨(c=45∧kindQ c=2)∨(c=43∧kindQ c=3):=by
 unfold kindQ
 by_cases h1:c=32
 ·exact .inr (.inl ⟨h1,by rw[if_pos h1]⟩)
 by_cases h2:c=45
 ·exact .inr (.inr (.inl ⟨h2,by rw[if_neg h1,if_pos h2]⟩))
 by_cases h3:c=43
 ·exact .inr (.inr (.inr ⟨h3,by rw[if_neg h1,if_neg h2,if_pos h3]⟩))
 ·exact .inl (by rw[if_neg h1,if_neg h2,if_neg h3])
theorem kind_sg {c:UInt8}(h:kindQ c≠0):(kindQ c=1∨kindQ c=2∨kindQ c=3)∧signT (kindQ c)=[c]∧c≠10:=by
 rcases kindQ_cases c with h0|⟨rfl,h1⟩|⟨rfl,h1⟩|⟨rfl,h1⟩
 ·exact absurd h0 h
 ·exact⟨.inl h1,by rw[h1];decide,by decide⟩
 ·exact⟨.inr (.inl h1),by rw[h1];decide,by decide⟩
 ·exact⟨.inr (.inr h1),by rw[h1];decide,by decide⟩
theorem mN_bd (c:UInt8):0≤mN c∧mN c≤1∧0≤kN c∧kN c≤1:=by
 unfold mN kN
 refine⟨?_,?_,?_,?_⟩<;>split<;>omega
def RowW (r:PV Y_impl_Row):Prop:=(r.1=1∨r.1=2∨r.1=3)∧List.length r.2.1≤3000
theorem shown_W (sg s:List UInt8)(h0:sg.length≤10)(h2:s.length≤3000):f_I_shown sg s=some ((shownT sg s,()),()):=by
 unfold f_I_shown shownT none10
 rw[ends_I s (by omega),Option.bind_some]
 dsimp only
 rw[decide_eq_true (by omega),cond_true,cond_true,decide_eq_true (by simp only[List.length_append,List.length_cons,List.length_nil];omega),cond_true,decide_eq_true (by simp only[List.length_append,List.length_cons,List.length_nil];omega),cond_true]
 cases endP s
 ·rw[cond_false,cond_false,List.append_assoc (sg++s)];rfl
 ·rfl
theorem rowW_len {r:PV Y_impl_Row}(h:RowW r):(rowT r).length≤3009:=by
 have h1:=shownT_len (signT r.1) r.2.1
 have h2:=(sign_ok h.1).2
 have h3:=h.2
 unfold rowT
 omega
theorem rowsW_len {rows:RW}(hl:rows.length≤3000)(hr:∀r∈rows,RowW r):(rowsT rows).length≤9027000:=by
 have:=flat_len rowT 3009 rows fun r h=>rowW_len (hr r h)
 unfold rowsT
 omega
theorem rowsText_W {rows:RW}(hl:rows.length≤3000)(hr:∀r∈rows,RowW r):f_I_rowsText rows=some ((rowsT rows,()),()):=by
 have hf:=fix_fold (B:=fun d=>b_I_rowsText_3 d.1 d.2.1 d.2.2.1 d.2.2.2.1) rows (fun a r=>a++rowT r) (fun a i=>(a,rows,(rows.length:Int),(i:Int),())) (fun a=>(a,())) (fun i a=>a.length≤3009*i)
  (fun i hi a hI=>by
    have hx:=hr _ (List.getElem_mem hi)
    have ht:=rowW_len hx
    refine⟨by rw[List.length_append];omega,?_⟩
    show b_I_rowsText_3 a rows rows.length i=_
    unfold b_I_rowsText_3
    rw[decide_eq_true (by omega:(i:Int)<(rows.length:Int)),cond_true,inB_lt hi,cond_true,toNat_cast,getD_of hi,sign_I hx.1,Option.bind_some,shown_W _ _ (by show(signT rows[i].1).length≤_;have:=(sign_ok hx.1).2;omega) (by have:=hx.2;omega),Option.bind_some]
    dsimp only
    rw[show shownT (signT rows[i].1) rows[i].2.1=rowT rows[i] from rfl,decide_eq_true (by omega),cond_true,wrap64 (by omega) (by omega)]
    rfl)
  (fun a _=>by
    show b_I_rowsText_3 a rows rows.length rows.length=_
    unfold b_I_rowsText_3
    rw[decide_eq_false (Int.lt_irrefl _),cond_false]) [] (Nat.zero_le _)
 unfold f_I_rowsText
 rw[show w_I_rowsText_3 ([],rows,(rows.length:Int),0,())=_ from hf.1,Option.bind_some,foldl_app]
 rfl
theorem sign_index (c:UInt8):∃v:Int,f_strings_IndexByte [63,32,45,43] ((c.toNat:Nat):Int)=some ((v,()),())∧((v<1∧kindQ c=0)∨(1≤v∧v=kindQ c∧kindQ c≠0)):=by
 refine⟨Lib.indexByte [63,32,45,43] c,?_,?_⟩
 ·unfold f_strings_IndexByte f_internal_stringslite_IndexByte indexByteF
  rw[toNat_cast,show c.toNat.toUInt8=c from UInt8.ofNat_toNat,Option.bind_some]
 ·rcases kindQ_cases c with h0|⟨rfl,h1⟩|⟨rfl,h1⟩|⟨rfl,h1⟩
  ·refine .inl ⟨?_,h0⟩
   unfold kindQ at h0
   have n1:c≠32:=fun e=>by rw[if_pos e] at h0;cases h0
   have n2:c≠45:=fun e=>by rw[if_neg n1,if_pos e] at h0;cases h0
   have n3:c≠43:=fun e=>by rw[if_neg n1,if_neg n2,if_pos e] at h0;cases h0
   by_cases n0:c=63
   ·subst n0;decide
   ·rw[indexByte_not c (by simp[n0,n1,n2,n3])];decide
  ·exact .inr (by decide)
  ·exact .inr (by decide)
  ·exact .inr (by decide)
theorem kind_ne3 (c:UInt8):(if (kindQ c==3)=true then(0:Int) else 1)=mN c:=by
 unfold mN
 by_cases h:kindQ c=3
 ·rw[if_pos h,if_pos (by rw[h];rfl)]
 ·rw[if_neg h,if_neg (by simpa using h)]
theorem kind_ne2 (c:UInt8):(if (kindQ c==2)=true then(0:Int) else 1)=kN c:=by
 unfold kN
 by_cases h:kindQ c=2
 ·rw[if_pos h,if_pos (by rw[h];rfl)]
 ·rw[if_neg h,if_neg (by simpa using h)]
theorem head_nn (rest:TX):(bif decide ((rest.length:Int)>0) then(bif inB 0 rest.length then some (rest.getD ((0:Int).toNat) []==noneL) else none) else some false:Option Bool)=some (rest.head?==some noneL):=by
 cases rest with
 |nil=>rfl
 |cons n r=>
  rw[decide_eq_true (by simp:(((n::r).length:Nat):Int)>0),cond_true,show inB 0 (n::r).length=true from inB_lt (i:=0) (by simp),cond_true]
  rfl
theorem step_IR {c:UInt8}{t:List UInt8}{rest:TX}{t2:PV Y_impl_Group}{o f:List UInt8}{a b:Int}{acc:RW}{m k:Int}
 (hmk:m>0∨k>0)(ht:t.length≤3000)(hr:rest.length≤3000)(hacc:acc.length≤6000)(hm: -100000≤m∧m≤100000)(hk: -100000≤k∧k≤100000):
 b_I_takeGroup_10 ((c::t)::rest) t2 o f (a,(b,(acc,()))) m k=if kindQ c=0 then some (.inr (.inr (GZ,[],[],false,()))) else
  some (.inl (restQ rest,t2,o,f,(a,(b,(acc++[mkRow (kindQ c) (lineQ t rest)],()))),m -mN c,k -kN c,())):=by
 obtain⟨v,hv,hvc⟩:=sign_index c
 have hg:(bif (decide (m>0)) then some (.inr ((((c::t)::rest:TX)),t2,o,f,(a,(b,(acc,()))),m,k,())) else bif (decide (k>0)) then some (.inr (((c::t)::rest:TX),t2,o,f,(a,(b,(acc,()))),m,k,())) else some (.inl (((c::t)::rest:TX),t2,o,f,(a,(b,(acc,()))),m,k,())):Option ((PV S_string×PV Y_impl_Group×PV .str×PV .str×PV Y_impl_Group×PV (.int .i64)×PV (.int .i64)×Unit)⊕(PV S_string×PV Y_impl_Group×PV .str×PV .str×PV Y_impl_Group×PV (.int .i64)×PV (.int .i64)×Unit)))=some (.inr (((c::t)::rest:TX),t2,o,f,(a,(b,(acc,()))),m,k,())):=by
  by_cases h:m>0
  ·rw[decide_eq_true h,cond_true]
  ·rw[decide_eq_false h,cond_false,decide_eq_true (by omega:k>0),cond_true]
 unfold b_I_takeGroup_10
 rw[hg,Option.bind_some]
 dsimp only
 rw[show((((c::t)::rest:TX).length:Int)==0)=false from beq_eq_false_iff_ne.2 (by simp;omega),cond_false,show inB 0 ((c::t)::rest:TX).length=true from inB_lt (i:=0) (by simp),cond_true,
  show((c::t)::rest:TX).getD ((0:Int).toNat) []=c::t from rfl,show inB 0 (c::t).length=true from inB_lt (i:=0) (by simp),cond_true,show(c::t).getD (0:Int).toNat 0=c from rfl,hv,Option.bind_some,cond_true,drop_ok,cond_true,drop_ok,cond_true,drop_one,drop_one]
 dsimp only
 rcases hvc with⟨h1,h0⟩|⟨h1,e,h0⟩
 ·rw[decide_eq_true h1,cond_true,if_pos h0]
 ·subst e
  rw[decide_eq_false (by omega:¬kindQ c<1),cond_false,if_neg h0]
  have hb:∀{X:Type} (F:Bool→Option X),((bif decide ((rest.length:Int)>0) then(bif inB 0 rest.length then F (rest.getD ((0:Int).toNat) []==noneL) else none) else F false):Option X)=F (rest.head?==some noneL):=by
   intro X F
   have:=head_nn rest
   cases h1:decide ((rest.length:Int)>0)
   ·rw[h1] at this
    simp only[cond_false] at this ⊢
    rw[Option.some.inj this]
   ·rw[h1] at this
    simp only[cond_true] at this ⊢
    cases h2:inB 0 rest.length
    ·rw[h2] at this;cases this
    ·rw[h2] at this
     simp only[cond_true] at this ⊢
     rw[Option.some.inj this]
  have hF:=hb (fun q=>(some (rest,t2,o,f,(a,(b,(acc,()))),m,k,(kindQ c,(t,())),q,()):Option ((PV S_string×PV Y_impl_Group×PV .str×PV .str×PV Y_impl_Group×PV (.int .i64)×PV (.int .i64)×PV Y_impl_Row×PV .bool×Unit))))
  rw[hF,Option.bind_some]
  dsimp only
  have hw:(bif (rest.head?==some noneL) then
   (f_I_plain t).bind fun r18=>
     bif cutB 1 (rest.length:Int) rest.length then
      some ((cutL 1 (rest.length:Int) rest),t2,o,f,(a,(b,(acc,()))),m,k,(kindQ c,(r18.1.1,())),())
     else none
   else some (rest,t2,o,f,(a,(b,(acc,()))),m,k,(kindQ c,(t,())),()):Option ((PV S_string×PV Y_impl_Group×PV .str×PV .str×PV Y_impl_Group×PV (.int .i64)×PV (.int .i64)×PV Y_impl_Row×Unit)))=some (restQ rest,t2,o,f,(a,(b,(acc,()))),m,k,mkRow (kindQ c) (lineQ t rest),()):=by
   unfold restQ lineQ
   by_cases hh:rest.head?=some noneL
   ·rw[show(rest.head?==some noneL)=true from beq_iff_eq.2 hh,cond_true,plain_I t (by omega),Option.bind_some,if_pos hh,if_pos hh]
    cases rest with
    |nil=>cases hh
    |cons n r=>rw[drop_ok,drop_one,cond_true];rfl
   ·rw[show(rest.head?==some noneL)=false from beq_eq_false_iff_ne.2 hh,cond_false,if_neg hh,if_neg hh]
  rw[hw,Option.bind_some]
  dsimp only
  have hroom:roomB (acc.length+[mkRow (kindQ c) (lineQ t rest)].length)=true:=roomB_ok (by simp;omega)
  rw[←kind_ne3,←kind_ne2]
  cases q3:(kindQ c==3)<;>cases q2:(kindQ c==2)
  ·rw[Bool.not_false,cond_true,Option.bind_some]
   dsimp only
   rw[q2,Bool.not_false,cond_true,Option.bind_some]
   dsimp only
   rw[hroom,cond_true,wrap64 (by omega) (by omega),wrap64 (by omega) (by omega)]
   rfl
  ·rw[Bool.not_false,cond_true,Option.bind_some]
   dsimp only
   rw[q2,Bool.not_true,cond_false,Option.bind_some]
   dsimp only
   rw[hroom,cond_true,wrap64 (by omega) (by omega)]
   simp
  ·rw[Bool.not_true,cond_false,Option.bind_some]
   dsimp only
   rw[q2,Bool.not_false,cond_true,Option.bind_some]
   dsimp only
   rw[hroom,cond_true,wrap64 (by omega) (by omega)]
   simp
  ·rw[beq_iff_eq] at q3 q2
   omega
theorem exit_IR {ls:TX}{t2:PV Y_impl_Group}{o f:List UInt8}{g:PV Y_impl_Group}{m k:Int}(hm:¬m>0)(hk:¬k>0):
 b_I_takeGroup_10 ls t2 o f g m k=some (.inr (.inl (ls,t2,o,f,g,m,k,()))):=by
 unfold b_I_takeGroup_10
 rw[decide_eq_false hm,cond_false,decide_eq_false hk,cond_false,Option.bind_some]
theorem exit_W {ls:TX}{t2:PV Y_impl_Group}{o f:List UInt8}{g:PV Y_impl_Group}{m k:Int}(hm:¬m>0)(hk:¬k>0):w_I_takeGroup_10 (ls,t2,o,f,g,m,k,())=some (.inl (ls,t2,o,f,g,m,k,())):=fix_end (exit_IR hm hk)
theorem none_IR {t2:PV Y_impl_Group}{o f:List UInt8}{g:PV Y_impl_Group}{m k:Int}(hmk:m>0∨k>0):
 b_I_takeGroup_10 [] t2 o f g m k=some (.inr (.inr (GZ,[],[],false,()))):=by
 unfold b_I_takeGroup_10
 by_cases h:m>0
 ·rw[decide_eq_true h,cond_true,Option.bind_some];rfl
 ·rw[decide_eq_false h,cond_false,decide_eq_true (by omega:k>0),cond_true,Option.bind_some];rfl
def Rw (acc:RW)(n:Nat):Prop:=(∀r∈acc,RowW r)∧acc.length≤n
theorem rows_I':∀(fu:Nat) (ls:TX) (t2:PV Y_impl_Group) (o f:List UInt8) (a b:Int) (acc:RW) (m k:Int),ls.length≤fu→(∀l∈ls,l≠[]∧l.length≤3000)→Rw acc (3000 -ls.length)→ls.length≤3000→(-50000+(ls.length:Int)≤m∧m≤100000)→(-50000+(ls.length:Int)≤k∧k≤100000)→
 (∀rs r,rowsQ fu ls m k=some (rs,r)→Rw (acc++rs) 3000∧(∃u,ls=u++r)∧w_I_takeGroup_10 (ls,t2,o,f,(a,(b,(acc,()))),m,k,())=some (.inl (r,t2,o,f,(a,(b,(acc++rs,()))),0,0,())))∧
 (rowsQ fu ls m k=none→w_I_takeGroup_10 (ls,t2,o,f,(a,(b,(acc,()))),m,k,())=some (.inr (GZ,[],[],false,()))∨∃(r:TX) (acc':RW) (m' k':Int),Rw acc' 3000∧(m'≠0∨k'≠0)∧w_I_takeGroup_10 (ls,t2,o,f,(a,(b,(acc,()))),m,k,())=some (.inl (r,t2,o,f,(a,(b,(acc',()))),m',k',()))):=by
 intro fu
 induction fu with
 |zero=>
  intro ls t2 o f a b acc m k hl hn hacc h3 hm hk
  obtain rfl:=List.eq_nil_of_length_eq_zero (Nat.le_zero.1 hl)
  by_cases h0:m=0∧k=0
  ·obtain⟨rfl,rfl⟩:=h0
   rw[rowsQ_zero]
   refine⟨fun rs r h=> ?_,fun h=>by cases h⟩
   obtain⟨rfl,rfl⟩:=Prod.mk.inj (Option.some.inj h)
   rw[List.append_nil]
   exact⟨⟨hacc.1,by have:=hacc.2;simp at this;omega⟩,⟨[],rfl⟩,exit_W (by omega) (by omega)⟩
  ·rw[rowsQ_nil h0]
   refine⟨fun rs r h=>(by cases h),fun _=> ?_⟩
   by_cases hp:m>0∨k>0
   ·exact .inl (fix_end (none_IR hp))
   ·exact .inr ⟨[],acc,m,k,⟨hacc.1,by have:=hacc.2;simp at this;omega⟩,by omega,exit_W (by omega) (by omega)⟩
 |succ fu ih=>
  intro ls t2 o f a b acc m k hl hn hacc h3 hm hk
  have hacc3:Rw acc 3000:=⟨hacc.1,by have:=hacc.2;omega⟩
  by_cases h0:m=0∧k=0
  ·obtain⟨rfl,rfl⟩:=h0
   rw[rowsQ_zero]
   refine⟨fun rs r h=> ?_,fun h=>by cases h⟩
   obtain⟨rfl,rfl⟩:=Prod.mk.inj (Option.some.inj h)
   rw[List.append_nil]
   exact⟨hacc3,⟨[],rfl⟩,exit_W (by omega) (by omega)⟩
  ·by_cases hp:m>0∨k>0
   ·match ls,hl,hn,hacc,h3,hm,hk with
    |[],_,_,_,_,_,_=>
     rw[rowsQ_nil h0]
     exact⟨fun rs r h=>(by cases h),fun _=>.inl (fix_end (none_IR hp))⟩
    |[]::_,_,hn,_,_,_,_=>exact absurd rfl (hn [] (List.mem_cons_self ..)).1
    |(c::t)::rest,hl,hn,hacc,h3,hm,hk=>
     have ht:t.length≤3000:=by have:=(hn _ (List.mem_cons_self ..)).2;simp at this;omega
     have hlen:(((c::t)::rest:TX)).length=rest.length+1:=rfl
     rw[hlen] at hl h3 hm hk hacc
     have ha:=hacc.2
     have hst:=step_IR (c:=c) (t:=t) (rest:=rest) (t2:=t2) (o:=o) (f:=f) (a:=a) (b:=b) (acc:=acc) (m:=m) (k:=k) hp ht (by omega) (by omega) (by omega) (by omega)
     by_cases hkd:kindQ c=0
     ·rw[if_pos hkd] at hst
      have hq:rowsQ (fu+1) ((c::t)::rest) m k=none:=by
       by_cases hneg:m<0∨k<0
       ·exact rowsQ_neg hneg
       ·rw[rowsQ_step h0 hneg,if_pos hkd]
      rw[hq]
      exact⟨fun rs r h=>(by cases h),fun _=>.inl (fix_end hst)⟩
     ·rw[if_neg hkd] at hst
      have hbd:=mN_bd c
      have hrl:=restQ_len rest
      have hline:=lineQ_len t rest
      have hrw:RowW (mkRow (kindQ c) (lineQ t rest)):=⟨(kind_sg hkd).1,by show(lineQ t rest).length≤3000;omega⟩
      have hacc2:Rw (acc++[mkRow (kindQ c) (lineQ t rest)]) (3000 -(restQ rest).length):=by
       refine⟨fun x hx=> ?_,by rw[List.length_append];simp;omega⟩
       rcases List.mem_append.1 hx with hx|hx
       ·exact hacc.1 x hx
       ·obtain rfl:=List.mem_singleton.1 hx
        exact hrw
      obtain⟨i1,i2⟩:=ih (restQ rest) t2 o f a b (acc++[mkRow (kindQ c) (lineQ t rest)]) (m -mN c) (k -kN c) (by omega) (fun l hl=>hn l (List.mem_cons_of_mem _ (restQ_mem hl))) hacc2 (by omega) (by omega) (by omega)
      have hgo:w_I_takeGroup_10 ((c::t)::rest,t2,o,f,(a,(b,(acc,()))),m,k,())=w_I_takeGroup_10 (restQ rest,t2,o,f,(a,(b,(acc++[mkRow (kindQ c) (lineQ t rest)],()))),m -mN c,k -kN c,()):=fix_go hst
      rw[hgo]
      by_cases hneg:m<0∨k<0
      ·rw[rowsQ_neg hneg]
       exact⟨fun rs r h=>(by cases h),fun _=>i2 (rowsQ_neg (by omega))⟩
      ·rw[rowsQ_step h0 hneg,if_neg hkd]
       cases hq:rowsQ fu (restQ rest) (m -mN c) (k -kN c) with
       |none=>exact⟨fun rs r h=>(by cases h),fun _=>i2 hq⟩
       |some p=>
        obtain⟨rs,r⟩:=p
        refine⟨fun rs' r' h=> ?_,fun h=>by cases h⟩
        obtain⟨rfl,rfl⟩:=Prod.mk.inj (Option.some.inj h)
        obtain⟨j1,⟨u,hu⟩,j2⟩:=i1 rs r hq
        rw[List.append_assoc] at j1 j2
        refine⟨j1,?_,j2⟩
        unfold restQ at hu
        split at hu
        ·refine⟨(c::t)::(rest.take 1++u),?_⟩
         rw[List.cons_append,List.append_assoc,←hu,List.take_append_drop]
        ·exact⟨(c::t)::u,by rw[List.cons_append,←hu]⟩
   ·have hneg:m<0∨k<0:=by omega
    rw[rowsQ_neg hneg]
    exact⟨fun rs r h=>(by cases h),fun _=>.inr ⟨ls,acc,m,k,hacc3,by omega,exit_W (by omega) (by omega)⟩⟩
end R.U
end

section
/- Rows, as the reference reads them; the text that rows were read from. -/
open Go Go.Dn
namespace R.U
set_option linter.unusedVariables false
def LN:TX→Prop
 |[]=>True
 |l::r=>l≠[]∧(isL l∨((10:UInt8)∉l∧r=[]))∧LN r
theorem LN_cut:∀(n:Nat) (s:List UInt8),s.length≤n→LN (cutP s)
 |0,s,h=>by rw[List.eq_nil_of_length_eq_zero (Nat.le_zero.1 h)];trivial
 |n+1,s,h=>by
  by_cases hs:s=[]
  ·subst hs;trivial
  by_cases hm:(10:UInt8)∈s
  ·obtain⟨t,r,rfl,ht⟩:=first_of hm
   rw[cutP_line r ht]
   exact⟨by simp,.inl ⟨t,rfl,ht⟩,LN_cut n r (by simp at h;omega)⟩
  ·rw[cutP_rest hm hs]
   exact⟨hs,.inr ⟨hm,rfl⟩,trivial⟩
theorem LN_drop:∀{ls:TX} (n:Nat),LN ls→LN (ls.drop n)
 |[],n,_=>by simp[LN]
 |l::r,0,h=>h
 |l::r,n+1,h=>LN_drop (ls:=r) n h.2.2
theorem LN_tail {u r:TX}(h:LN (u++r)):LN r:=by
 have:=LN_drop u.length h
 rwa [List.drop_left] at this
theorem LN_restQ {rest:TX}(h:LN rest):LN (restQ rest):=by
 unfold restQ
 split
 ·exact LN_drop 1 h
 ·exact h
theorem isL_end {c:UInt8}{t:List UInt8}(h:isL (c::t))(hc:c≠10):∃u,t=u++[10]∧(10:UInt8)∉u∧endP t=true∧plainB t=u∧t≠[]:=by
 obtain⟨w,e,hw⟩:=h
 cases w with
 |nil=>simp at e;exact absurd e.1 hc
 |cons d w=>
  rw[List.cons_append] at e
  obtain⟨rfl,rfl⟩:=List.cons.inj e
  have he:endP (w++[10])=true:=by
   unfold endP
   rw[List.length_append,List.length_singleton,Nat.add_sub_cancel,List.drop_left];rfl
  refine⟨w,rfl,fun h=>hw (List.mem_cons_of_mem _ h),he,?_,by simp⟩
  unfold plainB
  rw[he,cond_true,List.length_append,List.length_singleton,Nat.add_sub_cancel,List.take_left' rfl]
theorem rowsQ_text:∀(fu:Nat) {ls:TX} {m k:Int} {rs:RW} {r:TX},(∀l∈ls,isL l)→rowsQ fu ls m k=some (rs,r)→ls.flatten=rowsT rs++r.flatten∧∃u,ls=u++r
 |0,ls,m,k,rs,r,hl,h=>by
  unfold rowsQ at h
  split at h
  ·obtain⟨rfl,rfl⟩:=Prod.mk.inj (Option.some.inj h);exact⟨rfl,[],rfl⟩
  ·cases h
 |fu+1,ls,m,k,rs,r,hl,h=>by
  by_cases h0:m=0∧k=0
  ·obtain⟨rfl,rfl⟩:=h0
   rw[rowsQ_zero] at h
   obtain⟨rfl,rfl⟩:=Prod.mk.inj (Option.some.inj h);exact⟨rfl,[],rfl⟩
  ·by_cases hneg:m<0∨k<0
   ·rw[rowsQ_neg hneg] at h;cases h
   ·match ls,hl,h with
    |[],_,h=>rw[rowsQ_nil h0] at h;cases h
    |[]::_,hl,_=>obtain⟨w,e,_⟩:=hl [] (List.mem_cons_self ..);simp at e
    |(c::t)::rest,hl,h=>
     rw[rowsQ_step h0 hneg] at h
     by_cases hk:kindQ c=0
     ·rw[if_pos hk] at h;cases h
     ·rw[if_neg hk] at h
      obtain⟨p,hp,e⟩:=Option.map_eq_some_iff.1 h
      obtain⟨rs',r'⟩:=p
      obtain⟨rfl,rfl⟩:=Prod.mk.inj e
      obtain⟨i1,u,i2⟩:=rowsQ_text fu (fun l h=>hl l (List.mem_cons_of_mem _ (restQ_mem h))) hp
      obtain⟨w,ht,hw,he,hpl,hne⟩:=isL_end (hl _ (List.mem_cons_self ..)) (kind_sg hk).2.2
      have hrow:rowT (mkRow (kindQ c) (lineQ t rest))=shownT [c] (lineQ t rest):=by
       unfold rowT
       rw[(kind_sg hk).2.1]
      have hcons:rowsT (mkRow (kindQ c) (lineQ t rest)::rs')=rowT (mkRow (kindQ c) (lineQ t rest))++rowsT rs':=by unfold rowsT;rw[List.flatMap_cons]
      rw[hcons,hrow]
      unfold lineQ
      by_cases hh:rest.head?=some noneL
      ·rw[if_pos hh,hpl]
       unfold shownT
       rw[endP_no hw,cond_false]
       cases rest with
       |nil=>cases hh
       |cons n q=>
        obtain rfl:=Option.some.inj hh
        have:restQ (noneL::q)=q:=by unfold restQ;rw[if_pos hh];rfl
        rw[this] at i1 i2
        refine⟨?_,(c::t)::noneL::u,by rw[List.cons_append,List.cons_append,←i2]⟩
        rw[List.flatten_cons,List.flatten_cons,i1,ht]
        unfold none10
        simp
      ·rw[if_neg hh]
       unfold shownT
       rw[he,cond_true]
       have:restQ rest=rest:=by unfold restQ;rw[if_neg hh]
       rw[this] at i1 i2
       refine⟨?_,(c::t)::u,by rw[List.cons_append,←i2]⟩
       rw[List.flatten_cons,i1]
       simp
theorem side_cons (x:PV Y_impl_Row)(rs:RW)(c:Int):((sideL (x::rs) c).length:Int)=(if (x.1==c)=true then 0 else 1)+((sideL rs c).length:Int):=by
 unfold sideL
 rw[List.filter_cons]
 cases h:(x.1==c)
 ·rw[Bool.not_false,if_pos rfl,List.map_cons,List.length_cons,if_neg (by simp)];omega
 ·rw[Bool.not_true,if_neg (by simp),if_pos rfl];omega
theorem rowsQ_side:∀(fu:Nat) {ls:TX} {m k:Int} {rs:RW} {r:TX},rowsQ fu ls m k=some (rs,r)→((sideL rs 3).length:Int)=m∧((sideL rs 2).length:Int)=k
 |0,ls,m,k,rs,r,h=>by
  unfold rowsQ at h
  split at h
  ·rename_i h0
   obtain⟨rfl,rfl⟩:=Prod.mk.inj (Option.some.inj h)
   obtain⟨rfl,rfl⟩:=h0
   exact⟨rfl,rfl⟩
  ·cases h
 |fu+1,ls,m,k,rs,r,h=>by
  by_cases h0:m=0∧k=0
  ·obtain⟨rfl,rfl⟩:=h0
   rw[rowsQ_zero] at h
   obtain⟨rfl,rfl⟩:=Prod.mk.inj (Option.some.inj h);exact⟨rfl,rfl⟩
  ·by_cases hneg:m<0∨k<0
   ·rw[rowsQ_neg hneg] at h;cases h
   ·match ls,h with
    |[],h=>rw[rowsQ_nil h0] at h;cases h
    |[]::_,h=>unfold rowsQ at h;rw[if_neg h0,if_neg hneg] at h;cases h
    |(c::t)::rest,h=>
     rw[rowsQ_step h0 hneg] at h
     by_cases hk:kindQ c=0
     ·rw[if_pos hk] at h;cases h
     ·rw[if_neg hk] at h
      obtain⟨p,hp,e⟩:=Option.map_eq_some_iff.1 h
      obtain⟨rs',r'⟩:=p
      obtain⟨rfl,rfl⟩:=Prod.mk.inj e
      obtain⟨i1,i2⟩:=rowsQ_side fu hp
      rw[side_cons,side_cons,i1,i2]
      rw[show(mkRow (kindQ c) (lineQ t rest)).1=kindQ c from rfl,kind_ne3,kind_ne2]
      omega
theorem kind_S (c:UInt8):f_S_l7Kind ((c.toNat:Nat):Int)=some ((kindQ c,()),()):=by
 unfold f_S_l7Kind kindQ
 rw[show(32:Int)=(((32:UInt8).toNat:Nat):Int) from rfl,show(45:Int)=(((45:UInt8).toNat:Nat):Int) from rfl,show(43:Int)=(((43:UInt8).toNat:Nat):Int) from rfl,byte_eq,byte_eq,byte_eq]
 by_cases h1:c=32
 ·rw[if_pos h1,beq_iff_eq.2 h1];rfl
 ·rw[if_neg h1,beq_eq_false_iff_ne.2 h1,cond_false]
  by_cases h2:c=45
  ·rw[if_pos h2,beq_iff_eq.2 h2];rfl
  ·rw[if_neg h2,beq_eq_false_iff_ne.2 h2,cond_false]
   by_cases h3:c=43
   ·rw[if_pos h3,beq_iff_eq.2 h3];rfl
   ·rw[if_neg h3,beq_eq_false_iff_ne.2 h3,cond_false]
def stepN (rest:TX):Nat:=if rest.head?=some noneL then 2 else 1
theorem step_SR {L pre:TX}{c:UInt8}{t:List UInt8}{rest:TX}{acc:RW}{m k:Int}(hL:L=pre++(c::t)::rest)(hln:rest≠[]→isL (c::t))
 (hTL:t.length≤9223372036854775807)(hmk:m+k>0)(hlen:L.length≤3000)(hacc:acc.length≤6000)(hm: -100000≤m∧m≤100000)(hk: -100000≤k∧k≤100000):
 b_S_l7Rows_3 L m k acc ((pre.length:Nat):Int)=if kindQ c=0 then some (.inr (acc,((pre.length:Nat):Int),())) else
  some (.inl (L,m -mN c,k -kN c,acc++[mkRow (kindQ c) (lineQ t rest)],((pre.length+stepN rest:Nat):Int),())):=by
 have hll:L.length=pre.length+rest.length+1:=by rw[hL];simp;omega
 have hg:L.getD pre.length []=c::t:=by rw[hL];simp
 unfold b_S_l7Rows_3
 rw[decide_eq_true (by omega:((pre.length:Nat):Int)<(L.length:Int)),cond_true,wrap64 (by omega) (by omega),decide_eq_true (by omega:m+k>0),cond_true,inB_lt (by omega:pre.length<L.length),cond_true,toNat_cast,hg,
  show inB 0 (c::t).length=true from inB_lt (i:=0) (by simp),cond_true,show(c::t).getD (0:Int).toNat 0=c from rfl,kind_S,Option.bind_some]
 dsimp only
 by_cases h0:kindQ c=0
 ·rw[if_pos h0,h0];rfl
 ·rw[if_neg h0,show(kindQ c==0)=false from beq_eq_false_iff_ne.2 h0,cond_false,cond_true,drop_ok,cond_true,drop_one,wrap64 (x:=((pre.length:Nat):Int)+1) (by omega) (by omega)]
  have hq:∀{X:Type} (F:Bool→Option X),(bif decide (((pre.length:Nat):Int)+1<(L.length:Int)) then bif inB (((pre.length:Nat):Int)+1) L.length then
   bif (L.getD (((pre.length:Nat):Int)+1).toNat []==noneL) then F true else F false else none else F false:Option X)=F (rest.head?==some noneL):=by
   intro X F
   cases rest with
   |nil=>
    rw[decide_eq_false (by simp at hll;omega:¬((pre.length:Nat):Int)+1<(L.length:Int))]
    rfl
   |cons n r=>
    have hn:L.getD (pre.length+1) []=n:=by
     rw[hL,List.getD_eq_getElem?_getD,List.getElem?_append_right (by omega)]
     simp
    rw[decide_eq_true (by simp at hll;omega:((pre.length:Nat):Int)+1<(L.length:Int)),cond_true,show(((pre.length:Nat):Int)+1)=((pre.length+1:Nat):Int) from rfl,inB_lt (by simp at hll;omega:pre.length+1<L.length),cond_true,toNat_cast,hn]
    rw[show((n::r).head?==some noneL)=(n==noneL) from rfl]
    cases(n==noneL)<;>rfl
  have hne:rest.head?=some noneL→t≠[]∧endP t=true:=by
   intro h
   obtain⟨_,_,_,q1,_,q2⟩:=isL_end (hln (fun e=>by rw[e] at h;cases h)) (kind_sg h0).2.2
   exact⟨q2,q1⟩
  have hF:=hq (fun q=>(some (L,m,k,acc,((pre.length:Nat):Int)+1,kindQ c,t,m,k,m+k,true,(bif q then !(t==[]) else false),()):Option ((PV S_string×PV (.int .i64)×PV (.int .i64)×PV S_impl_Row×PV (.int .i64)×PV (.int .i64)×PV .str×PV (.int .i64)×PV (.int .i64)×PV (.int .i64)×PV .bool×PV .bool×Unit))))
  simp only[cond_true,cond_false] at hF
  rw[hF,Option.bind_some]
  dsimp only
  have hw:∀z:Bool,z=(rest.head?==some noneL)→((bif (bif z then !(t==[]) else false) then
   bif cutB 0 (IntKind.wrap .i64 ((t.length:Int) -1)) t.length then
    some (L,m,k,acc,(IntKind.wrap .i64 (((pre.length:Nat):Int)+1+1)),kindQ c,(cutL 0 (IntKind.wrap .i64 ((t.length:Int) -1)) t),m,k,m+k,true,())
   else none
   else some (L,m,k,acc,((pre.length:Nat):Int)+1,kindQ c,t,m,k,m+k,true,()):Option ((PV S_string×PV (.int .i64)×PV (.int .i64)×PV S_impl_Row×PV (.int .i64)×PV (.int .i64)×PV .str×PV (.int .i64)×PV (.int .i64)×PV (.int .i64)×PV .bool×Unit))))=
    some (L,m,k,acc,((pre.length+stepN rest:Nat):Int),kindQ c,lineQ t rest,m,k,m+k,true,()):=by
   rintro z rfl
   unfold stepN lineQ
   by_cases hh:rest.head?=some noneL
   ·obtain⟨q1,q2⟩:=hne hh
    have ht1:1≤t.length:=List.length_pos_iff.2 q1
    rw[show(rest.head?==some noneL)=true from beq_iff_eq.2 hh,cond_true,show(t==[])=false from beq_eq_false_iff_ne.2 q1,Bool.not_false,cond_true,if_pos hh,if_pos hh]
    by_cases htl:t.length≤9223372036854775807
    ·rw[wrap64 (x:=(t.length:Int) -1) (by omega) (by omega),show(t.length:Int) -1=((t.length -1:Nat):Int) by omega,show cutB 0 ((t.length -1:Nat):Int) t.length=true from by unfold cutB;simp,cond_true,wrap64 (by omega) (by omega)]
     unfold plainB
     rw[q2,cond_true]
     have:cutL 0 ((t.length -1:Nat):Int) t=t.take (t.length -1):=by
      show(t.take ((t.length -1:Nat):Int).toNat).drop 0=_
      rw[toNat_cast,List.drop_zero]
     rw[this]
     rfl
    ·exact absurd hTL htl
   ·rw[show(rest.head?==some noneL)=false from beq_eq_false_iff_ne.2 hh,cond_false,cond_false,if_neg hh,if_neg hh]
    rfl
  rw[hw _ rfl,Option.bind_some]
  dsimp only
  have hroom:roomB (acc.length+[mkRow (kindQ c) (lineQ t rest)].length)=true:=roomB_ok (by simp;omega)
  rw[←kind_ne3,←kind_ne2]
  cases q3:(kindQ c==3)<;>cases q2:(kindQ c==2)
  ·rw[Bool.not_false,cond_true,Option.bind_some]
   dsimp only
   rw[q2,Bool.not_false,cond_true,Option.bind_some]
   dsimp only
   rw[hroom,cond_true,wrap64 (by omega) (by omega),wrap64 (by omega) (by omega)]
   rfl
  ·rw[Bool.not_false,cond_true,Option.bind_some]
   dsimp only
   rw[q2,Bool.not_true,cond_false,Option.bind_some]
   dsimp only
   rw[hroom,cond_true,wrap64 (by omega) (by omega)]
   simp
  ·rw[Bool.not_true,cond_false,Option.bind_some]
   dsimp only
   rw[q2,Bool.not_false,cond_true,Option.bind_some]
   dsimp only
   rw[hroom,cond_true,wrap64 (by omega) (by omega)]
   simp
  ·rw[beq_iff_eq] at q3 q2
   omega
theorem exit_SR {L:TX}{m k:Int}{acc:RW}{n:Nat}(hm: -100000≤m∧m≤100000)(hk: -100000≤k∧k≤100000)(h:n=L.length∨m+k≤0):w_S_l7Rows_3 (L,m,k,acc,(n:Int),())=some (acc,(n:Int),()):=by
 refine fix_end ?_
 show b_S_l7Rows_3 L m k acc (n:Int)=_
 unfold b_S_l7Rows_3
 by_cases h1:n<L.length
 ·rw[decide_eq_true (by omega:(n:Int)<(L.length:Int)),cond_true,wrap64 (by omega) (by omega),decide_eq_false (by omega:¬m+k>0),cond_false]
 ·rw[decide_eq_false (by omega:¬(n:Int)<(L.length:Int)),cond_false]
end R.U
end

section
/- Groups: the rows as the reference reads them, and what lines tell. -/
open Go Go.Dn
namespace R.U
set_option linter.unusedVariables false
theorem stepN_pre (rest:TX):∃u,rest=u++restQ rest∧u.length+1=stepN rest:=by
 unfold restQ stepN
 by_cases h:rest.head?=some noneL
 ·rw[if_pos h,if_pos h]
  cases rest with
  |nil=>cases h
  |cons n r=>exact⟨[n],rfl,rfl⟩
 ·rw[if_neg h,if_neg h]
  exact⟨[],rfl,rfl⟩
theorem rows_S':∀(fu:Nat) (L pre ls:TX) (acc:RW) (m k:Int),L=pre++ls→ls.length≤fu→L.length≤3000→LN ls→(∀l∈ls,l.length≤3000)→Rw acc pre.length→(-50000+(ls.length:Int)≤m∧m≤40000)→(-50000+(ls.length:Int)≤k∧k≤40000)→
 ∃(rs:RW) (u r:TX),ls=u++r∧Rw (acc++rs) 3000∧w_S_l7Rows_3 (L,m,k,acc,((pre.length:Nat):Int),())=some (acc++rs,((pre.length+u.length:Nat):Int),())∧
  ((rowsQ fu ls m k=some (rs,r))∨(rowsQ fu ls m k=none∧¬(((sideL rs 3).length:Int)=m∧((sideL rs 2).length:Int)=k))):=by
 intro fu
 induction fu with
 |zero=>
  intro L pre ls acc m k e hl hL hn h3 hacc hm hk
  obtain rfl:=List.eq_nil_of_length_eq_zero (Nat.le_zero.1 hl)
  have hpl:pre.length=L.length:=by rw[e];simp
  refine⟨[],[],[],rfl,⟨by rw[List.append_nil];exact hacc.1,by rw[List.append_nil];have:=hacc.2;omega⟩,by rw[List.append_nil];exact exit_SR (by omega) (by omega) (.inl hpl),?_⟩
  by_cases h0:m=0∧k=0
  ·obtain⟨rfl,rfl⟩:=h0
   exact .inl (rowsQ_zero _ _)
  ·exact .inr ⟨rowsQ_nil h0,fun h=>h0 ⟨h.1.symm,h.2.symm⟩⟩
 |succ fu ih=>
  intro L pre ls acc m k e hl hL hn h3 hacc hm hk
  have hll:L.length=pre.length+ls.length:=by rw[e];simp
  have hacc3:Rw acc 3000:=⟨hacc.1,by have:=hacc.2;omega⟩
  have stop:(pre.length=L.length∨m+k≤0)→(¬(m=0∧k=0)→rowsQ (fu+1) ls m k=none)→∃(rs:RW) (u r:TX),ls=u++r∧Rw (acc++rs) 3000∧w_S_l7Rows_3 (L,m,k,acc,((pre.length:Nat):Int),())=some (acc++rs,((pre.length+u.length:Nat):Int),())∧
   ((rowsQ (fu+1) ls m k=some (rs,r))∨(rowsQ (fu+1) ls m k=none∧¬(((sideL rs 3).length:Int)=m∧((sideL rs 2).length:Int)=k))):=by
   intro hs hq
   refine⟨[],[],ls,rfl,by rw[List.append_nil];exact hacc3,by rw[List.append_nil];exact exit_SR (by omega) (by omega) hs,?_⟩
   by_cases h0:m=0∧k=0
   ·obtain⟨rfl,rfl⟩:=h0
    exact .inl (rowsQ_zero _ _)
   ·exact .inr ⟨hq h0,fun h=>h0 ⟨h.1.symm,h.2.symm⟩⟩
  by_cases hp:m+k>0
  ·have h0:¬(m=0∧k=0):=by omega
   match ls,e,hl,hn,h3,hm,hk,hll,stop with
   |[],_,_,_,_,_,_,hll,stop=>exact stop (.inl (by simpa using hll.symm)) fun h=>rowsQ_nil h
   |[]::_,_,_,hn,_,_,_,_,_=>exact absurd rfl hn.1
   |(c::t)::rest,e,hl,hn,h3,hm,hk,hll,stop=>
    have ht:t.length≤3000:=by have:=h3 _ (List.mem_cons_self ..);simp at this;omega
    have hlen:(((c::t)::rest:TX)).length=rest.length+1:=rfl
    rw[hlen] at hl hm hk hll
    have ha:=hacc.2
    have hst:=step_SR (c:=c) (t:=t) (rest:=rest) (acc:=acc) (m:=m) (k:=k) e (fun hr=>hn.2.1.resolve_right fun q=>hr q.2) (by omega) hp hL (by omega) (by omega) (by omega)
    by_cases hkd:kindQ c=0
    ·rw[if_pos hkd] at hst
     have hq:rowsQ (fu+1) ((c::t)::rest) m k=none:=by
      by_cases hneg:m<0∨k<0
      ·exact rowsQ_neg hneg
      ·rw[rowsQ_step h0 hneg,if_pos hkd]
     refine⟨[],[],(c::t)::rest,rfl,by rw[List.append_nil];exact hacc3,by rw[List.append_nil];exact fix_end hst,.inr ⟨hq,fun h=>h0 ⟨h.1.symm,h.2.symm⟩⟩⟩
    ·rw[if_neg hkd] at hst
     have hbd:=mN_bd c
     have hrl:=restQ_len rest
     have hline:=lineQ_len t rest
     obtain⟨v,hv,hvl⟩:=stepN_pre rest
     have hrw:RowW (mkRow (kindQ c) (lineQ t rest)):=⟨(kind_sg hkd).1,by show(lineQ t rest).length≤3000;omega⟩
     have hpre:(pre++((c::t)::v)).length=pre.length+stepN rest:=by rw[List.length_append,List.length_cons];omega
     have hacc2:Rw (acc++[mkRow (kindQ c) (lineQ t rest)]) (pre++((c::t)::v)).length:=by
      refine⟨fun x hx=> ?_,by rw[hpre,List.length_append];simp;omega⟩
      rcases List.mem_append.1 hx with hx|hx
      ·exact hacc.1 x hx
      ·obtain rfl:=List.mem_singleton.1 hx
       exact hrw
     obtain⟨rs,u,r,j1,j2,j3,j4⟩:=ih L (pre++((c::t)::v)) (restQ rest) (acc++[mkRow (kindQ c) (lineQ t rest)]) (m -mN c) (k -kN c) (by
      rw[e,List.append_assoc,List.cons_append,←hv]) (by omega) hL (LN_restQ hn.2.2) (fun l hl=>h3 l (List.mem_cons_of_mem _ (restQ_mem hl))) hacc2 (by omega) (by omega)
     rw[hpre] at j3
     rw[List.append_assoc] at j2 j3
     refine⟨mkRow (kindQ c) (lineQ t rest)::rs,(c::t)::(v++u),r,by rw[List.cons_append,List.append_assoc,←j1,←hv],j2,?_,?_⟩
     ·rw[show w_S_l7Rows_3 (L,m,k,acc,((pre.length:Nat):Int),())=_ from fix_go hst]
      refine Eq.trans j3 ?_
      rw[show pre.length+stepN rest+u.length=pre.length+((c::t)::(v++u)).length by rw[List.length_cons,List.length_append];omega]
      rfl
     ·have hside:¬(((sideL rs 3).length:Int)=m -mN c∧((sideL rs 2).length:Int)=k -kN c)→¬(((sideL (mkRow (kindQ c) (lineQ t rest)::rs) 3).length:Int)=m∧((sideL (mkRow (kindQ c) (lineQ t rest)::rs) 2).length:Int)=k):=by
       intro h h2
       rw[side_cons,side_cons,show(mkRow (kindQ c) (lineQ t rest)).1=kindQ c from rfl,kind_ne3,kind_ne2] at h2
       exact h ⟨by omega,by omega⟩
      by_cases hneg:m<0∨k<0
      ·refine .inr ⟨rowsQ_neg hneg,?_⟩
       rcases j4 with j4|j4
       ·rw[rowsQ_neg (by omega)] at j4;cases j4
       ·exact hside j4.2
      ·rw[rowsQ_step h0 hneg,if_neg hkd]
       rcases j4 with j4|j4
       ·exact .inl (by rw[j4];rfl)
       ·exact .inr ⟨by rw[j4.1];rfl,hside j4.2⟩
  ·refine stop (.inr (by omega)) fun h0=>rowsQ_neg (by omega)
inductive GQ:TX→GR→Prop
 |nil:GQ [] []
 |cons {l o f:List UInt8} {a m b k:Int} {rest r:TX} {rs:RW} {gs:GR}:HeadIs l o f a m b k→rowsQ rest.length rest m k=some (rs,r)→GQ r gs→GQ (l::rest) ((a,(b,(rs,())))::gs)
theorem hdP_Q (o f:List UInt8):hdP o f=hdQ o f++[10]:=by unfold hdP hdQ;simp
theorem hdP_inj {o f o' f':List UInt8}(h:hdP o f=hdP o' f')(h1:(32:UInt8)∉o)(h2:(32:UInt8)∉f)(h3:(32:UInt8)∉o')(h4:(32:UInt8)∉f'):o=o'∧f=f':=by
 rw[hdP_Q,hdP_Q] at h
 have:=hdQ_split h1 h2
 rw[List.append_cancel_right h,hdQ_split h3 h4] at this
 simp only[List.cons.injEq] at this
 exact⟨this.2.1.2.symm,this.2.2.1.2.symm⟩
theorem head_uniq {l o f o' f':List UInt8}{a m b k a' m' b' k':Int}(h:HeadIs l o f a m b k)(h':HeadIs l o' f' a' m' b' k'):a=a'∧m=m'∧b=b'∧k=k':=by
 obtain⟨rfl,rfl⟩:=hdP_inj (h.1.symm.trans h'.1) (count_no32 h.2.1) (count_no32 h.2.2) (count_no32 h'.2.1) (count_no32 h'.2.2)
 have e1:=Option.some.inj (h.2.1.symm.trans h'.2.1)
 have e2:=Option.some.inj (h.2.2.symm.trans h'.2.2)
 obtain⟨rfl,rfl⟩:=Prod.mk.inj e1
 obtain⟨rfl,rfl⟩:=Prod.mk.inj e2
 exact⟨rfl,rfl,rfl,rfl⟩
theorem GQ_uniq:∀{ls:TX} {gs gs':GR},GQ ls gs→GQ ls gs'→gs=gs':=by
 intro ls gs gs' h
 induction h generalizing gs' with
 |nil=>intro h;cases h;rfl
 |cons hd hr hg ih=>
  intro h
  cases h with
  |cons hd' hr' hg'=>
   obtain⟨rfl,rfl,rfl,rfl⟩:=head_uniq hd hd'
   rw[hr] at hr'
   obtain⟨rfl,rfl⟩:=Prod.mk.inj (Option.some.inj hr')
   rw[ih hg']
theorem headText_I (o f:List UInt8)(h1:o.length≤100000)(h2:f.length≤100000):f_I_headText o f=some ((hdP o f,()),()):=by
 unfold f_I_headText hdP
 rw[decide_eq_true (by simp only[List.length_cons,List.length_nil];omega),cond_true,decide_eq_true (by simp only[List.length_append,List.length_cons,List.length_nil];omega),cond_true,decide_eq_true (by simp only[List.length_append,List.length_cons,List.length_nil];omega),cond_true,decide_eq_true (by simp only[List.length_append,List.length_cons,List.length_nil];omega),cond_true]
theorem take_I (l:List UInt8)(rest:TX)(hl:l.length≤3000)(hr:rest.length≤2999)(hn:∀x∈rest,x≠[]∧x.length≤3000):
 (∃o f a m b k rs r,HeadIs l o f a m b k∧rowsQ rest.length rest m k=some (rs,r)∧Rw rs 3000∧(∃u,rest=u++r)∧f_I_takeGroup (l::rest)=some (((a,(b,(rs,()))),hdP o f++rowsT rs,r,true,()),()))∨
 ((∀o f a m b k rs r,HeadIs l o f a m b k→rowsQ rest.length rest m k=some (rs,r)→False)∧∃g tx r,f_I_takeGroup (l::rest)=some ((g,tx,r,false,()),())):=by
 rcases head_I l rest (by omega) with⟨o,f,a,m,b,k,hH,hT⟩|⟨hno,hT⟩
 ·have g1:=countP_rng hH.2.1
  have g2:=countP_rng hH.2.2
  have ho:=countP_len hH.2.1
  have hf:=countP_len hH.2.2
  obtain⟨i1,i2⟩:=rows_I' rest.length rest GZ o f a b [] m k (Nat.le_refl _) hn ⟨fun r hr=>(by cases hr),Nat.zero_le _⟩ (by omega) (by omega) (by omega)
  cases hq:rowsQ rest.length rest m k with
  |some p=>
   obtain⟨rs,r⟩:=p
   obtain⟨j1,j2,j3⟩:=i1 rs r hq
   rw[List.nil_append] at j1
   have hw:=rowsW_len j1.2 j1.1
   refine .inl ⟨o,f,a,m,b,k,rs,r,hH,hq,j1,j2,?_⟩
   rw[hT,j3]
   unfold contI
   rw[Option.bind_some]
   dsimp only
   rw[headText_I o f (by omega) (by omega),Option.bind_some,List.nil_append,rowsText_W j1.2 j1.1,Option.bind_some]
   dsimp only
   rw[decide_eq_true (by unfold hdP;simp only[List.length_append,List.length_cons,List.length_nil];omega),cond_true]
   rfl
  |none=>
   refine .inr ⟨fun o' f' a' m' b' k' rs r h h2=> ?_,?_⟩
   ·obtain⟨rfl,rfl,rfl,rfl⟩:=head_uniq hH h
    rw[hq] at h2;cases h2
   ·rcases i2 hq with j|⟨r,acc',m',k',j1,j2,j3⟩
    ·refine⟨GZ,[],[],?_⟩
     rw[hT,j];rfl
    ·have hw:=rowsW_len j1.2 j1.1
     refine⟨(a,(b,(acc',()))),hdP o f++rowsT acc',r,?_⟩
     rw[hT,j3]
     unfold contI
     rw[Option.bind_some]
     dsimp only
     rw[headText_I o f (by omega) (by omega),Option.bind_some,rowsText_W j1.2 j1.1,Option.bind_some]
     dsimp only
     rw[decide_eq_true (by unfold hdP;simp only[List.length_append,List.length_cons,List.length_nil];omega),cond_true]
     by_cases hm0:m'=0
     ·have hk0:k'≠0:=by omega
      rw[show(m'==0)=true from beq_iff_eq.2 hm0,show(k'==0)=false from beq_eq_false_iff_ne.2 hk0];rfl
     ·rw[show(m'==0)=false from beq_eq_false_iff_ne.2 hm0];rfl
 ·exact .inr ⟨fun o f a m b k rs r h _=>hno o f a m b k h,GZ,[],[],hT⟩
end R.U
end

section
/- Groups, as the program reads them. -/
open Go Go.Dn
namespace R.U
set_option linter.unusedVariables false
theorem endP_ne {t:List UInt8}(h:endP t=true):t≠[]:=by rintro rfl;cases h
theorem hdP_end (o f:List UInt8):endP (hdP o f)=true:=by
 unfold hdP
 rw[endP_app (by simp)]
 decide
theorem hdP_len {o f l:List UInt8}(h:l=hdP o f):(hdP o f).length=l.length:=by rw[h]
theorem shownT_end (sg s:List UInt8):endP (shownT sg s)=true:=by
 unfold shownT
 cases h:endP s
 ·rw[cond_false,endP_app (by unfold none10;simp)];decide
 ·rw[cond_true,endP_app (endP_ne h),h]
theorem rowsT_end:∀{rs:RW} {x:List UInt8},endP x=true→endP (x++rowsT rs)=true
 |[],x,h=>by unfold rowsT;simpa using h
 |r::rs,x,h=>by
  unfold rowsT
  rw[List.flatMap_cons,←List.append_assoc]
  exact rowsT_end (rs:=rs) (by unfold rowT;rw[endP_app (endP_ne (shownT_end _ _)),shownT_end])
theorem groups_I':∀(n:Nat) (ls:TX) (out:GR) (text:List UInt8),ls.length≤n→ls.length≤3000→(∀x∈ls,x≠[]∧x.length≤3000)→out.length≤20→text.length≤10000000*out.length→
 (∃gs tx,GQ ls gs∧out.length+gs.length≤20∧(∀x∈gs,Rw x.2.2.1 3000)∧((∀l∈ls,isL l)→tx=ls.flatten)∧(ls≠[]→endP tx=true)∧w_I_readUnified_2 (ls,out,text,())=some (.inl (out++gs,text++tx,())))∨
 ((∀gs,GQ ls gs→¬out.length+gs.length≤20)∧w_I_readUnified_2 (ls,out,text,())=some (.inr ([],[],false,()))):=by
 intro n
 induction n with
 |zero=>
  intro ls out text hl h3 hn ho ht
  obtain rfl:=List.eq_nil_of_length_eq_zero (Nat.le_zero.1 hl)
  exact .inl ⟨[],[],.nil,by simpa using ho,fun x hx=>(by cases hx),fun _=>rfl,fun h=>absurd rfl h,by rw[List.append_nil,List.append_nil];exact fix_end rfl⟩
 |succ n ih=>
  intro ls out text hl h3 hn ho ht
  cases ls with
  |nil=>exact .inl ⟨[],[],.nil,by simpa using ho,fun x hx=>(by cases hx),fun _=>rfl,fun h=>absurd rfl h,by rw[List.append_nil,List.append_nil];exact fix_end rfl⟩
  |cons l rest=>
   rw[List.length_cons] at hl h3
   have hpos:decide ((((l::rest:TX)).length:Int)>0)=true:=decide_eq_true (by simp)
   rcases take_I l rest (hn l (List.mem_cons_self ..)).2 (by omega) (fun x hx=>hn x (List.mem_cons_of_mem _ hx)) with⟨o,f,a,m,b,k,rs,r,hH,hq,hrw,⟨u,hu⟩,hT⟩|⟨hno,g,tx,r,hT⟩
   ·by_cases h20:out.length=20
    ·refine .inr ⟨fun gs hg=> ?_,fix_end ?_⟩
     ·cases hg with
      |cons _ _ _=>rw[List.length_cons];omega
     ·show b_I_readUnified_2 (l::rest) out text=_
      unfold b_I_readUnified_2
      rw[hpos,cond_true,hT,Option.bind_some]
      dsimp only
      rw[Bool.not_true,cond_false,Option.bind_some]
      dsimp only
      rw[show((out.length:Int)==20)=true from beq_iff_eq.2 (by omega)];rfl
    ·have hw:=rowsW_len hrw.2 hrw.1
     have hhl:=hdP_len hH.1
     have hl3:=(hn l (List.mem_cons_self ..)).2
     have hst:w_I_readUnified_2 (l::rest,out,text,())=w_I_readUnified_2 (r,out++[(a,(b,(rs,())))],text++(hdP o f++rowsT rs),()):=by
      refine fix_go ?_
      show b_I_readUnified_2 (l::rest) out text=_
      unfold b_I_readUnified_2
      rw[hpos,cond_true,hT,Option.bind_some]
      dsimp only
      rw[Bool.not_true,cond_false,Option.bind_some]
      dsimp only
      rw[show((out.length:Int)==20)=false from beq_eq_false_iff_ne.2 (by omega),cond_false,roomB_ok (by simp;omega),cond_true,decide_eq_true (by rw[List.length_append];omega),cond_true]
     rw[hst]
     have hrl:r.length≤rest.length:=by rw[hu];simp
     rcases ih r (out++[(a,(b,(rs,())))]) (text++(hdP o f++rowsT rs)) (by omega) (by omega) (fun x hx=>hn x (by rw[hu];simp[hx])) (by rw[List.length_append];simp;omega) (by rw[List.length_append,List.length_append,List.length_append];simp;omega) with⟨gs,tx,j1,j2,j3,j4,j5,j6⟩|⟨j1,j2⟩
     ·refine .inl ⟨(a,(b,(rs,())))::gs,(hdP o f++rowsT rs)++tx,.cons hH hq j1,by rw[List.length_append] at j2;simp at j2 ⊢;omega,fun x hx=> ?_,fun hE=> ?_,fun _=> ?_,?_⟩
      ·rcases List.mem_cons.1 hx with rfl|hx
       ·exact hrw
       ·exact j3 x hx
      ·obtain⟨q1,_⟩:=rowsQ_text _ (fun x hx=>hE x (List.mem_cons_of_mem _ hx)) hq
       rw[List.flatten_cons,q1,j4 fun x hx=>hE x (List.mem_cons_of_mem _ (by rw[hu];simp[hx])),hH.1,List.append_assoc]
      ·by_cases hr:r=[]
       ·subst hr
        cases j1
        have:tx=[]:=by simpa using j4 (fun x hx=>by cases hx)
        rw[this,List.append_nil]
        exact rowsT_end (hdP_end o f)
       ·have:=j5 hr
        rw[endP_app (endP_ne this),this]
      ·rw[j6,List.append_assoc,List.append_assoc];rfl
     ·refine .inr ⟨fun gs hg=> ?_,j2⟩
      cases hg with
      |cons hd' hr' hg'=>
       obtain⟨rfl,rfl,rfl,rfl⟩:=head_uniq hH hd'
       rw[hq] at hr'
       obtain⟨rfl,rfl⟩:=Prod.mk.inj (Option.some.inj hr')
       have:=j1 _ hg'
       rw[List.length_append] at this
       rw[List.length_cons]
       simp at this
       omega
   ·refine .inr ⟨fun gs hg=> ?_,fix_end ?_⟩
    ·cases hg with
     |cons hd hr hg=>exact absurd hr fun h=>hno _ _ _ _ _ _ _ _ hd h
    ·show b_I_readUnified_2 (l::rest) out text=_
     unfold b_I_readUnified_2
     rw[hpos,cond_true,hT,Option.bind_some]
     rfl
theorem smG_of {gs:GR}(h1:gs.length≤1000000)(h:∀x∈gs,Rw x.2.2.1 3000):SmG gs:=
 ⟨by omega,fun x hx=>⟨by have:=(h x hx).2;omega,fun r hr=>by have:=((h x hx).1 r hr).2;omega⟩⟩
theorem LN_all:∀{ls:TX},LN ls→(∀l∈ls,isL l)∨(ls.flatten≠[]∧endP ls.flatten=false)
 |[],_=>.inl fun l h=>by cases h
 |l::r,⟨h1,h2,h3⟩=>by
  rcases h2 with h2|⟨h2,rfl⟩
  ·rcases LN_all h3 with h|⟨ha,hb⟩
   ·exact .inl fun x hx=>(List.mem_cons.1 hx).elim (fun e=>e▸h2) (h x)
   ·exact .inr ⟨by rw[List.flatten_cons];simp[ha],by rw[List.flatten_cons,endP_app ha,hb]⟩
  ·refine .inr ⟨by simpa using h1,?_⟩
   rw[List.flatten_cons,List.flatten_nil,List.append_nil]
   exact endP_no h2
theorem read_I (s:List UInt8):∃res,f_I_ReadUnified s=some (res,())∧
 ((∃gs,s.length≤3000∧GQ (cutP s) gs∧(∀l∈cutP s,isL l)∧goodGs gs=true∧res=(gs,0,true,()))∨
  ((∀gs,s.length≤3000→GQ (cutP s) gs→(∀l∈cutP s,isL l)→goodGs gs=true→False)∧res=([],1,false,()))):=by
 unfold f_I_ReadUnified
 by_cases hs:s.length≤3000
 ·rw[decide_eq_true (by omega:(s.length:Int)≤3000),cond_true,linesOf_I s (by omega),Option.bind_some]
  dsimp only
  unfold f_I_readUnified
  have hln:=cutP_len s
  rcases groups_I' (cutP s).length (cutP s) [] [] (Nat.le_refl _) (by omega) (fun x hx=>⟨cutP_ne hx,by have:=cutP_mem hx;omega⟩) (Nat.zero_le _) (Nat.zero_le _) with⟨gs,tx,j1,j2,j3,j4,j5,j6⟩|⟨j1,j2⟩
  ·rw[j6,Option.bind_some]
   dsimp only
   rw[List.nil_append,List.nil_append,Option.bind_some]
   dsimp only
   rw[cond_true]
   have hS:SmG gs:=smG_of (by simp at j2;omega) j3
   cases ht:tx==s
   ·refine⟨([],1,false,()),rfl,.inr ⟨fun gs' _ _ hE _=> ?_,rfl⟩⟩
    rw[j4 hE,cutP_flat,beq_self_eq_true] at ht;cases ht
   ·have hE:∀l∈cutP s,isL l:=by
     by_cases h0:s=[]
     ·subst h0;intro l hl;cases hl
     ·have he:endP s=true:=by
       rw[←beq_iff_eq.1 ht]
       exact j5 (cutP_nil h0)
      rcases LN_all (LN_cut s.length s (Nat.le_refl _)) with h|h
      ·exact h
      ·rw[cutP_flat] at h;rw[h.2] at he;cases he
    rw[cond_true,groups_I hS,Option.bind_some]
    dsimp only
    cases hg:goodGs gs
    ·refine⟨([],1,false,()),rfl,.inr ⟨fun gs' _ h1 _ h3=> ?_,rfl⟩⟩
     rw[GQ_uniq h1 j1,hg] at h3;cases h3
    ·exact⟨(gs,0,true,()),rfl,.inl ⟨gs,hs,j1,hE,hg,rfl⟩⟩
  ·rw[j2,Option.bind_some]
   refine⟨([],1,false,()),rfl,.inr ⟨fun gs _ h1 _ h3=>j1 gs h1 ?_,rfl⟩⟩
   unfold goodGs at h3
   rw[Bool.and_eq_true,decide_eq_true_eq] at h3
   simpa using h3.1
 ·rw[decide_eq_false (by omega:¬(s.length:Int)≤3000)]
  exact⟨([],1,false,()),rfl,.inr ⟨fun gs h _ _ _=>hs h,rfl⟩⟩
end R.U
end

section
/- Groups, as the reference reads them. -/
open Go Go.Dn
namespace R.U
set_option linter.unusedVariables false
theorem countT_eq (a m:Nat):countT a m=Go.Dn.countT a m:=by
 unfold countT Go.Dn.countT numb
 by_cases h:m=1
 ·rw[if_pos h,if_pos h,List.append_nil]
 ·rw[if_neg h,if_neg h];rfl
theorem countT_ch {a m:Nat}:∀c∈countT a m,isDg c=true∨c=44:=by
 intro c hc
 rw[countT_eq] at hc
 unfold Go.Dn.countT at hc
 rcases List.mem_append.1 hc with h|h
 ·exact .inl (List.all_eq_true.1 (digits_ok _).1 c h)
 ·split at h
  ·cases h
  ·rcases List.mem_cons.1 h with h|h
   ·exact .inr h
   ·exact .inl (List.all_eq_true.1 (digits_ok _).1 c h)
theorem countT_no {a m:Nat}{d:UInt8}(h1:isDg d=false)(h2:d≠44):d∉countT a m:=fun h=>by
 rcases countT_ch d h with h|h
 ·rw[h1] at h;cases h
 ·exact h2 h
theorem countT_big {a m:Nat}(ha:a≤999)(hm:999<m)(hm2:m≤9999):countP (countT a m)=none:=by
 have h44:∀u,(44:UInt8)∉Lib.decDigits u:=fun u hu=>by
  have:=List.all_eq_true.1 (digits_ok u).1 44 hu
  cases this
 rw[countT_eq]
 unfold Go.Dn.countT
 rw[if_neg (by omega:¬m=1),if_pos (by omega:0<m)]
 unfold countP
 rw[comma_at _ (h44 _)]
 dsimp only
 obtain⟨d1,d2⟩:=canon_dec (n:=m) (by omega)
 obtain⟨c1,c2⟩:=canon_dec (n:=a+1) (by omega)
 rw[if_pos ⟨c1,d1⟩,c2,d2]
 unfold rngP
 rw[if_neg (by omega)]
theorem countT_inj {a m m':Nat}(ha:a≤999)(hm:m≤999)(hm':m'≤9999)(h:countT a m=countT a m'):m=m':=by
 have h1:countP (countT a m)=some ((a:Int),(m:Int)):=by rw[countT_eq];exact countP_T ha hm
 by_cases h9:m'≤999
 ·have h2:countP (countT a m')=some ((a:Int),(m':Int)):=by rw[countT_eq];exact countP_T ha h9
  rw[h,h2] at h1
  have:=(Prod.mk.inj (Option.some.inj h1)).2
  omega
 ·rw[h,countT_big ha (by omega) hm'] at h1;cases h1
theorem hdP_isL {o f:List UInt8}(h1:(10:UInt8)∉o)(h2:(10:UInt8)∉f):isL (hdP o f):=by
 refine⟨hdQ o f,hdP_Q o f,?_⟩
 unfold hdQ
 simp[h1,h2]
def hdC (a m b k:Int):List UInt8:=hdP (countT a.toNat m.toNat) (countT b.toNat k.toNat)
theorem headT_hd (x:PV Y_impl_Group):headT x=hdP (countT x.1.toNat (sideL x.2.2.1 3).length) (countT x.2.1.toNat (sideL x.2.2.1 2).length):=rfl
theorem hdC_isL (a m b k:Int):isL (hdC a m b k):=hdP_isL (countT_no (by decide) (by decide)) (countT_no (by decide) (by decide))
theorem headT_isL (x:PV Y_impl_Group):isL (headT x):=hdP_isL (countT_no (by decide) (by decide)) (countT_no (by decide) (by decide))
theorem hd_same {a m b k:Int}{rows:RW}(h:((sideL rows 3).length:Int)=m∧((sideL rows 2).length:Int)=k):headT (a,(b,(rows,())))=hdC a m b k:=by
 rw[headT_hd]
 unfold hdC
 rw[←h.1,←h.2,toNat_cast,toNat_cast]
theorem hd_diff {a m b k:Int}{rows:RW}(hr:rows.length≤3000)(ha:0≤a∧a≤999∧0≤m∧m≤999)(hb:0≤b∧b≤999∧0≤k∧k≤999)(h:¬(((sideL rows 3).length:Int)=m∧((sideL rows 2).length:Int)=k)):hdC a m b k≠headT (a,(b,(rows,()))):=by
 intro e
 rw[headT_hd] at e
 unfold hdC at e
 obtain⟨e1,e2⟩:=hdP_inj e (countT_no (by decide) (by decide)) (countT_no (by decide) (by decide)) (countT_no (by decide) (by decide)) (countT_no (by decide) (by decide))
 have l1:=side_len (rows:=rows) (c:=3)
 have l2:=side_len (rows:=rows) (c:=2)
 have q1:=countT_inj (by omega) (by omega) (by show(sideL rows 3).length≤9999;omega) e1
 have q2:=countT_inj (by omega) (by omega) (by show(sideL rows 2).length≤9999;omega) e2
 refine h ⟨?_,?_⟩
 ·have:m.toNat=(sideL rows 3).length:=q1
  omega
 ·have:k.toNat=(sideL rows 2).length:=q2
  omega
theorem textL_S (l:TX)(hl:l.length≤3000)(h:∀s∈l,s.length≤3000):f_S_l1Text l=some ((l.flatten,()),())∧l.flatten.length≤3000*l.length:=by
 have hF:=fix_fold (B:=fun d=>b_S_l1Text_3 d.1 d.2.1 d.2.2.1 d.2.2.2.1) l (fun(o:List UInt8) s=>o++s) (fun o i=>(o,l,(l.length:Int),(i:Int),())) (fun o=>(o,())) (fun i o=>o.length≤3000*i)
  (fun i hi o hI=>by
    have h0:=h _ (List.getElem_mem hi)
    refine⟨by rw[List.length_append];omega,?_⟩
    show b_S_l1Text_3 o l l.length i=_
    unfold b_S_l1Text_3
    rw[decide_eq_true (by omega:(i:Int)<(l.length:Int)),cond_true,inB_lt hi,cond_true,toNat_cast,getD_of hi,decide_eq_true (by omega),cond_true,wrap64 (by omega) (by omega)]
    rfl)
  (fun o hI=>by
    show b_S_l1Text_3 o l l.length l.length=_
    unfold b_S_l1Text_3
    rw[decide_eq_false (Int.lt_irrefl _),cond_false]) [] (Nat.zero_le _)
 have hm:∀(l:TX) (o:List UInt8),l.foldl (fun(o:List UInt8) s=>o++s) o=o++l.flatten:=by
  intro l
  induction l with
  |nil=>intro o;simp
  |cons s l ih=>intro o;rw[List.foldl_cons,ih,List.flatten_cons,List.append_assoc]
 have h2:=hF.2
 rw[hm,List.nil_append] at h2
 refine⟨?_,h2⟩
 unfold f_S_l1Text
 rw[show w_S_l1Text_3 ([],l,(l.length:Int),0,())=_ from hF.1,Option.bind_some]
 dsimp only
 rw[hm,List.nil_append]
theorem head_end {l:List UInt8}(h:endP l=true):l=plainB l++[10]:=by
 unfold plainB
 rw[h,cond_true]
 unfold endP at h
 have:=List.take_append_drop (l.length -1) l
 rw[beq_iff_eq.1 h] at this
 exact this.symm
theorem step_S6 (l:List UInt8)(rest:TX)(out:GR)(want:List UInt8)(hr:rest.length≤2999)(hLN:LN (l::rest))(h3:∀x∈l::rest,x.length≤3000)(ho:out.length≤3000)(hw:want.length≤10000000*out.length):
 (∃(o f:List UInt8) (a m b k:Int) (rows:RW) (u r:TX),HeadIs l o f a m b k∧rest=u++r∧Rw rows 3000∧((rowsQ rest.length rest m k=some (rows,r))∨(rowsQ rest.length rest m k=none∧¬(((sideL rows 3).length:Int)=m∧((sideL rows 2).length:Int)=k)))∧
   u.flatten.length≤9000000∧b_S_ReadUnified_6 (l::rest) out want=some (.inl (r,out++[(a,(b,(rows,())))],want++(hdC a m b k++u.flatten),())))∨
 ((∀o f a m b k,¬HeadIs l o f a m b k)∧b_S_ReadUnified_6 (l::rest) out want=some (.inr (.inr ([],1,false,())))):=by
 have hl:=h3 l (List.mem_cons_self ..)
 have hl1:1≤l.length:=List.length_pos_iff.2 hLN.1
 have hpl:=plainB_len l
 have hpos:decide ((((l::rest:TX)).length:Int)>0)=true:=decide_eq_true (by simp)
 have e0:inB 0 (l::rest:TX).length=true:=inB_lt (i:=0) (by simp)
 have eg:(l::rest:TX).getD ((0:Int).toNat) []=l:=rfl
 have hqp:∀{o f:List UInt8},endP l=true→(l=hdP o f↔plainB l=hdQ o f):=by
  intro o f he
  have:=head_end he
  constructor
  ·intro h
   rw[h,hdP_Q] at this
   rw[h,hdP_Q]
   exact(List.append_cancel_right this).symm
  ·intro h
   rw[this,h,←hdP_Q]
 rcases head_S (plainB l) (by omega) with⟨o,f,a,m,b,k,hp,c1,c2,hT⟩|⟨hno,g,m,k,hT⟩
 ·have g1:=countP_rng c1
  have g2:=countP_rng c2
  obtain⟨rows,u,r,j1,j2,j3,j4⟩:=rows_S' rest.length rest [] rest [] m k rfl (Nat.le_refl _) (by omega) hLN.2.2 (fun x hx=>h3 x (List.mem_cons_of_mem _ hx)) ⟨fun r hr=>(by cases hr),Nat.zero_le _⟩ (by omega) (by omega)
  rw[List.nil_append] at j2 j3
  have hul:u.length+r.length=rest.length:=by rw[j1];simp
  obtain⟨t1,t2⟩:=textL_S u (by omega) (fun x hx=>h3 x (List.mem_cons_of_mem _ (by rw[j1];simp[hx])))
  have hR:f_S_l7Rows rest m k=some ((rows,((u.length:Nat):Int),()),()):=by
   unfold f_S_l7Rows
   rw[show w_S_l7Rows_3 (rest,m,k,[],0,())=some (rows,(((([]:TX).length+u.length:Nat)):Int),()) from j3,Option.bind_some]
   dsimp only
   rw[show([]:TX).length+u.length=u.length by simp]
  have hC1:f_S_l4Count a m=some ((countT a.toNat m.toNat,()),()):=by
   have:=count_S a.toNat m.toNat (by omega) (by omega)
   rwa [Int.toNat_of_nonneg g1.1,Int.toNat_of_nonneg g1.2.2.1] at this
  have hC2:f_S_l4Count b k=some ((countT b.toNat k.toNat,()),()):=by
   have:=count_S b.toNat k.toNat (by omega) (by omega)
   rwa [Int.toNat_of_nonneg g2.1,Int.toNat_of_nonneg g2.2.2.1] at this
  have k1:=countT_len (a:=a.toNat) (m:=m.toNat) (by omega) (by omega)
  have k2:=countT_len (a:=b.toNat) (m:=k.toNat) (by omega) (by omega)
  have hcu:cutL 1 (((1+u.length:Nat)):Int) (l::rest:TX)=u:=by
   unfold cutL
   rw[toNat_cast,j1,show((1:Int)).toNat=1 from rfl,Nat.add_comm,List.take_succ_cons,List.drop_succ_cons,List.drop_zero,List.take_left' rfl]
  have hcr:cutL (((1+u.length:Nat)):Int) ((l::rest:TX).length:Int) (l::rest:TX)=r:=by
   unfold cutL
   rw[toNat_cast,toNat_cast,List.take_length,j1,Nat.add_comm,List.drop_succ_cons,List.drop_left' rfl]
  have hgo:b_S_ReadUnified_6 (l::rest) out want=bif !(endP l) then some (.inr (.inr ([],1,false,()))) else some (.inl (r,out++[(a,(b,(rows,())))],want++(hdC a m b k++u.flatten),())):=by
   unfold b_S_ReadUnified_6
   rw[hpos,cond_true,e0,cond_true,eg,plain_S l hl1 (by omega),Option.bind_some,hT,Option.bind_some]
   dsimp only
   rw[Bool.not_true,cond_false,drop_ok,cond_true,drop_one,hR,Option.bind_some,hC1,Option.bind_some]
   dsimp only
   rw[decide_eq_true (by simp only[List.length_cons,List.length_nil];omega),cond_true,decide_eq_true (by simp only[List.length_append,List.length_cons,List.length_nil];omega),cond_true,hC2,Option.bind_some]
   dsimp only
   rw[decide_eq_true (by simp only[List.length_append,List.length_cons,List.length_nil];omega),cond_true,decide_eq_true (by simp only[List.length_append,List.length_cons,List.length_nil];omega),cond_true,wrap64 (by omega) (by omega),show(1:Int)+((u.length:Nat):Int)=((1+u.length:Nat):Int) by omega]
   rw[show cutB 1 (((1+u.length:Nat)):Int) (l::rest:TX).length=true from by unfold cutB;simp;omega,cond_true,hcu,t1,Option.bind_some]
   dsimp only
   rw[decide_eq_true (by simp only[List.length_append,List.length_cons,List.length_nil];omega),cond_true,decide_eq_true (by simp only[List.length_append,List.length_cons,List.length_nil];omega),cond_true,cond_true,ends_S l hl1 (by omega),Option.bind_some]
   dsimp only
   rw[hcr,show cutB (((1+u.length:Nat)):Int) ((l::rest:TX).length:Int) (l::rest:TX).length=true from by unfold cutB;simp;omega,cond_true,roomB_ok (by simp;omega),cond_true]
   rfl
  cases he:endP l with
  |true=>
   rw[he] at hgo
   exact .inl ⟨o,f,a,m,b,k,rows,u,r,⟨(hqp he).2 hp,c1,c2⟩,j1,j2,j4,by omega,hgo⟩
  |false=>
   rw[he] at hgo
   refine .inr ⟨fun o f a m b k h=> ?_,hgo⟩
   rw[h.1,hdP_end] at he;cases he
 ·refine .inr ⟨fun o f a m b k h=> ?_,?_⟩
  ·have he:endP l=true:=by rw[h.1,hdP_end]
   exact hno o f a m b k ((hqp he).1 h.1) h.2.1 h.2.2
  ·unfold b_S_ReadUnified_6
   rw[hpos,cond_true,e0,cond_true,eg,plain_S l hl1 (by omega),Option.bind_some,hT,Option.bind_some]
   rfl
def Bad (want:List UInt8)(out:GR):Prop:=∃A h1 h2 B C,isL h1∧isL h2∧h1≠h2∧want=A++(h1++B)∧textG out=A++(h2++C)
theorem textG_snoc (out:GR)(x:PV Y_impl_Group):textG (out++[x])=textG out++groupT x:=by
 unfold textG
 rw[List.flatMap_append,List.flatMap_singleton]
theorem Bad.more {want:List UInt8}{out:GR}(h:Bad want out)(W:List UInt8)(x:PV Y_impl_Group):Bad (want++W) (out++[x]):=by
 obtain⟨A,h1,h2,B,C,q1,q2,q3,q4,q5⟩:=h
 exact⟨A,h1,h2,B++W,C++groupT x,q1,q2,q3,by rw[q4];simp,by rw[textG_snoc,q5];simp⟩
theorem Bad.ne {want:List UInt8}{out:GR}(h:Bad want out):textG out≠want:=by
 obtain⟨A,h1,h2,B,C,q1,q2,q3,q4,q5⟩:=h
 rw[q4,q5]
 intro e
 have:=congrArg cutP (List.append_cancel_left e)
 rw[cutP_isL q2,cutP_isL q1] at this
 exact q3 (List.cons.inj this).1.symm
theorem groups_S':∀(n:Nat) (ls:TX) (out:GR) (want:List UInt8),ls.length≤n→out.length+ls.length≤3000→LN ls→(∀x∈ls,x.length≤3000)→(∀x∈out,Rw x.2.2.1 3000)→want.length≤10000000*out.length→
 (w_S_ReadUnified_6 (ls,out,want,())=some (.inr ([],1,false,()))∧∀gs,¬GQ ls gs)∨
 ∃(out':GR) (want':List UInt8),w_S_ReadUnified_6 (ls,out,want,())=some (.inl (out',want',()))∧out'.length≤3000∧(∀x∈out',Rw x.2.2.1 3000)∧(Bad want out→Bad want' out')∧(ls≠[]∨out≠[]→out'≠[])∧((¬∀l∈ls,isL l)→endP want'=false)∧
  ((∃gs,GQ ls gs∧out'=out++gs∧(want=textG out→(∀l∈ls,isL l)→want'=textG out'))∨((∀gs,¬GQ ls gs)∧(want=textG out→(∀l∈ls,isL l)→Bad want' out'))):=by
 intro n
 induction n with
 |zero=>
  intro ls out want hl h3 hn hx ho hw
  obtain rfl:=List.eq_nil_of_length_eq_zero (Nat.le_zero.1 hl)
  exact .inr ⟨out,want,fix_end rfl,by omega,ho,id,fun h=>h.elim (fun h=>absurd rfl h) id,fun h=>absurd (fun l hl=>by cases hl) h,.inl ⟨[],.nil,by simp,fun h _=>h⟩⟩
 |succ n ih=>
  intro ls out want hl h3 hn hx ho hw
  cases ls with
  |nil=>exact .inr ⟨out,want,fix_end rfl,by omega,ho,id,fun h=>h.elim (fun h=>absurd rfl h) id,fun h=>absurd (fun l hl=>by cases hl) h,.inl ⟨[],.nil,by simp,fun h _=>h⟩⟩
  |cons l rest=>
   rw[List.length_cons] at hl h3
   rcases step_S6 l rest out want (by omega) hn hx (by omega) hw with⟨o,f,a,m,b,k,rows,u,r,hH,j1,j2,j3,j4,j5⟩|⟨hno,hT⟩
   ·have hst:w_S_ReadUnified_6 (l::rest,out,want,())=w_S_ReadUnified_6 (r,out++[(a,(b,(rows,())))],want++(hdC a m b k++u.flatten),()):=fix_go j5
    rw[hst]
    have hrl:u.length+r.length=rest.length:=by rw[j1];simp
    have k1:=countT_len (a:=a.toNat) (m:=m.toNat) (by have:=countP_rng hH.2.1;omega) (by have:=countP_rng hH.2.1;omega)
    have k2:=countT_len (a:=b.toNat) (m:=k.toNat) (by have:=countP_rng hH.2.2;omega) (by have:=countP_rng hH.2.2;omega)
    have hhd:(hdC a m b k).length≤100:=by unfold hdC hdP;simp only[List.length_append,List.length_cons,List.length_nil];omega
    have hrn:LN r:=by have:=hn.2.2;rw[j1] at this;exact LN_tail this
    have hlL:isL l:=by rw[hH.1];exact hdP_isL (count_no10 hH.2.1) (count_no10 hH.2.2)
    have ih1:=ih r (out++[(a,(b,(rows,())))]) (want++(hdC a m b k++u.flatten)) (by omega) (by rw[List.length_append];simp;omega) hrn (fun x hx'=>hx x (List.mem_cons_of_mem _ (by rw[j1];simp[hx'])))
     (fun x hx'=>by
       rcases List.mem_append.1 hx' with hx'|hx'
       ·exact ho x hx'
       ·obtain rfl:=List.mem_singleton.1 hx';exact j2) (by simp only[List.length_append,List.length_cons,List.length_nil];omega)
    have hE:(∀x∈l::rest,isL x)→∀x∈r,isL x:=fun h x hx'=>h x (List.mem_cons_of_mem _ (by rw[j1];simp[hx']))
    have hgood:rowsQ rest.length rest m k=some (rows,r)→want=textG out→(∀x∈l::rest,isL x)→want++(hdC a m b k++u.flatten)=textG (out++[(a,(b,(rows,())))]):=by
     intro hq he hL
     obtain⟨q1,_⟩:=rowsQ_text _ (fun x hx'=>hL x (List.mem_cons_of_mem _ hx')) hq
     rw[j1,List.flatten_append] at q1
     rw[textG_snoc,←he,List.append_cancel_right q1,←hd_same (rowsQ_side _ hq)]
     rfl
    have hbad:¬(((sideL rows 3).length:Int)=m∧((sideL rows 2).length:Int)=k)→want=textG out→Bad (want++(hdC a m b k++u.flatten)) (out++[(a,(b,(rows,())))]):=by
     intro hd he
     exact⟨want,_,_,u.flatten,rowsT rows,hdC_isL a m b k,headT_isL (a,(b,(rows,()))),hd_diff j2.2 (countP_rng hH.2.1) (countP_rng hH.2.2) hd,rfl,by rw[textG_snoc,←he];rfl⟩
    have hGQ:∀gs,GQ (l::rest) gs→∃rs' r' gs',rowsQ rest.length rest m k=some (rs',r')∧GQ r' gs'∧gs=(a,(b,(rs',())))::gs':=by
     intro gs hg
     cases hg with
     |cons hd' hr' hg'=>
      obtain⟨rfl,rfl,rfl,rfl⟩:=head_uniq hH hd'
      exact⟨_,_,_,hr',hg',rfl⟩
    rcases ih1 with⟨i1,i2⟩|⟨out',want',i1,i2,i3,i4,i5,i6,i7⟩
    ·refine .inl ⟨i1,fun gs hg=> ?_⟩
     obtain⟨rs',r',gs',q1,q2,_⟩:=hGQ gs hg
     rcases j3 with j3|j3
     ·rw[j3] at q1
      obtain⟨rfl,rfl⟩:=Prod.mk.inj (Option.some.inj q1)
      exact i2 _ q2
     ·rw[j3.1] at q1;cases q1
    ·refine .inr ⟨out',want',i1,i2,i3,fun h=>i4 (h.more _ _),fun _=>i5 (.inr (by simp)),fun hU=> ?_,?_⟩
     ·by_cases hr:∀x∈r,isL x
      ·have hu:u.flatten≠[]∧endP u.flatten=false:=by
        rcases LN_all hn with h|h
        ·exact absurd h hU
        ·rcases LN_all hn.2.2 with h2|⟨h2,h4⟩
         ·exact absurd (fun x hx'=>(List.mem_cons.1 hx').elim (fun e=>e▸hlL) (h2 x)) hU
         ·rw[j1,List.flatten_append] at h2 h4
          by_cases hr0:r=[]
          ·subst hr0
           rw[List.flatten_nil,List.append_nil] at h2 h4
           exact⟨h2,h4⟩
          ·have hrf:r.flatten≠[]:=by
            obtain⟨y,ys,rfl⟩:=List.exists_cons_of_ne_nil hr0
            rw[List.flatten_cons]
            have:=hrn.1
            simp[this]
           rcases LN_all hrn with h5|⟨_,h5⟩
           ·have h6:∀{q:TX},q≠[]→(∀x∈q,isL x)→endP q.flatten=true:=by
             intro q
             induction q with
             |nil=>intro h;exact absurd rfl h
             |cons y q ihq=>
              intro _ hq
              rw[List.flatten_cons]
              by_cases h0:q=[]
              ·subst h0;rw[List.flatten_nil,List.append_nil];exact endP_isL (hq y (List.mem_cons_self ..))
              ·have:=ihq h0 fun x hx'=>hq x (List.mem_cons_of_mem _ hx')
               rw[endP_app (endP_ne this),this]
            rw[endP_app hrf,h6 hr0 h5] at h4;cases h4
           ·exfalso
            have h6:∀{q:TX},q≠[]→(∀x∈q,isL x)→endP q.flatten=true:=by
             intro q
             induction q with
             |nil=>intro h;exact absurd rfl h
             |cons y q ihq=>
              intro _ hq
              rw[List.flatten_cons]
              by_cases h0:q=[]
              ·subst h0;rw[List.flatten_nil,List.append_nil];exact endP_isL (hq y (List.mem_cons_self ..))
              ·have:=ihq h0 fun x hx'=>hq x (List.mem_cons_of_mem _ hx')
               rw[endP_app (endP_ne this),this]
            rw[h6 hr0 hr] at h5;cases h5
       have hr0:r=[]:=by
        refine Classical.byContradiction fun h0=> ?_
        have h7:∀{q p:TX},LN (q++p)→p≠[]→∀x∈q,isL x:=by
         intro q
         induction q with
         |nil=>intro p _ _ x hx';cases hx'
         |cons y q ihq=>
          intro p h hp x hx'
          rcases List.mem_cons.1 hx' with rfl|hx'
          ·exact h.2.1.resolve_right fun q'=>hp (List.append_eq_nil_iff.1 q'.2).2
          ·exact ihq h.2.2 hp x hx'
        have h8:=hn.2.2
        rw[j1] at h8
        exact hU fun x hx'=>(List.mem_cons.1 hx').elim (fun e=>e▸hlL) fun hx'=>by
         rw[j1] at hx'
         rcases List.mem_append.1 hx' with hx'|hx'
         ·exact h7 h8 h0 x hx'
         ·exact hr x hx'
       subst hr0
       have:w_S_ReadUnified_6 ([],out++[(a,(b,(rows,())))],want++(hdC a m b k++u.flatten),())=some (.inl (out++[(a,(b,(rows,())))],want++(hdC a m b k++u.flatten),())):=fix_end rfl
       rw[this] at i1
       have e:=Sum.inl.inj (Option.some.inj i1)
       have e2:want++(hdC a m b k++u.flatten)=want':=congrArg (fun z=>z.2.1) e
       rw[←e2,←List.append_assoc,endP_app hu.1,hu.2]
      ·exact i6 hr
     ·rcases j3 with j3|j3
      ·rcases i7 with⟨gs,q1,q2,q3⟩|⟨q1,q2⟩
       ·exact .inl ⟨(a,(b,(rows,())))::gs,.cons hH j3 q1,by rw[q2];simp,fun he hL=>q3 (hgood j3 he hL) (hE hL)⟩
       ·refine .inr ⟨fun gs hg=> ?_,fun he hL=>q2 (hgood j3 he hL) (hE hL)⟩
        obtain⟨rs',r',gs',q3,q4,_⟩:=hGQ gs hg
        rw[j3] at q3
        obtain⟨rfl,rfl⟩:=Prod.mk.inj (Option.some.inj q3)
        exact q1 _ q4
      ·refine .inr ⟨fun gs hg=> ?_,fun he _=>i4 (hbad j3.2 he)⟩
       obtain⟨rs',r',gs',q3,_⟩:=hGQ gs hg
       rw[j3.1] at q3;cases q3
   ·refine .inl ⟨fix_end hT,fun gs hg=> ?_⟩
    cases hg with
    |cons hd _ _=>exact hno _ _ _ _ _ _ hd
theorem textG_end {out:GR}(h:out≠[]):endP (textG out)=true:=by
 rcases List.eq_nil_or_concat out with rfl|⟨q,x,rfl⟩
 ·exact absurd rfl h
 ·rw[List.concat_eq_append,textG_snoc]
  have h2:endP (groupT x)=true:=by unfold groupT;exact rowsT_end (endP_isL (headT_isL x))
  rw[endP_app (endP_ne h2),h2]
theorem read_S (s:List UInt8):∃res,f_S_ReadUnified s=some (res,())∧
 ((∃gs,s.length≤3000∧GQ (cutP s) gs∧(∀l∈cutP s,isL l)∧goodGs gs=true∧res=(gs,0,true,()))∨
  ((∀gs,s.length≤3000→GQ (cutP s) gs→(∀l∈cutP s,isL l)→goodGs gs=true→False)∧res=([],1,false,()))):=by
 unfold f_S_ReadUnified
 by_cases hs:s.length≤3000
 ·rw[decide_eq_false (by omega:¬(s.length:Int)>3000),cond_false,l1Cut_S s (by omega),Option.bind_some]
  dsimp only
  have hln:=cutP_len s
  rcases groups_S' (cutP s).length (cutP s) [] [] (Nat.le_refl _) (by simp;omega) (LN_cut s.length s (Nat.le_refl _)) (fun x hx=>by have:=cutP_mem hx;omega) (fun x hx=>by cases hx) (Nat.zero_le _) with⟨i1,i2⟩|⟨out',want',i1,i2,i3,i4,i5,i6,i7⟩
  ·rw[i1,Option.bind_some]
   exact⟨([],1,false,()),rfl,.inr ⟨fun gs _ h _ _=>i2 gs h,rfl⟩⟩
  ·rw[i1,Option.bind_some]
   dsimp only
   have hS:SmG out':=smG_of (by omega) i3
   rw[groups_S hS,Option.bind_some]
   dsimp only
   cases hg:goodGs out'
   ·refine⟨([],1,false,()),rfl,.inr ⟨fun gs _ h1 h2 h3=> ?_,rfl⟩⟩
    rcases i7 with⟨gs',q1,q2,_⟩|⟨q1,_⟩
    ·rw[q2,List.nil_append,GQ_uniq q1 h1,h3] at hg;cases hg
    ·exact q1 gs h1
   ·rw[Bool.not_true,cond_false,groupsText_S' hS hg,Option.bind_some,Option.bind_some]
    dsimp only
    by_cases hE:∀l∈cutP s,isL l
    ·rcases i7 with⟨gs,q1,q2,q3⟩|⟨q1,q2⟩
     ·rw[List.nil_append] at q2
      subst q2
      rw[q3 rfl hE,beq_self_eq_true,Bool.not_true,cond_false]
      exact⟨(out',0,true,()),rfl,.inl ⟨out',hs,q1,hE,hg,rfl⟩⟩
     ·rw[beq_eq_false_iff_ne.2 (q2 rfl hE).ne,Bool.not_false,cond_true]
      exact⟨([],1,false,()),rfl,.inr ⟨fun gs _ h _ _=>q1 gs h,rfl⟩⟩
    ·have hne:cutP s≠[]:=fun h=>hE (by rw[h];intro l hl;cases hl)
     have h1:=textG_end (i5 (.inl hne))
     have h2:=i6 hE
     have:textG out'≠want':=fun e=>by rw[e,h2] at h1;cases h1
     rw[beq_eq_false_iff_ne.2 this,Bool.not_false,cond_true]
     exact⟨([],1,false,()),rfl,.inr ⟨fun gs _ _ h _=>hE h,rfl⟩⟩
 ·rw[decide_eq_true (by omega:(s.length:Int)>3000)]
  exact⟨([],1,false,()),rfl,.inr ⟨fun gs h _ _ _=>hs h,rfl⟩⟩
end R.U
end

section
/- The same groups: both sides test them alike. -/
open Go Go.Dn
namespace R
set_option linter.unusedVariables false
abbrev DR:PV Y_impl_Row:=dflt Y_impl_Row
abbrev DG:PV Y_impl_Group:=dflt Y_impl_Group
def difR (a b:RW):Bool:=anyN a.length fun i=> !((a.getD i DR).1==(b.getD i DR).1&&(a.getD i DR).2.1==(b.getD i DR).2.1)
def difG (x y:PV Y_impl_Group):Bool:= !(x.1==y.1)||(!(x.2.1==y.2.1)||(!((List.length x.2.2.1:Int)==(List.length y.2.2.1:Int))||difR x.2.2.1 y.2.2.1))
def difGs (x y:GR):Bool:=anyN x.length fun i=>difG (x.getD i DG) (y.getD i DG)
theorem rows_eq {a b:RW}(ha:a.length≤1000000)(hl:a.length=b.length):w_slices_Equal_Row_4 (a,b,(a.length:Int),0,())=some (if difR a b then .inr (false,()) else .inl ()):=
 fix_anyN (B:=fun d=>b_slices_Equal_Row_4 d.1 d.2.1 d.2.2.1 d.2.2.2.1) a.length _ (fun i=>(a,b,(a.length:Int),(i:Int),())) (fun _=>.inr (false,())) (.inl ())
  (fun i hi hq=>by
    show b_slices_Equal_Row_4 a b a.length i=_
    unfold b_slices_Equal_Row_4
    rw[decide_eq_true (by omega:(i:Int)<(a.length:Int)),cond_true,inB_lt hi,cond_true,inB_lt (by omega),cond_true,toNat_cast,hq,cond_false,wrap64 (by omega) (by omega)];rfl)
  (fun i hi hq=>by
    show b_slices_Equal_Row_4 a b a.length i=_
    unfold b_slices_Equal_Row_4
    rw[decide_eq_true (by omega:(i:Int)<(a.length:Int)),cond_true,inB_lt hi,cond_true,inB_lt (by omega),cond_true,toNat_cast,hq,cond_true])
  (by
    show b_slices_Equal_Row_4 a b a.length a.length=_
    unfold b_slices_Equal_Row_4
    rw[decide_eq_false (Int.lt_irrefl _),cond_false])
theorem rows_eqS {t:GR}{g h:PV Y_impl_Group}{L:GR}{n k:Int}(ha:List.length g.2.2.1≤1000000)(hl:List.length g.2.2.1=List.length h.2.2.1):w_S_l8SameGroups_10 (t,g,h,L,n,k,(List.length g.2.2.1:Int),0,())=some (if difR g.2.2.1 h.2.2.1 then .inr (false,()) else .inl (t,L,n,k,())):=
 fix_anyN (B:=fun d=>b_S_l8SameGroups_10 d.1 d.2.1 d.2.2.1 d.2.2.2.1 d.2.2.2.2.1 d.2.2.2.2.2.1 d.2.2.2.2.2.2.1 d.2.2.2.2.2.2.2.1) (List.length g.2.2.1) _ (fun i=>(t,g,h,L,n,k,(List.length g.2.2.1:Int),(i:Int),())) (fun _=>.inr (false,())) (.inl (t,L,n,k,()))
  (fun i hi hq=>by
    show b_S_l8SameGroups_10 t g h L n k (List.length g.2.2.1) i=_
    unfold b_S_l8SameGroups_10
    rw[decide_eq_true (by omega:(i:Int)<(List.length g.2.2.1:Int)),cond_true,inB_lt hi,cond_true,inB_lt (by omega),cond_true,toNat_cast,hq,cond_false,wrap64 (by omega) (by omega)];rfl)
  (fun i hi hq=>by
    show b_S_l8SameGroups_10 t g h L n k (List.length g.2.2.1) i=_
    unfold b_S_l8SameGroups_10
    rw[decide_eq_true (by omega:(i:Int)<(List.length g.2.2.1:Int)),cond_true,inB_lt hi,cond_true,inB_lt (by omega),cond_true,toNat_cast,hq,cond_true])
  (by
    show b_S_l8SameGroups_10 t g h L n k (List.length g.2.2.1) (List.length g.2.2.1)=_
    unfold b_S_l8SameGroups_10
    rw[decide_eq_false (Int.lt_irrefl _),cond_false])
theorem sameG_I (x y:PV Y_impl_Group)(hx:List.length x.2.2.1≤1000000):f_I_sameGroups_1 x y=some ((!difG x y,()),()):=by
 unfold f_I_sameGroups_1 difG
 cases x.1==y.1
 ·rfl
 ·rw[cond_true]
  cases x.2.1==y.2.1
  ·rfl
  ·rw[cond_true]
   unfold f_slices_Equal_Row
   by_cases hl:List.length x.2.2.1=List.length y.2.2.1
   ·rw[show((List.length x.2.2.1:Int)==(List.length y.2.2.1:Int))=true from beq_iff_eq.2 (by omega),Bool.not_true,cond_false,rows_eq hx hl,Option.bind_some]
    cases difR x.2.2.1 y.2.2.1<;>rfl
   ·rw[show((List.length x.2.2.1:Int)==(List.length y.2.2.1:Int))=false from beq_eq_false_iff_ne.2 (by omega)]
    rfl
def sameP (x y:GR):Bool:=bif (x.length:Int)==(y.length:Int) then !difGs x y else false
theorem sameGs_I {x:GR}(y:GR)(hx:x.length≤1000000)(hr:∀g∈x,List.length g.2.2.1≤1000000):f_I_sameGroups x y=some ((sameP x y,()),()):=by
 unfold f_I_sameGroups sameP
 by_cases hl:x.length=y.length
 ·rw[show((x.length:Int)==(y.length:Int))=true from beq_iff_eq.2 (by omega),Bool.not_true,cond_false,cond_true]
  rw[show w_I_sameGroups_117_4 (x,y,false,x,y,y,x,(x.length:Int),0,())=some (if difGs x y then .inr (x,y,false,x,y,false,()) else .inl (x,y,false,x,y,())) from
   fix_anyN (B:=fun d=>b_I_sameGroups_117_4 d.1 d.2.1 d.2.2.1 d.2.2.2.1 d.2.2.2.2.1 d.2.2.2.2.2.1 d.2.2.2.2.2.2.1 d.2.2.2.2.2.2.2.1 d.2.2.2.2.2.2.2.2.1) x.length (fun i=>difG (x.getD i DG) (y.getD i DG)) (fun i=>(x,y,false,x,y,y,x,(x.length:Int),(i:Int),())) (fun _=>.inr (x,y,false,x,y,false,())) (.inl (x,y,false,x,y,()))
   (fun i hi hq=>by
     show b_I_sameGroups_117_4 x y false x y y x x.length i=_
     unfold b_I_sameGroups_117_4
     rw[decide_eq_true (by omega:(i:Int)<(x.length:Int)),cond_true,inB_lt hi,cond_true,inB_lt (by omega),cond_true,toNat_cast,sameG_I _ _ (by rw[getD_of hi];exact hr _ (List.getElem_mem hi)),Option.bind_some]
     dsimp only
     rw[hq,Bool.not_false,Bool.not_true,cond_false,wrap64 (by omega) (by omega)];rfl)
   (fun i hi hq=>by
     show b_I_sameGroups_117_4 x y false x y y x x.length i=_
     unfold b_I_sameGroups_117_4
     rw[decide_eq_true (by omega:(i:Int)<(x.length:Int)),cond_true,inB_lt hi,cond_true,inB_lt (by omega),cond_true,toNat_cast,sameG_I _ _ (by rw[getD_of hi];exact hr _ (List.getElem_mem hi)),Option.bind_some]
     dsimp only
     rw[hq,Bool.not_true,Bool.not_false,cond_true])
   (by
     show b_I_sameGroups_117_4 x y false x y y x x.length x.length=_
     unfold b_I_sameGroups_117_4
     rw[decide_eq_false (Int.lt_irrefl _),cond_false])]
  cases difGs x y<;>rfl
 ·rw[show((x.length:Int)==(y.length:Int))=false from beq_eq_false_iff_ne.2 (by omega)]
  rfl
theorem sameGs_S {x:GR}(y:GR)(hx:x.length≤1000000)(hr:∀g∈x,List.length g.2.2.1≤1000000):f_S_l8SameGroups x y=some ((sameP x y,()),()):=by
 unfold f_S_l8SameGroups sameP
 by_cases hl:x.length=y.length
 ·rw[show((x.length:Int)==(y.length:Int))=true from beq_iff_eq.2 (by omega),Bool.not_true,cond_false,cond_true]
  have body:∀i,i<x.length→b_S_l8SameGroups_4 y x (x.length:Int) (i:Int)=if difG (x.getD i DG) (y.getD i DG)=true then some (.inr (.inr (false,()))) else some (.inl (y,x,(x.length:Int),((i+1:Nat):Int),())):=by
   intro i hi
   have hrow:List.length (x.getD i DG).2.2.1≤1000000:=by rw[getD_of hi];exact hr _ (List.getElem_mem hi)
   unfold b_S_l8SameGroups_4
   rw[decide_eq_true (by omega:(i:Int)<(x.length:Int)),cond_true,inB_lt hi,cond_true,inB_lt (by omega),cond_true,toNat_cast]
   unfold difG
   generalize x.getD i DG=g at*
   generalize y.getD i DG=h
   cases g.1==h.1
   ·rfl
   ·rw[Bool.not_true,cond_false,Bool.false_or]
    cases g.2.1==h.2.1
    ·rfl
    ·rw[Bool.not_true,cond_false,Bool.false_or,Option.bind_some]
     dsimp only
     by_cases hl2:List.length g.2.2.1=List.length h.2.2.1
     ·rw[show((List.length g.2.2.1:Int)==(List.length h.2.2.1:Int))=true from beq_iff_eq.2 (by omega),Bool.not_true,cond_false,Bool.false_or,rows_eqS hrow hl2,Option.bind_some]
      cases difR g.2.2.1 h.2.2.1
      ·rw[if_neg (by simp),if_neg (by simp)]
       dsimp only
       rw[wrap64 (by omega) (by omega)];rfl
      ·rfl
     ·rw[show((List.length g.2.2.1:Int)==(List.length h.2.2.1:Int))=false from beq_eq_false_iff_ne.2 (by omega),Bool.not_false,cond_true,Bool.true_or,if_pos rfl]
  rw[show w_S_l8SameGroups_4 (y,x,(x.length:Int),0,())=some (if difGs x y then .inr (false,()) else .inl ()) from
   fix_anyN (B:=fun d=>b_S_l8SameGroups_4 d.1 d.2.1 d.2.2.1 d.2.2.2.1) x.length (fun i=>difG (x.getD i DG) (y.getD i DG)) (fun i=>(y,x,(x.length:Int),(i:Int),())) (fun _=>.inr (false,())) (.inl ())
   (fun i hi hq=>by
     show b_S_l8SameGroups_4 y x x.length i=_
     rw[body i hi,hq,if_neg (by simp)])
   (fun i hi hq=>by
     show b_S_l8SameGroups_4 y x x.length i=_
     rw[body i hi,hq,if_pos rfl])
   (by
     show b_S_l8SameGroups_4 y x x.length x.length=_
     unfold b_S_l8SameGroups_4
     rw[decide_eq_false (Int.lt_irrefl _),cond_false])]
  cases difGs x y<;>rfl
 ·rw[show((x.length:Int)==(y.length:Int))=false from beq_eq_false_iff_ne.2 (by omega)]
  rfl
theorem good_small {gs:GR}(h:goodGs gs=true):gs.length≤1000000∧∀g∈gs,List.length g.2.2.1≤1000000:=by
 refine⟨?_,fun g hg=> ?_⟩
 ·unfold goodGs at h
  rw[Bool.and_eq_true,decide_eq_true_eq] at h
  have:=h.1
  omega
 ·obtain⟨i,hi,rfl⟩:=List.mem_iff_getElem.1 hg
  have:=(rowsOk (good_mem' h hi).1).1
  omega
theorem unified_both (s:List UInt8):∃(gs:GR) (c:Int) (q:Bool),f_I_ReadUnified s=some ((gs,c,q,()),())∧f_S_ReadUnified s=some ((gs,c,q,()),())∧(goodGs gs=true∨gs=[]):=by
 obtain⟨r1,e1,h1⟩:=U.read_I s
 obtain⟨r2,e2,h2⟩:=U.read_S s
 rcases h1 with⟨gs,a1,a2,a3,a4,rfl⟩|⟨a1,rfl⟩
 ·rcases h2 with⟨gs',b1,b2,b3,b4,rfl⟩|⟨b1,rfl⟩
  ·obtain rfl:=U.GQ_uniq a2 b2
   exact⟨gs,0,true,e1,e2,.inl a4⟩
  ·exact absurd trivial fun _=>b1 gs a1 a2 a3 a4
 ·rcases h2 with⟨gs',b1,b2,b3,b4,rfl⟩|⟨b1,rfl⟩
  ·exact absurd trivial fun _=>a1 gs' b1 b2 b3 b4
  ·exact⟨[],1,false,e1,e2,.inr rfl⟩
theorem sides_both (a b:List UInt8):∃p q:Bool,f_I_SameSides a b=some ((p,q,()),())∧f_S_SameSides a b=some ((p,q,()),()):=by
 obtain⟨g1,c1,q1,e1,e2,h1⟩:=context_both a
 obtain⟨g2,c2,q2,e3,e4,h2⟩:=unified_both b
 have hs:g1.length≤1000000∧∀g∈g1,List.length g.2.2.1≤1000000:=by
  rcases h1 with h1|rfl
  ·exact good_small h1
  ·exact⟨Nat.zero_le _,fun g hg=>by cases hg⟩
 unfold f_I_SameSides f_S_SameSides
 rw[e1,e2,Option.bind_some,Option.bind_some]
 dsimp only
 rw[e3,e4,Option.bind_some,Option.bind_some]
 dsimp only
 cases q1
 ·exact⟨false,false,rfl,rfl⟩
 ·rw[Bool.not_true,cond_false,Option.bind_some,Option.bind_some]
  dsimp only
  cases q2
  ·exact⟨false,false,rfl,rfl⟩
  ·rw[Bool.not_true,cond_false,cond_false,sameGs_I g2 hs.1 hs.2,sameGs_S g2 hs.1 hs.2]
   exact⟨_,true,rfl,rfl⟩
theorem law_SameSides (t0 t1:PV .str)(hw:WfV .str t0)(hw1:WfV .str t1):f_L_FnExactSameSides t0 t1=some ((true,()),()):=by
 unfold f_L_FnExactSameSides
 cases decide ((List.length t0:Int)>1048576)
 ·cases decide ((List.length t1:Int)>1048576)
  ·obtain⟨p,q,e1,e2⟩:=sides_both t0 t1
   rw[cond_false,cond_false,e2,Option.bind_some,e1,Option.bind_some]
   dsimp only
   rw[beq_self_eq_true,Bool.not_true,cond_false,Option.bind_some,beq_self_eq_true]
   rfl
  ·rfl
 ·rfl
end R
end
