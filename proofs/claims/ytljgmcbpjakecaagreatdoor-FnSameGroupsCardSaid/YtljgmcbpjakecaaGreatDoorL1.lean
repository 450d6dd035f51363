/- Parts of the proof: Da Db Dc Dd De Df Dg Dh Di Dj Dk Dl Dm Dn Do Dp Dq Dr Ds. -/
import Derived.Laws.AppendOwn
import Derived.Laws.OwnMore
import Derived.Laws.MakeOwn
import Derived.Below
import Derived.Calls
import Derived.Orders
import Derived.Laws.Entries
import Derived.Laws.Rows
import Derived.Laws.Tables
import Derived.Laws.CopyRow
import Derived.Laws.Cells
import Derived.WalkKit
import Derived.Laws.BytesArg
import Derived.Laws.BytesString
import Derived.Lib.ConvBytes
import Derived.Great.BuildSlice
set_option linter.unusedVariables false
section
/- Pure values of the program's types, how they stand in the model's memory, and that what is told of them outlives changes elsewhere. -/
theorem ya0:type_of% @Option.bind_some:= @Option.bind_some
theorem yb0:type_of% @cond_true:= @cond_true
theorem yc0:type_of% @decide_eq_true:= @decide_eq_true
theorem yd0:type_of% @cond_false:= @cond_false
theorem ye0:type_of% @List.length_append:= @List.length_append
theorem yf0:type_of% @List.length_cons:= @List.length_cons
theorem yg0:type_of% @List.mem_cons_of_mem:= @List.mem_cons_of_mem
theorem yh0:type_of% @Bool.and_eq_true:= @Bool.and_eq_true
theorem yi0:type_of% @decide_eq_false:= @decide_eq_false
theorem yj0:type_of% @List.append_assoc:= @List.append_assoc
theorem yk0:type_of% @List.mem_cons_self:= @List.mem_cons_self
theorem yl0:type_of% @Option.some.inj:= @Option.some.inj
theorem ym0:type_of% @Nat.le_refl:= @Nat.le_refl
theorem yn0:type_of% @Option.some.injEq:= @Option.some.injEq
theorem yo0:type_of% @beq_eq_false_iff_ne:= @beq_eq_false_iff_ne
theorem yp0:type_of% @List.length_nil:= @List.length_nil
theorem yq0:type_of% @List.mem_append_right:= @List.mem_append_right
theorem yr0:type_of% @decide_eq_true_eq:= @decide_eq_true_eq
theorem ys0:type_of% @Bool.not_true:= @Bool.not_true
theorem yt0:type_of% @List.eq_nil_of_length_eq_zero:= @List.eq_nil_of_length_eq_zero
theorem yu0:type_of% @List.mem_append:= @List.mem_append
theorem yv0:type_of% @List.mem_append_left:= @List.mem_append_left
theorem yw0:type_of% @if_neg:= @if_neg
theorem yx0:type_of% @if_pos:= @if_pos
theorem yy0:type_of% @beq_iff_eq:= @beq_iff_eq
theorem yz0:type_of% @List.append_nil:= @List.append_nil
theorem ya1:type_of% @Prod.mk.injEq:= @Prod.mk.injEq
theorem yb1:type_of% @Bool.not_false:= @Bool.not_false
theorem yc1:type_of% @List.length_drop:= @List.length_drop
theorem yd1:type_of% @List.flatten_cons:= @List.flatten_cons
theorem ye1:type_of% @Nat.zero_le:= @Nat.zero_le
theorem yf1:type_of% @List.nodup_append:= @List.nodup_append
theorem yg1:type_of% @List.mem_cons:= @List.mem_cons
theorem yh1:type_of% @List.Perm.refl:= @List.Perm.refl
theorem yi1:type_of% @Int.lt_irrefl:= @Int.lt_irrefl
theorem yj1:type_of% @Bool.not_eq_true':= @Bool.not_eq_true'
theorem yk1:type_of% @Prod.mk.inj:= @Prod.mk.inj
theorem yl1:type_of% @List.mem_singleton:= @List.mem_singleton
theorem ym1:type_of% @List.getElem_mem:= @List.getElem_mem
theorem yn1:type_of% @beq_self_eq_true:= @beq_self_eq_true
theorem yo1:type_of% @Nat.le_trans:= @Nat.le_trans
theorem yp1:type_of% @List.nil_append:= @List.nil_append
theorem yq1:type_of% @Bool.or_eq_true:= @Bool.or_eq_true
theorem yr1:type_of% @List.length_take:= @List.length_take
theorem ys1:type_of% @Array.getElem?_eq_some_iff:= @Array.getElem?_eq_some_iff
theorem yt1:type_of% @List.getElem?_eq_getElem:= @List.getElem?_eq_getElem
theorem yu1:type_of% @List.length_map:= @List.length_map
theorem yv1:type_of% @List.flatMap_cons:= @List.flatMap_cons
theorem yw1:type_of% @List.cons_append:= @List.cons_append
theorem yx1:type_of% @Bool.true_and:= @Bool.true_and
theorem yy1:type_of% @Nat.lt_of_lt_of_le:= @Nat.lt_of_lt_of_le
theorem yz1:type_of% @List.getElem?_append_left:= @List.getElem?_append_left
theorem ya2:type_of% @List.getElem?_append_right:= @List.getElem?_append_right
theorem yb2:type_of% @List.mem_of_mem_drop:= @List.mem_of_mem_drop
theorem yc2:type_of% @List.length_set:= @List.length_set
theorem yd2:type_of% @Bool.false_or:= @Bool.false_or
theorem ye2:type_of% @Bool.false_and:= @Bool.false_and
theorem yf2:type_of% @List.getElem?_eq_some_iff:= @List.getElem?_eq_some_iff
theorem yg2:type_of% @List.getD_eq_getElem?_getD:= @List.getD_eq_getElem?_getD
theorem yh2:type_of% @List.getElem?_eq_none:= @List.getElem?_eq_none
theorem yi2:type_of% @List.getElem?_set_self:= @List.getElem?_set_self
theorem yj2:type_of% @List.getElem?_set_ne:= @List.getElem?_set_ne
theorem yk2:type_of% @Option.map_eq_some_iff:= @Option.map_eq_some_iff
theorem yl2:type_of% @Array.getElem?_toList:= @Array.getElem?_toList
theorem ym2:type_of% @List.getElem?_cons_zero:= @List.getElem?_cons_zero
theorem yn2:type_of% @List.getElem?_cons_succ:= @List.getElem?_cons_succ
theorem yo2:type_of% @Option.bind_eq_some_iff:= @Option.bind_eq_some_iff
theorem yp2:type_of% @List.take_append_drop:= @List.take_append_drop
theorem yq2:type_of% @List.length_pos_iff:= @List.length_pos_iff
theorem yr2:type_of% @List.drop_eq_nil_of_le:= @List.drop_eq_nil_of_le
theorem ys2:type_of% @List.all_eq_true:= @List.all_eq_true
theorem yt2:type_of% @List.perm_nil:= @List.perm_nil
theorem yu2:type_of% @List.mem_iff_getElem:= @List.mem_iff_getElem
theorem yv2:type_of% @List.take_of_length_le:= @List.take_of_length_le
theorem yw2:type_of% @List.filter_cons_of_pos:= @List.filter_cons_of_pos
theorem yx2:type_of% @Int.toNat_of_nonneg:= @Int.toNat_of_nonneg
theorem yy2:type_of% @Nat.add_sub_cancel_left:= @Nat.add_sub_cancel_left
theorem yz2:type_of% @Bool.or_eq_false_iff:= @Bool.or_eq_false_iff
theorem ya3:type_of% @List.length_singleton:= @List.length_singleton
theorem yb3:type_of% @List.flatten_append:= @List.flatten_append
theorem yc3:type_of% @List.length_eq_one_iff:= @List.length_eq_one_iff
namespace Go.Dn
inductive Ty where
 |int (k:IntKind)
 |bool
 |str
 |unit
 |pair (a b:Ty)
 |slice (e:TypeId) (t:Ty)
 deriving DecidableEq
@[reducible] def PV:Ty->Type
  | .int _=>Int
  | .bool=>Bool
  | .str=>List UInt8
  | .unit=>Unit
  | .pair a b=>PV a×PV b
  | .slice _ t=>List (PV t)
def dflt:(t:Ty)->PV t
 | .int _=>(0:Int)
 | .bool=>false
 | .str=>([]:List UInt8)
 | .unit=>()
 | .pair a b=>(dflt a,dflt b)
 | .slice _ t=>([]:List (PV t))
def Ty.agg:Ty->Bool
 | .pair _ _=>true
 | .unit=>true
 |_=>false
def Ty.size:Ty->Nat
 | .unit=>0
 | .pair a b=>a.size+b.size
 |_=>1
def strV (l:List UInt8):Value:=.string ⟨⟨l⟩⟩
def pack (t:Ty)(cs:List Value):Value:=if t.agg then .agg cs.toArray else cs.headD undef
inductive Ow where
 |b
 |row (e:Ow)
 |pr (x y:Ow)
def Ow.fst:Ow->Ow
 | .pr x _=>x
 |_=>.b
def Ow.snd:Ow->Ow
 | .pr _ y=>y
 |_=>.b
def Ow.elem:Ow->Ow
 | .row e=>e
 |_=>.b
def top:Ty->Ow
 | .pair a b=>.pr (top a) (top b)
 | .slice _ t=>.row (top t)
 |_=>.b
def RepL {α:Type}(R:List Value->α->List Nat->Prop):List Value->List α->List Nat->Prop
 |cs,[],bs=>cs=[]/\bs=[]
 |cs,x::xs,bs=>∃c1 c2 b1 b2,cs=c1++c2/\bs.Perm (b1++b2)/\R c1 x b1/\RepL R c2 xs b2
def Cells (w:World)(a:Addr)(ys:List Value):Prop:=∀(j:Nat) (u:Value),ys[j]? =some u->w.cell? (a.add j)=some u
def Rep (w:World)(Pr:Nat->Prop):(t:Ty)->Ow->List Value->PV t->List Nat->Prop
 | .int k,_,cs,n,bs=>cs=[.int k n]/\bs=[]
 | .bool,_,cs,x,bs=>cs=[.bool x]/\bs=[]
 | .str,_,cs,s,bs=>cs=[strV s]/\bs=[]
 | .unit,_,cs,_,bs=>cs=[]/\bs=[]
 | .pair a b,o,cs,x,bs=>∃c1 c2 b1 b2,cs=c1++c2/\bs.Perm (b1++b2)/\Rep w Pr a o.fst c1 x.1 b1/\Rep w Pr b o.snd c2 x.2 b2
 | .slice e t,.row oe,cs,xs,bs=>∃v ys b',cs=[v]/\w.ownsRow 0 e t.size v xs.length ys/\bs.Perm (v.ownBlock.toList++b')/\RepL (Rep w Pr t oe) ys xs b'
 | .slice _ t,_,cs,xs,bs=>bs=[]/\∃A c,cs=[.slice A xs.length c]/\xs.length<=c/\
    (xs=[]\/∃a ys,A=some a/\Pr a.block/\Cells w a ys/\RepL (Rep w Pr t .b) ys xs [])
def Bor (w:World)(Pr:Nat->Prop)(t:Ty)(cs:List Value)(xs:List (PV t)):Prop:=
 ∃A c,cs=[.slice A xs.length c]/\xs.length<=c/\(xs=[]\/∃a ys,A=some a/\Pr a.block/\Cells w a ys/\RepL (Rep w Pr t .b) ys xs [])
theorem za0 {w:World}{Pr:Nat->Prop}{e:TypeId}{t:Ty}{cs:List Value}{xs:List (PV t)}{bs:List Nat}:
 Rep w Pr (.slice e t) .b cs xs bs↔bs=[]/\Bor w Pr t cs xs:=by simp only[Rep,Bor]
theorem zby {w:World}{Pr:Nat->Prop}{e:TypeId}{t:Ty}{cs:List Value}{xs:List (PV t)}{bs:List Nat}{p q:Ow}:
 Rep w Pr (.slice e t) (.pr p q) cs xs bs↔bs=[]/\Bor w Pr t cs xs:=by simp only[Rep,Bor]
theorem jy {w:World}{Pr:Nat->Prop}{e:TypeId}{t:Ty}{oe:Ow}{cs:List Value}{xs:List (PV t)}{bs:List Nat}:
 Rep w Pr (.slice e t) (.row oe) cs xs bs↔∃v ys b',cs=[v]/\w.ownsRow 0 e t.size v xs.length ys/\bs.Perm (v.ownBlock.toList++b')/\RepL (Rep w Pr t oe) ys xs b':=by
 simp only[Rep]
theorem qbk {w:World}{Pr:Nat->Prop}{a b:Ty}{o:Ow}{cs:List Value}{x:PV a×PV b}{bs:List Nat}:
 Rep w Pr (.pair a b) o cs x bs↔∃c1 c2 b1 b2,cs=c1++c2/\bs.Perm (b1++b2)/\Rep w Pr a o.fst c1 x.1 b1/\Rep w Pr b o.snd c2 x.2 b2:=by
 simp only[Rep]
theorem RepL.imp {α:Type}{R R':List Value->α->List Nat->Prop}{bsA:List Nat}:
 ∀{xs:List α} {cs:List Value} {bs:List Nat},(∀c x b,(∀k∈b,k∈bsA)->R c x b->R' c x b)->(∀k∈bs,k∈bsA)->RepL R cs xs bs->RepL R' cs xs bs
 |[],_,_,_,_,h=>h
 |_::_,_,_,hR,hs,h=>by
  obtain⟨c1,c2,b1,b2,e1,e2,h1,h2⟩:=h
  exact⟨c1,c2,b1,b2,e1,e2,hR _ _ _ (λk hk=>hs k (e2.mem_iff.2 (yv0 _ hk))) h1,
   RepL.imp hR (λk hk=>hs k (e2.mem_iff.2 (yq0 _ hk))) h2⟩
theorem RepL.perm {α:Type}{R:List Value->α->List Nat->Prop}:
 ∀{xs:List α} {cs:List Value} {bs bs':List Nat},bs.Perm bs'->RepL R cs xs bs->RepL R cs xs bs'
 |[],_,_,_,p,h=>⟨h.1,by obtain⟨_,rfl⟩:=h;exact yt2.1 p.symm⟩
 |_::_,_,_,_,p,h=>by
  obtain⟨c1,c2,b1,b2,e1,e2,h1,h2⟩:=h;exact⟨c1,c2,b1,b2,e1,p.symm.trans e2,h1,h2⟩
theorem Rep.perm {w:World}{Pr:Nat->Prop}:∀{t:Ty} {o:Ow} {cs:List Value} {x:PV t} {bs bs':List Nat},bs.Perm bs'->Rep w Pr t o cs x bs->Rep w Pr t o cs x bs':=by
 intro t o cs x bs bs' p h;cases t with
 |int k=>exact⟨h.1,by obtain⟨_,rfl⟩:=h;exact yt2.1 p.symm⟩
 |bool=>exact⟨h.1,by obtain⟨_,rfl⟩:=h;exact yt2.1 p.symm⟩
 |str=>exact⟨h.1,by obtain⟨_,rfl⟩:=h;exact yt2.1 p.symm⟩
 |unit=>exact⟨h.1,by obtain⟨_,rfl⟩:=h;exact yt2.1 p.symm⟩
 |pair a b=>
  obtain⟨c1,c2,b1,b2,e1,e2,h1,h2⟩:=h;exact⟨c1,c2,b1,b2,e1,p.symm.trans e2,h1,h2⟩
 |slice e t=>
  cases o with
  |row oe=>
   obtain⟨v,ys,b',e1,e2,e3,h1⟩:=jy.1 h;exact jy.2 ⟨v,ys,b',e1,e2,p.symm.trans e3,h1⟩
  |b=>exact za0.2 ⟨by have:=(za0.1 h).1;subst this;exact yt2.1 p.symm,(za0.1 h).2⟩
  |pr x y=>exact zby.2 ⟨by have:=(zby.1 h).1;subst this;exact yt2.1 p.symm,(zby.1 h).2⟩
theorem RepL.length {α:Type}{R:List Value->α->List Nat->Prop}{n:Nat}(hR:∀c x b,R c x b->c.length=n):
 ∀{xs:List α} {cs:List Value} {bs:List Nat},RepL R cs xs bs->cs.length=xs.length*n
 |[],_,_,h=>by rw[h.1];simp
 |_::xs,_,_,h=>by
  obtain⟨c1,c2,b1,b2,rfl,e2,h1,h2⟩:=h;rw[ye0,hR _ _ _ h1,RepL.length hR h2,yf0,Nat.succ_mul,Nat.add_comm]
theorem Rep.length {w:World}{Pr:Nat->Prop}:∀{t:Ty} {o:Ow} {cs:List Value} {x:PV t} {bs:List Nat},Rep w Pr t o cs x bs->cs.length=t.size
 | .int _,_,_,_,_,h=>by rw[h.1];rfl
 | .bool,_,_,_,_,h=>by rw[h.1];rfl
 | .str,_,_,_,_,h=>by rw[h.1];rfl
 | .unit,_,_,_,_,h=>by rw[h.1];rfl
 | .pair a b,_,_,_,_,h=>by
   obtain⟨c1,c2,b1,b2,rfl,e2,h1,h2⟩:=h;rw[ye0,h1.length,h2.length];rfl
 | .slice e t,.row oe,_,_,_,h=>by obtain⟨v,ys,b',rfl,_⟩:=jy.1 h;rfl
 | .slice e t,.b,_,_,_,h=>by obtain⟨_,A,c,rfl,_⟩:=za0.1 h;rfl
 | .slice e t,.pr _ _,_,_,_,h=>by obtain⟨_,A,c,rfl,_⟩:=zby.1 h;rfl
def Agree (w w':World)(S:Nat->Prop):Prop:=∀k,S k->w'.heap[k]? =w.heap[k]?
theorem Cells.agree {w w':World}{a:Addr}{ys:List Value}(h:Cells w a ys)(hb:w'.heap[a.block]? =w.heap[a.block]?):Cells w' a ys:=by
 intro j u hu;rw[World.cell?_of_block (w:=w) (by rw[show(a.add j).block=a.block by unfold Addr.add;split<;>rfl];exact hb)];exact h j u hu
theorem qqk {w w':World}{e:TypeId}{size n:Nat}{v:Value}{xs:List Value}(h:w.ownsRow 0 e size v n xs)
 (hb:∀k∈v.ownBlock.toList,w'.heap[k]? =w.heap[k]?):w'.ownsRow 0 e size v n xs:=by
 refine⟨h.1,?_⟩;rcases h.2 with hn|⟨g,cap,cur,rfl,hg0,hg,rest⟩
 ·exact .inl hn
 ·exact .inr ⟨g,cap,cur,rfl,hg0,by rw[hb g (by simp[Value.ownBlock])];exact hg,rest⟩
theorem Rep.agree {w w':World}{Pr Pr':Nat->Prop}(hp:∀k,Pr k->Pr' k):
 ∀{t:Ty} {o:Ow} {cs:List Value} {x:PV t} {bs:List Nat},Agree w w' (λk=>Pr k\/k∈bs)->Rep w Pr t o cs x bs->Rep w' Pr' t o cs x bs
 | .int _,_,_,_,_,_,h=>h
 | .bool,_,_,_,_,_,h=>h
 | .str,_,_,_,_,_,h=>h
 | .unit,_,_,_,_,_,h=>h
 | .pair a b,_,_,_,_,ha,h=>by
   obtain⟨c1,c2,b1,b2,e1,e2,h1,h2⟩:=h
   exact⟨c1,c2,b1,b2,e1,e2,h1.agree hp (λk hk=>ha k (hk.imp id λm=>e2.mem_iff.2 (yv0 _ m))),
    h2.agree hp (λk hk=>ha k (hk.imp id λm=>e2.mem_iff.2 (yq0 _ m)))⟩
 | .slice e t,.row oe,_,_,bs,ha,h=>by
   obtain⟨v,ys,b',e1,e2,e3,h1⟩:=jy.1 h;refine jy.2 ⟨v,ys,b',e1,qqk e2 (λk hk=>ha k (.inr (e3.mem_iff.2 (yv0 _ hk)))),e3,?_⟩;exact h1.imp (bsA:=bs) (λc x b hb hr=>hr.agree hp (λk hk=>ha k (hk.imp id (hb k)))) (λk hk=>e3.mem_iff.2 (yq0 _ hk))
 | .slice e t,.b,_,_,bs,ha,h=>by
   obtain⟨rfl,A,c,e1,e2,e3⟩:=za0.1 h;refine za0.2 ⟨rfl,A,c,e1,e2,e3.imp id ?_⟩;rintro⟨a,ys,rfl,hpa,hc,hl⟩;exact⟨a,ys,rfl,hp _ hpa,hc.agree (ha _ (.inl hpa)),hl.imp (bsA:=[]) (λc x b hb hr=>hr.agree hp (λk hk=>ha k (hk.imp id (hb k)))) (λk hk=>hk)⟩
 | .slice e t,.pr _ _,_,_,bs,ha,h=>by
   obtain⟨rfl,A,c,e1,e2,e3⟩:=zby.1 h;refine zby.2 ⟨rfl,A,c,e1,e2,e3.imp id ?_⟩;rintro⟨a,ys,rfl,hpa,hc,hl⟩;exact⟨a,ys,rfl,hp _ hpa,hc.agree (ha _ (.inl hpa)),hl.imp (bsA:=[]) (λc x b hb hr=>hr.agree hp (λk hk=>ha k (hk.imp id (hb k)))) (λk hk=>hk)⟩
theorem RepL.agree {w w':World}{Pr Pr':Nat->Prop}(hp:∀k,Pr k->Pr' k){t:Ty}{o:Ow}{cs:List Value}{xs:List (PV t)}{bs:List Nat}
 (ha:Agree w w' (λk=>Pr k\/k∈bs))(h:RepL (Rep w Pr t o) cs xs bs):RepL (Rep w' Pr' t o) cs xs bs:=
 h.imp (bsA:=bs) (λ_ _ _ hb hr=>hr.agree hp (λk hk=>ha k (hk.imp id (hb k)))) (λ_ hk=>hk)
theorem Rep.lt {w:World}{Pr:Nat->Prop}:∀{t:Ty} {o:Ow} {cs:List Value} {x:PV t} {bs:List Nat},Rep w Pr t o cs x bs->∀k∈bs,k<w.heap.size
 | .int _,_,_,_,_,h=>by rw[h.2];simp
 | .bool,_,_,_,_,h=>by rw[h.2];simp
 | .str,_,_,_,_,h=>by rw[h.2];simp
 | .unit,_,_,_,_,h=>by rw[h.2];simp
 | .pair a b,_,_,_,_,h=>by
   obtain⟨c1,c2,b1,b2,e1,e2,h1,h2⟩:=h;intro k hk;rcases yu0.1 (e2.mem_iff.1 hk) with h|h
   ·exact h1.lt k h
   ·exact h2.lt k h
 | .slice e t,.row oe,_,xs,bs,h=>by
   obtain⟨v,ys,b',e1,e2,e3,h1⟩:=jy.1 h;intro k hk;rcases yu0.1 (e3.mem_iff.1 hk) with h|h
   ·exact(e2.lt k (by simpa using h)).2
   ·have go:∀(xs:List (PV t)) (ys:List Value) (b:List Nat),RepL (Rep w Pr t oe) ys xs b->∀k∈b,k<w.heap.size:=by
     intro xs
     induction xs with
     |nil=>intro ys b h;rw[h.2];simp
     |cons x xs ih=>
      intro ys b h k hk;obtain⟨c1,c2,b1,b2,_,p2,h1,h2⟩:=h;rcases yu0.1 (p2.mem_iff.1 hk) with h|h
      ·exact h1.lt k h
      ·exact ih _ _ h2 k h
    exact go xs ys b' h1 k h
 | .slice e t,.b,_,_,bs,h=>by rw[(za0.1 h).1];simp
 | .slice e t,.pr _ _,_,_,bs,h=>by rw[(zby.1 h).1];simp
theorem RepL.lt {w:World}{Pr:Nat->Prop}{t:Ty}{o:Ow}:∀{xs:List (PV t)} {cs:List Value} {bs:List Nat},RepL (Rep w Pr t o) cs xs bs->∀k∈bs,k<w.heap.size
 |[],_,_,h=>by rw[h.2];simp
 |_::_,_,_,h=>by
  obtain⟨c1,c2,b1,b2,_,p2,h1,h2⟩:=h;intro k hk;rcases yu0.1 (p2.mem_iff.1 hk) with h|h
  ·exact h1.lt k h
  ·exact h2.lt k h
def weaken:Ty->Ow->Ow->Bool
 | .pair a b,o1,o2=>weaken a o1.fst o2.fst&&weaken b o1.snd o2.snd
 | .slice _ t,.row e1,.row e2=>weaken t e1 e2
 | .slice _ _,.b,.row _=>false
 | .slice _ _,.pr _ _,.row _=>false
 |_,_,_=>true
def owns:Ty->Ow->Bool
 | .pair a b,o=>owns a o.fst||owns b o.snd
 | .slice _ _,.row _=>true
 |_,_=>false
theorem RepL.split {α:Type}{R:List Value->α->List Nat->Prop}:
 ∀{xs:List α} {cs:List Value} {bs:List Nat} (n:Nat) (h:n<xs.length),RepL R cs xs bs->
  ∃c0 c c2 b b2,cs=c0++c++c2/\bs.Perm (b++b2)/\R c xs[n] b/\
   (∀m,(∀c x b,R c x b->c.length=m)->c0.length=n*m)/\
   (∀R':List Value->α->List Nat->Prop,(∀c x b',(∀k∈b',k∈b2)->R c x b'->R' c x b')->∀c' x' b',R' c' x' b'->RepL R' (c0++c'++c2) (xs.set n x') (b'++b2))
 |x::xs,cs,bs,0,_,h=>by
  obtain⟨c1,c2,b1,b2,e1,e2,h1,h2⟩:=h;refine⟨[],c1,c2,b1,b2,by simp[e1],e2,h1,by simp,λR' hR c' x' b' hr=> ?_⟩;exact⟨c',c2,b',b2,by simp,yh1 _,hr,h2.imp (bsA:=b2) hR (λk hk=>hk)⟩
 |x::xs,cs,bs,n+1,h,hh=>by
  obtain⟨c1,c2,b1,b2,e1,e2,h1,h2⟩:=hh;obtain⟨c0,c,c3,b,b3,e3,e4,h3,h4,h5⟩:=RepL.split n (by simpa using h) h2;refine⟨c1++c0,c,c3,b,b1++b3,by rw[e1,e3];simp,?_,by simpa using h3,?_,?_⟩
  ·refine e2.trans ((List.Perm.append_left _ e4).trans ?_)
   rw[<-yj0,<-yj0];exact List.Perm.append_right _ List.perm_append_comm
  ·intro m hm
   rw[ye0,hm _ _ _ h1,h4 m hm,Nat.succ_mul,Nat.add_comm]
  ·intro R' hR c' x' b' hr
   refine⟨c1,c0++c'++c3,b1,b'++b3,by simp,?_,hR _ _ _ (λk hk=>yv0 _ hk) h1,h5 R' (λc x b'' hb=>hR c x b'' (λk hk=>yq0 _ (hb k hk))) c' x' b' hr⟩;rw[<-yj0,<-yj0];exact List.Perm.append_right _ List.perm_append_comm
theorem RepL.append {α:Type}{R:List Value->α->List Nat->Prop}:
 ∀{xs ys:List α} {cs ds:List Value} {bs ds':List Nat},RepL R cs xs bs->RepL R ds ys ds'->RepL R (cs++ds) (xs++ys) (bs++ds')
 |[],_,_,_,_,_,h,h'=>by obtain⟨rfl,rfl⟩:=h;exact h'
 |_::_,_,_,_,_,_,h,h'=>by
  obtain⟨c1,c2,b1,b2,rfl,e2,h1,h2⟩:=h;refine⟨c1,_,b1,_,by rw[yj0],?_,h1,h2.append h'⟩;rw[<-yj0];exact e2.append_right _
theorem RepL.take {α:Type}{R:List Value->α->List Nat->Prop}{m:Nat}(hR:∀c x b,R c x b->c.length=m):
 ∀{xs:List α} {cs:List Value} {bs:List Nat} (n:Nat),RepL R cs xs bs->∃b1 b2,bs.Perm (b1++b2)/\RepL R (cs.take (n*m)) (xs.take n) b1/\RepL R (cs.drop (n*m)) (xs.drop n) b2
 |[],_,_,n,h=>by obtain⟨rfl,rfl⟩:=h;exact⟨[],[],yh1 _,by simp[RepL],by simp[RepL]⟩
 |x::xs,cs,bs,0,h=>⟨[],bs,yh1 _,by simp[RepL],by simpa using h⟩
 |x::xs,cs,bs,n+1,h=>by
  obtain⟨c1,c2,b1,b2,rfl,e2,h1,h2⟩:=h;obtain⟨b3,b4,e3,h3,h4⟩:=RepL.take hR n h2;have hl:=hR _ _ _ h1;have hm:(n+1)*m=c1.length+n*m:=by rw[hl,Nat.succ_mul,Nat.add_comm]
  refine⟨b1++b3,b4,?_,?_,?_⟩
  ·rw[yj0];exact e2.trans (e3.append_left _)
  ·refine⟨c1,c2.take (n*m),b1,b3,?_,yh1 _,h1,h3⟩
   rw[hm,List.take_append,yv2 (by omega),yy2]
  ·rw[hm,List.drop_append,List.drop_of_length_le (by omega),yy2];simpa using h4
end Go.Dn
end

section
/- Weakening of ownership; places inside a value (paths); reading and writing there. -/
namespace Go.Dn
theorem zij:∀(t:Ty) (o:Ow),weaken t o .b=true
 | .int _,_=>rfl
 | .bool,_=>rfl
 | .str,_=>rfl
 | .unit,_=>rfl
 | .pair a b,o=>by simp only[weaken,Ow.fst,Ow.snd,zij a,zij b];rfl
 | .slice _ _,.b=>rfl
 | .slice _ _,.row _=>rfl
 | .slice _ _,.pr _ _=>rfl
theorem Rep.more {w:World}{Pr Pr':Nat->Prop}(hp:∀k,Pr k->Pr' k){t:Ty}{o:Ow}{cs:List Value}{x:PV t}{bs:List Nat}(h:Rep w Pr t o cs x bs):Rep w Pr' t o cs x bs:=
 h.agree hp (λ_ _=>rfl)
theorem RepL.more {w:World}{Pr Pr':Nat->Prop}(hp:∀k,Pr k->Pr' k){t:Ty}{o:Ow}{cs:List Value}{xs:List (PV t)}{bs:List Nat}(h:RepL (Rep w Pr t o) cs xs bs):RepL (Rep w Pr' t o) cs xs bs:=
 h.agree hp (λ_ _=>rfl)
theorem zjm {w:World}{Pr:Nat->Prop}{t:Ty}{o1 o2:Ow}
 (ih:∀(cs:List Value) (x:PV t) (bs:List Nat),Rep w Pr t o1 cs x bs->∃b1 b2,bs.Perm (b1++b2)/\Rep w (λk=>Pr k\/k∈b2) t o2 cs x b1):
 ∀{xs:List (PV t)} {cs:List Value} {bs:List Nat},RepL (Rep w Pr t o1) cs xs bs->∃b1 b2,bs.Perm (b1++b2)/\RepL (Rep w (λk=>Pr k\/k∈b2) t o2) cs xs b1
 |[],_,_,h=>by obtain⟨rfl,rfl⟩:=h;exact⟨[],[],yh1 _,rfl,rfl⟩
 |x::xs,cs,bs,h=>by
  obtain⟨c1,c2,b1,b2,rfl,e2,h1,h2⟩:=h;obtain⟨p1,q1,e3,h3⟩:=ih _ _ _ h1;obtain⟨p2,q2,e4,h4⟩:=zjm ih h2;refine⟨p1++p2,q1++q2,?_,c1,c2,p1,p2,rfl,yh1 _,?_,?_⟩
  ·refine e2.trans ((e3.append e4).trans ?_)
   rw[yj0,yj0];refine List.Perm.append_left _ ?_;rw[<-yj0,<-yj0];exact List.perm_append_comm.append_right _
  ·exact h3.more (λk hk=>hk.imp id λm=>yv0 _ m)
  ·exact h4.more (λk hk=>hk.imp id λm=>yq0 _ m)
theorem z2e {w:World}{e:TypeId}{size n:Nat}{v:Value}{xs:List Value}(h:w.ownsRow 0 e size v n xs){g:Nat}{A:Option Addr}{m c:Nat}
 (hv:v=.slice A m c)(hA:A=some ⟨g,0,none⟩):Cells w ⟨g,0,none⟩ xs:=h.cells (by rw[hv,hA];rfl)
theorem ownsRow_form {w:World}{e:TypeId}{size n:Nat}{v:Value}{xs:List Value}(h:w.ownsRow 0 e size v n xs):
 (v=.slice none 0 0/\n=0/\xs=[])\/∃g c,v=.slice (some ⟨g,0,none⟩) n c/\v.ownBlock=some g/\n<=c:=by
 rcases h with⟨hl,⟨rfl,rfl⟩|⟨g,cap,cur,rfl,_,hg,hc,_⟩⟩
 ·exact .inl ⟨rfl,rfl,yt0 (by simpa using hl)⟩
 ·exact .inr ⟨g,cap,rfl,rfl,hc⟩
theorem Rep.znq {w:World}{Pr:Nat->Prop}:∀{t:Ty} {cs:List Value} {x:PV t} {b:List Nat},Rep w Pr t .b cs x b->b=[]:=by
 intro t
 induction t with
 |pair a b iha ihb=>
  intro cs x bs h;obtain⟨c1,c2,b1,b2,_,p2,h1,h2⟩:=h;have:=iha h1;have:=ihb h2;subst_vars;simpa using p2
 |slice e t _=>intro cs x bs h;exact(za0.1 h).1
 |_=>intro cs x bs h;exact h.2
theorem Rep.zax {w:World}{Pr:Nat->Prop}:∀{t:Ty} {o:Ow} {cs:List Value} {x:PV t} {b:List Nat},owns t o=false->Rep w Pr t o cs x b->b=[]
 | .int _,_,_,_,_,_,h=>h.2
 | .bool,_,_,_,_,_,h=>h.2
 | .str,_,_,_,_,_,h=>h.2
 | .unit,_,_,_,_,_,h=>h.2
 | .pair a b,o,cs,x,bs,ho,h=>by
   simp only[owns,yz2] at ho;obtain⟨c1,c2,b1,b2,_,p2,h1,h2⟩:=h;have:=h1.zax ho.1;have:=h2.zax ho.2;subst_vars;simpa using p2
 | .slice _ _,.row _,_,_,_,ho,_=>by simp[owns] at ho
 | .slice _ _,.b,_,_,_,_,h=>(za0.1 h).1
 | .slice _ _,.pr _ _,_,_,_,_,h=>(zby.1 h).1
theorem RepL.znq {w:World}{Pr:Nat->Prop}{t:Ty}:∀{xs:List (PV t)} {cs:List Value} {b:List Nat},RepL (Rep w Pr t .b) cs xs b->b=[]
 |[],_,_,h=>h.2
 |_::_,_,_,h=>by
  obtain⟨c1,c2,b1,b2,_,p2,h1,h2⟩:=h;have:=h1.znq;have:=RepL.znq h2;subst_vars;simpa using p2
theorem qdh {w:World}{Pr:Nat->Prop}{e:TypeId}{t:Ty}{e1:Ow}{cs:List Value}{xs:List (PV t)}{bs:List Nat}
 (ih:∀(cs:List Value) (x:PV t) (bs:List Nat),Rep w Pr t e1 cs x bs->∃b1 b2,bs.Perm (b1++b2)/\Rep w (λk=>Pr k\/k∈b2) t .b cs x b1)
 (h:Rep w Pr (.slice e t) (.row e1) cs xs bs):Bor w (λk=>Pr k\/k∈bs) t cs xs:=by
 obtain⟨v,ys,b',e3,e4,e5,h1⟩:=jy.1 h;obtain⟨p,q,e6,h2⟩:=zjm (o2:=.b) ih h1;have:=h2.znq;subst this;subst e3;rcases ownsRow_form e4 with⟨rfl,h0,_⟩|⟨g,c,rfl,hg,hc⟩
 ·exact⟨none,0,by rw[h0],by omega,.inl (yt0 h0)⟩
 ·refine⟨some ⟨g,0,none⟩,c,rfl,hc,.inr ⟨⟨g,0,none⟩,ys,rfl,.inr (e5.mem_iff.2 (by simp[Value.ownBlock])),z2e e4 rfl rfl,?_⟩⟩
  exact h2.more (λk hk=>hk.imp id λm=>e5.mem_iff.2 (yq0 _ (e6.mem_iff.2 (by simpa using m))))
theorem Rep.weaken {w:World}{Pr:Nat->Prop}:∀{t:Ty} {o1 o2:Ow} {cs:List Value} {x:PV t} {bs:List Nat},Go.Dn.weaken t o1 o2=true->Rep w Pr t o1 cs x bs->
 ∃b1 b2,bs.Perm (b1++b2)/\Rep w (λk=>Pr k\/k∈b2) t o2 cs x b1
 | .int _,_,_,_,_,_,_,h=>⟨[],[],by rw[h.2];exact yh1 _,h.1,rfl⟩
 | .bool,_,_,_,_,_,_,h=>⟨[],[],by rw[h.2];exact yh1 _,h.1,rfl⟩
 | .str,_,_,_,_,_,_,h=>⟨[],[],by rw[h.2];exact yh1 _,h.1,rfl⟩
 | .unit,_,_,_,_,_,_,h=>⟨[],[],by rw[h.2];exact yh1 _,h.1,rfl⟩
 | .pair a b,o1,o2,cs,x,bs,hw,h=>by
   simp only[Go.Dn.weaken,yh0] at hw;obtain⟨c1,c2,b1,b2,rfl,e2,h1,h2⟩:=h;obtain⟨p1,q1,e3,h3⟩:=h1.weaken hw.1;obtain⟨p2,q2,e4,h4⟩:=h2.weaken hw.2;refine⟨p1++p2,q1++q2,?_,c1,c2,p1,p2,rfl,yh1 _,?_,?_⟩
   ·refine e2.trans ((e3.append e4).trans ?_)
    rw[yj0,yj0];refine List.Perm.append_left _ ?_;rw[<-yj0,<-yj0];exact List.perm_append_comm.append_right _
   ·exact h3.more (λk hk=>hk.imp id λm=>yv0 _ m)
   ·exact h4.more (λk hk=>hk.imp id λm=>yq0 _ m)
 | .slice e t,.row e1,.row e2,cs,xs,bs,hw,h=>by
   obtain⟨v,ys,b',e3,e4,e5,h1⟩:=jy.1 h;obtain⟨p,q,e6,h2⟩:=zjm (o2:=e2) (λcs x bs h=>Rep.weaken (t:=t) (by simpa only[Go.Dn.weaken] using hw) h) h1;refine⟨v.ownBlock.toList++p,q,?_,jy.2 ⟨v,ys,p,e3,e4,yh1 _,h2⟩⟩;rw[yj0];exact e5.trans (e6.append_left _)
 | .slice e t,.row e1,.b,cs,xs,bs,hw,h=>
   ⟨[],bs,yh1 _,za0.2 ⟨rfl,qdh (λ_ _ _ h=>Rep.weaken (t:=t) (zij t e1) h) h⟩⟩
 | .slice e t,.row e1,.pr _ _,cs,xs,bs,hw,h=>
   ⟨[],bs,yh1 _,zby.2 ⟨rfl,qdh (λ_ _ _ h=>Rep.weaken (t:=t) (zij t e1) h) h⟩⟩
 | .slice e t,.b,.b,cs,xs,bs,hw,h=>⟨bs,[],by simp,h.more (λk hk=>.inl hk)⟩
 | .slice e t,.b,.pr _ _,cs,xs,bs,hw,h=>⟨bs,[],by simp,zby.2 (za0.1 (h.more (λk hk=>.inl hk)))⟩
 | .slice e t,.pr _ _,.b,cs,xs,bs,hw,h=>⟨bs,[],by simp,za0.2 (zby.1 (h.more (λk hk=>.inl hk)))⟩
 | .slice e t,.pr _ _,.pr _ _,cs,xs,bs,hw,h=>⟨bs,[],by simp,zby.2 (zby.1 (h.more (λk hk=>.inl hk)))⟩
 | .slice e t,.b,.row _,cs,xs,bs,hw,h=>by simp[Go.Dn.weaken] at hw
 | .slice e t,.pr _ _,.row _,cs,xs,bs,hw,h=>by simp[Go.Dn.weaken] at hw
theorem Rep.lend {w:World}{Pr:Nat->Prop}{t:Ty}{o:Ow}{cs:List Value}{x:PV t}{bs:List Nat}(h:Rep w Pr t o cs x bs):
 Rep w (λk=>Pr k\/k∈bs) t .b cs x []:=by
 obtain⟨b1,b2,e,h1⟩:=h.weaken (zij t o);have:=h1.znq;subst this;exact h1.more (λk hk=>hk.imp id λm=>e.mem_iff.2 (by simpa using m))
end Go.Dn
end

section
/- Places inside a value (paths): what stands there, where it lies in memory, and what becomes of the whole when something else is put there. -/
namespace Go.Dn
inductive PE where
 |l
 |r
 |ix (n:Nat)
def getT:List PE->Ty->Ty
 |[],t=>t
 | .l::p,.pair a _=>getT p a
 | .r::p,.pair _ b=>getT p b
 | .ix _::p,.slice _ t=>getT p t
 |_::_,_=>.unit
def get:(p:List PE)->(t:Ty)->PV t->PV (getT p t)
 |[],_,x=>x
 | .l::p,.pair a _,x=>get p a x.1
 | .r::p,.pair _ b,x=>get p b x.2
 | .ix n::p,.slice _ t,xs=>get p t (List.getD (α:=PV t) xs n (dflt t))
 | .l::_,.int _,_| .l::_,.bool,_| .l::_,.str,_| .l::_,.unit,_| .l::_,.slice _ _,_=>()
 | .r::_,.int _,_| .r::_,.bool,_| .r::_,.str,_| .r::_,.unit,_| .r::_,.slice _ _,_=>()
 | .ix _::_,.int _,_| .ix _::_,.bool,_| .ix _::_,.str,_| .ix _::_,.unit,_| .ix _::_,.pair _ _,_=>()
def set:(p:List PE)->(t:Ty)->PV t->PV (getT p t)->PV t
 |[],_,_,y=>y
 | .l::p,.pair a _,x,y=>(set p a x.1 y,x.2)
 | .r::p,.pair _ b,x,y=>(x.1,set p b x.2 y)
 | .ix n::p,.slice _ t,xs,y=>List.set (α:=PV t) xs n (set p t (List.getD (α:=PV t) xs n (dflt t)) y)
 | .l::_,.int _,x,_| .l::_,.bool,x,_| .l::_,.str,x,_| .l::_,.unit,x,_| .l::_,.slice _ _,x,_=>x
 | .r::_,.int _,x,_| .r::_,.bool,x,_| .r::_,.str,x,_| .r::_,.unit,x,_| .r::_,.slice _ _,x,_=>x
 | .ix _::_,.int _,x,_| .ix _::_,.bool,x,_| .ix _::_,.str,x,_| .ix _::_,.unit,x,_| .ix _::_,.pair _ _,x,_=>x
def getO:List PE->Ow->Ow
 |[],o=>o
 | .l::p,o=>getO p o.fst
 | .r::p,o=>getO p o.snd
 | .ix _::p,o=>getO p o.elem
def qw:(p:List PE)->(t:Ty)->Ow->PV t->Prop
 |[],_,_,_=>True
 | .l::p,.pair a _,o,x=>qw p a o.fst x.1
 | .r::p,.pair _ b,o,x=>qw p b o.snd x.2
 | .ix n::p,.slice _ t,.row oe,xs=>n<List.length (α:=PV t) xs/\qw p t oe (List.getD (α:=PV t) xs n (dflt t))
 |_::_,_,_,_=>False
def zdl:List PE->Ow->Ow->Ow->Prop
 |[],_,o2,o3=>o3=o2
 | .l::p,o,o2,o3=>zdl p o.fst o2 o3.fst/\o3.snd=o.snd
 | .r::p,o,o2,o3=>o3.fst=o.fst/\zdl p o.snd o2 o3.snd
 | .ix _::p,o,o2,o3=>∃oe,o=.row oe/\o3=.row oe/\zdl p oe o2 oe
def locate (w:World):List PE->Ty->Nat->Nat->Option (Nat×Nat)
 |[],_,b,off=>some (b,off)
 | .l::p,.pair a _,b,off=>locate w p a b off
 | .r::p,.pair a c,b,off=>locate w p c b (off+a.size)
 | .ix n::p,.slice _ t,b,off=>
   match w.cell? ⟨b,off,none⟩ with
   |some (.slice (some a) _ _)=>locate w p t a.block (n*t.size)
   |_=>none
 |_::_,_,_,_=>none
def zaj (w:World)(b off:Nat)(cs:List Value):Prop:=
 ∃cur T,w.heap[b]? =some (.cells cur T (0,0))/\∀(i:Nat) (u:Value),cs[i]? =some u->cur[off+i]? =some u
def Upd (w w2:World)(b off:Nat)(cs:List Value):Prop:=
 ∃cur T cur2,w.heap[b]? =some (.cells cur T (0,0))/\w2.heap[b]? =some (.cells cur2 T (0,0))/\cur2.size=cur.size/\
  (∀i,(i<off\/off+cs.length<=i)->cur2[i]? =cur[i]?)/\(∀(i:Nat) (u:Value),cs[i]? =some u->cur2[off+i]? =some u)
theorem Upd.holds {w w2:World}{b off:Nat}{cs:List Value}(h:Upd w w2 b off cs):zaj w2 b off cs:=by
 obtain⟨cur,T,cur2,_,h2,_,_,h5⟩:=h;exact⟨cur2,T,h2,h5⟩
theorem zaj.upd {w w2:World}{b off:Nat}{cs:List Value}(h:zaj w b off cs)(he:w2.heap[b]? =w.heap[b]?):Upd w w2 b off cs:=by
 obtain⟨cur,T,h1,h2⟩:=h;exact⟨cur,T,cur,h1,by rw[he];exact h1,rfl,λ_ _=>rfl,h2⟩
theorem zaj.left {w:World}{b off:Nat}{c1 c2:List Value}(h:zaj w b off (c1++c2)):zaj w b off c1:=by
 obtain⟨cur,T,h1,h2⟩:=h;exact⟨cur,T,h1,λi u hu=>h2 i u (by rw[yz1 (yf2.1 hu).1];exact hu)⟩
theorem zaj.right {w:World}{b off:Nat}{c1 c2:List Value}(h:zaj w b off (c1++c2)):zaj w b (off+c1.length) c2:=by
 obtain⟨cur,T,h1,h2⟩:=h;refine⟨cur,T,h1,λi u hu=> ?_⟩;rw[Nat.add_assoc];exact h2 _ u (by rw[ya2 (by omega),yy2];exact hu)
theorem zaj.cell {w:World}{b off:Nat}{v:Value}{cs:List Value}(h:zaj w b off (v::cs)):w.cell? ⟨b,off,none⟩=some v:=by
 obtain⟨cur,T,h1,h2⟩:=h;have:=h2 0 v rfl;simp only[World.cell?,h1,Option.isSome_none,Bool.false_eq_true,if_false];simpa using this
theorem Upd.left {w w2:World}{b off:Nat}{c1 c1' c2:List Value}(h:zaj w b off (c1++c2))(hu:Upd w w2 b off c1')(hl:c1'.length=c1.length):Upd w w2 b off (c1'++c2):=by
 obtain⟨cur,T,cur2,g1,g2,g3,g4,g5⟩:=hu;obtain⟨cur',T',h1,h2⟩:=h;rw[h1] at g1;injection g1 with g1;injection g1 with e1 e2 e3;subst e1;subst e2;refine⟨cur',T',cur2,h1,g2,g3,λi hi=>g4 i (by simp only[ye0] at hi;omega),λi u hu=> ?_⟩;by_cases hi:i<c1'.length
 ·rw[yz1 hi] at hu;exact g5 i u hu
 ·rw[ya2 (by omega)] at hu
  rw[g4 (off+i) (by omega)];refine h2 i u ?_;rw[ya2 (by omega),<-hl];exact hu
theorem Upd.right {w w2:World}{b off:Nat}{c1 c2 c2':List Value}(h:zaj w b off (c1++c2))(hu:Upd w w2 b (off+c1.length) c2')(hl:c2'.length=c2.length):Upd w w2 b off (c1++c2'):=by
 obtain⟨cur,T,cur2,g1,g2,g3,g4,g5⟩:=hu;obtain⟨cur',T',h1,h2⟩:=h;rw[h1] at g1;injection g1 with g1;injection g1 with e1 e2 e3;subst e1;subst e2;refine⟨cur',T',cur2,h1,g2,g3,λi hi=>g4 i (by simp only[ye0] at hi;omega),λi u hu=> ?_⟩;by_cases hi:i<c1.length
 ·rw[yz1 hi] at hu
  rw[g4 (off+i) (by omega)];exact h2 i u (by rw[yz1 hi];exact hu)
 ·rw[ya2 (by omega)] at hu
  have:=g5 (i -c1.length) u hu
  rwa [show off+c1.length+(i -c1.length)=off+i by omega] at this
def Focus (w:World)(Pr:Nat->Prop)(p:List PE)(t:Ty)(o:Ow)(x:PV t)(b off:Nat)(bs:List Nat):Prop:=
 ∃b' off' cs' bs' bsR,locate w p t b off=some (b',off')/\zaj w b' off' cs'/\Rep w Pr (getT p t) (getO p o) cs' (get p t x) bs'/\bs.Perm (bs'++bsR)/\(b'=b\/b'∈bsR)/\
  (∀(w2:World) (cs2:List Value),(∀k,(k∈bsR\/k=b)->k≠b'->w2.heap[k]? =w.heap[k]?)->Upd w w2 b' off' cs2->locate w2 p t b off=some (b',off'))/\
  ∀(w2:World) (Pr2:Nat->Prop) (o2 o3:Ow) (cs2:List Value) (y:PV (getT p t)) (bs2:List Nat),(∀k,Pr k->Pr2 k)->
   (∀k,(Pr k\/k∈bsR\/k=b)->k≠b'->w2.heap[k]? =w.heap[k]?)->Upd w w2 b' off' cs2->Rep w2 Pr2 (getT p t) o2 cs2 y bs2->zdl p o o2 o3->
   ∃cs3,Rep w2 Pr2 t o3 cs3 (set p t x y) (bs2++bsR)/\Upd w w2 b off cs3
theorem zcu {α:Type}{l1 l2:List α}(h:(l1++l2).Nodup){k:α}(h1:k∈l1):k∉l2:=by
 intro h2;exact(yf1.1 h).2.2 k h1 k h2 rfl
theorem focus (w:World)(Pr:Nat->Prop):∀(p:List PE) (t:Ty) (o:Ow) (x:PV t) (cs:List Value) (bs:List Nat) (b off:Nat),
 Rep w Pr t o cs x bs->zaj w b off cs->b∉bs->bs.Nodup->(∀k,Pr k->k≠b/\k∉bs)->qw p t o x->Focus w Pr p t o x b off bs
 |[],t,o,x,cs,bs,b,off,h,hh,_,_,_,_=>by
  refine⟨b,off,cs,bs,[],rfl,hh,h,by simp,.inl rfl,λ_ _ _ _=>rfl,?_⟩;intro w2 Pr2 o2 o3 cs2 y bs2 _ _ hu hr ho;simp only[zdl] at ho;subst ho;exact⟨cs2,hr.perm (by simp),hu⟩
 | .l::p,.pair a c,o,x,cs,bs,b,off,h,hh,hb,hn,hd,hp=>by
   obtain⟨c1,c2,b1,b2,rfl,e2,h1,h2⟩:=h;have hn':=e2.nodup_iff.1 hn;have m1:∀k,k∈b1->k∈bs:=λk hk=>e2.mem_iff.2 (yv0 _ hk);have m2:∀k,k∈b2->k∈bs:=λk hk=>e2.mem_iff.2 (yq0 _ hk)
   obtain⟨b',off',cs',bs',bsR,f1,f2,f3,f4,f5,fL,f6⟩:=focus w Pr p a o.fst x.1 c1 b1 b off h1 hh.left (λm=>hb (m1 _ m)) (yf1.1 hn').1
    (λk hk=>⟨(hd k hk).1,λm=>(hd k hk).2 (m1 _ m)⟩) hp
   have hb2:∀k∈b2,k≠b':=by
    rintro k hk rfl;rcases f5 with rfl|m
    ·exact hb (m2 _ hk)
    ·exact zcu hn' (f4.mem_iff.2 (yq0 _ m)) hk
   refine⟨b',off',cs',bs',bsR++b2,f1,f2,f3,?_,f5.imp id (λm=>yv0 _ m),λw2 cs2 q r=>fL w2 cs2 (λk hk=>q k (hk.imp (λm=>yv0 _ m) id)) r,?_⟩
   ·rw[<-yj0];exact e2.trans (f4.append_right _)
   ·intro w2 Pr2 o2 o3 cs2 y bs2 q1 q2 q3 q4 q5
    obtain⟨cs3,g1,g2⟩:=f6 w2 Pr2 o2 o3.fst cs2 y bs2 q1 (λk hk hne=>q2 k (hk.imp id (Or.imp (λm=>yv0 _ m) id)) hne) q3 q4 q5.1;refine⟨cs3++c2,⟨cs3,c2,bs2++bsR,b2,rfl,by rw[yj0],g1,?_⟩,Upd.left hh g2 (by rw[g1.length,h1.length])⟩;rw[q5.2];refine h2.agree q1 (λk hk=>q2 k (hk.imp id (λm=>.inl (yq0 _ m))) ?_);rintro rfl;rcases hk with hk|hk
    ·rcases f5 with rfl|m
     ·exact(hd _ hk).1 rfl
     ·exact(hd _ hk).2 (m1 _ (f4.mem_iff.2 (yq0 _ m)))
    ·exact hb2 _ hk rfl
 | .r::p,.pair a c,o,x,cs,bs,b,off,h,hh,hb,hn,hd,hp=>by
   obtain⟨c1,c2,b1,b2,rfl,e2,h1,h2⟩:=h;have hn':=e2.nodup_iff.1 hn;have m1:∀k,k∈b1->k∈bs:=λk hk=>e2.mem_iff.2 (yv0 _ hk);have m2:∀k,k∈b2->k∈bs:=λk hk=>e2.mem_iff.2 (yq0 _ hk);have hr:=hh.right;rw[h1.length] at hr
   obtain⟨b',off',cs',bs',bsR,f1,f2,f3,f4,f5,fL,f6⟩:=focus w Pr p c o.snd x.2 c2 b2 b (off+a.size) h2 hr (λm=>hb (m2 _ m)) (yf1.1 hn').2.1
    (λk hk=>⟨(hd k hk).1,λm=>(hd k hk).2 (m2 _ m)⟩) hp
   have hb1:∀k∈b1,k≠b':=by
    rintro k hk rfl;rcases f5 with rfl|m
    ·exact hb (m1 _ hk)
    ·exact zcu hn' hk (f4.mem_iff.2 (yq0 _ m))
   refine⟨b',off',cs',bs',bsR++b1,f1,f2,f3,?_,f5.imp id (λm=>yv0 _ m),λw2 cs2 q r=>fL w2 cs2 (λk hk=>q k (hk.imp (λm=>yv0 _ m) id)) r,?_⟩
   ·rw[<-yj0];exact e2.trans ((f4.append_left _).trans List.perm_append_comm)
   ·intro w2 Pr2 o2 o3 cs2 y bs2 q1 q2 q3 q4 q5
    obtain⟨cs3,g1,g2⟩:=f6 w2 Pr2 o2 o3.snd cs2 y bs2 q1 (λk hk hne=>q2 k (hk.imp id (Or.imp (λm=>yv0 _ m) id)) hne) q3 q4 q5.2;rw[<-h1.length] at g2;refine⟨c1++cs3,⟨c1,cs3,b1,bs2++bsR,rfl,by rw[<-yj0];exact List.perm_append_comm,?_,g1⟩,Upd.right hh g2 (by rw[g1.length,h2.length])⟩;rw[q5.1];refine h1.agree q1 (λk hk=>q2 k (hk.imp id (λm=>.inl (yq0 _ m))) ?_);rintro rfl;rcases hk with hk|hk
    ·rcases f5 with rfl|m
     ·exact(hd _ hk).1 rfl
     ·exact(hd _ hk).2 (m2 _ (f4.mem_iff.2 (yq0 _ m)))
    ·exact hb1 _ hk rfl
 | .ix n::p,.slice e t,.row oe,xs,cs,bs,b,off,h,hh,hb,hn,hd,hp=>by
   obtain⟨v,ys,bq,rfl,e4,e5,h1⟩:=jy.1 h;obtain⟨hlt,hp⟩:=hp;rcases ownsRow_form e4 with⟨rfl,h0,_⟩|⟨g,cap,rfl,hg,hc⟩
   ·omega
   ·have e5':bs.Perm (g::bq):=by simpa[Value.ownBlock] using e5
    have hn':=e5'.nodup_iff.1 hn;have hgb:g∈bs:=e5'.mem_iff.2 (yk0 ..);have mq:∀k,k∈bq->k∈bs:=λk hk=>e5'.mem_iff.2 (yg0 _ hk);obtain⟨c0,c,c2,b1,b2,rfl,s2,s3,s4,s5⟩:=h1.split n hlt;have hc0:c0.length=n*t.size:=s4 t.size (λ_ _ _ h=>h.length);have hx:List.getD (α:=PV t) xs n (dflt t)=xs[n]:=by simp[List.getD,hlt]
    have hgc:∃cur,w.heap[g]? =some (.cells cur e (0,0))/\xs.length<=cap/\cap<=maxLen/\cur.size=cap*t.size/\cur.toList.take (xs.length*t.size)=c0++c++c2:=by
     rcases e4.2 with⟨hbad,_⟩|⟨g',cap',cur,hv,_,k1,k2,k3,k4,k5⟩
     ·simp at hbad
     ·injection hv with hv1 hv2 hv3;injection hv1 with hv1;injection hv1 with hv1;subst hv1;subst hv3
      exact⟨cur,k1,k2,k3,k4,k5⟩
    obtain⟨cur,k1,k2,k3,k4,k5⟩:=hgc;have hcl:c.length=t.size:=s3.length;have htot:(c0++c++c2).length=xs.length*t.size:=e4.1
    have hcur:∀(i:Nat) (u:Value),(c0++c++c2)[i]? =some u->cur[i]? =some u:=by
     intro i u hu;rw[<-k5,List.getElem?_take] at hu;split at hu
     ·simpa using hu
     ·cases hu
    have hhg:zaj w g (n*t.size) c:=⟨cur,e,k1,λi u hu=>hcur _ _ (by
     rw[<-hc0,yj0,ya2 (by omega),yy2,yz1 (yf2.1 hu).1];exact hu)⟩
    have m1:∀k,k∈b1->k∈bq:=λk hk=>s2.mem_iff.2 (yv0 _ hk);have m2:∀k,k∈b2->k∈bq:=λk hk=>s2.mem_iff.2 (yq0 _ hk);have hgq:g∉bq:=(List.nodup_cons.1 hn').1;have hnq:=s2.nodup_iff.1 (List.nodup_cons.1 hn').2;rw[hx] at hp
    obtain⟨b',off',cs',bs',bsR,f1,f2,f3,f4,f5,fL,f6⟩:=focus w Pr p t oe xs[n] c b1 g (n*t.size) s3 hhg (λm=>hgq (m1 _ m)) (yf1.1 hnq).1
     (λk hk=>⟨λhkg=>(hd k hk).2 (hkg▸hgb),λm=>(hd k hk).2 (mq _ (m1 _ m))⟩) hp
    have hb'm:b'∈bs:=by
     rcases f5 with rfl|m
     ·exact hgb
     ·exact mq _ (m1 _ (f4.mem_iff.2 (yq0 _ m)))
    have hbb':b≠b':=λhbb=>hb (hbb▸hb'm);refine⟨b',off',cs',bs',bsR++g::b2,?_,f2,by rw[show get (.ix n::p) (.slice e t) xs=get p t (List.getD (α:=PV t) xs n (dflt t)) from rfl,hx];exact f3,?_,.inr ?_,?_,?_⟩
    ·show locate w (.ix n::p) (.slice e t) b off=_
     simp only[locate,hh.cell];exact f1
    ·refine e5'.trans ?_
     rw[<-yj0];refine((s2.trans (f4.append_right _)).cons g).trans ?_;exact List.perm_middle.symm
    ·rcases f5 with rfl|m
     ·exact yq0 _ (yk0 ..)
     ·exact yv0 _ m
    ·intro w2 cs2 q r
     have hcell:w2.cell? ⟨b,off,none⟩=some (.slice (some ⟨g,0,none⟩) (List.length (α:=PV t) xs) cap):=by
      rw[World.cell?_of_block (w:=w) (a:=⟨b,off,none⟩) (q b (.inr rfl) hbb')];exact hh.cell
     simp only[locate,hcell];refine fL w2 cs2 (λk hk=>q k (.inl ?_)) r;rcases hk with hk|rfl
     ·exact yv0 _ hk
     ·exact yq0 _ (yk0 ..)
    ·intro w2 Pr2 o2 o3 cs2 y bs2 q1 q2 q3 q4 q5
     obtain⟨oe',he1,he2,q5⟩:=q5;injection he1 with he1;subst he1;subst he2
     have hag:∀k,(Pr k\/k∈bsR\/k=g)->k≠b'->w2.heap[k]? =w.heap[k]? :=by
      rintro k (hk|hk|rfl) hne
      ·exact q2 k (.inl hk) hne
      ·exact q2 k (.inr (.inl (yv0 _ hk))) hne
      ·exact q2 k (.inr (.inl (yq0 _ (yk0 ..)))) hne
     obtain⟨cs3,g1,g2⟩:=f6 w2 Pr2 o2 oe cs2 y bs2 q1 hag q3 q4 q5;have hl3:cs3.length=c.length:=by rw[g1.length,hcl]
     obtain⟨cura,Ta,cur2,u1,u2,u3,u4,u5⟩:=g2;rw[k1] at u1;injection u1 with u1;injection u1 with w1 w2' w3;subst w1;subst w2'
     have hrow:w2.ownsRow 0 e t.size (.slice (some ⟨g,0,none⟩) (List.length (α:=PV t) xs) cap) (List.length (α:=PV t) xs) (c0++cs3++c2):=by
      refine⟨by rw[<-htot];simp[hl3],.inr ⟨g,cap,cur2,rfl,ye1 _,u2,k2,k3,by rw[u3];exact k4,?_⟩⟩;apply List.ext_getElem?;intro i;rw[List.getElem?_take];have hi2:∀(i:Nat),(cur2.toList)[i]? =cur2[i]? :=λi=>by simp
      split
      ·rename_i hi
       rw[hi2];by_cases hA:i<n*t.size
       ·rw[u4 i (.inl hA),yj0,yz1 (by omega)]
        have:=hcur i;rw[yj0,yz1 (by omega)] at this;rw[yt1 (by omega)];exact this _ (yt1 (by omega))
       ·by_cases hB:i<n*t.size+c.length
        ·have:=u5 (i -n*t.size) _ (yt1 (by omega))
         rw[show n*t.size+(i -n*t.size)=i by omega] at this;rw[this,yz1 (by simp;omega),ya2 (by omega),hc0,yt1 (by omega)]
        ·rw[u4 i (.inr (by omega)),ya2 (by simp;omega)]
         have:=hcur i;rw[ya2 (by simp;omega)] at this;have hl:(c0++cs3).length=(c0++c).length:=by simp[hl3]
         rw[hl];have hlen:i -(c0++c).length<c2.length:=by simp only[ye0] at htot ⊢;omega
         rw[yt1 hlen];exact this _ (yt1 hlen)
      ·rename_i hi
       rw[yh2];simp only[ye0] at htot ⊢;omega
     have hL:RepL (Rep w2 Pr2 t oe) (c0++cs3++c2) (List.set (α:=PV t) xs n (set p t xs[n] y)) ((bs2++bsR)++b2):=by
      refine s5 (Rep w2 Pr2 t oe) (λc x b'' hb'' hr=>hr.agree q1 (λk hk=>q2 k ?_ ?_)) cs3 _ _ g1
      ·rcases hk with hk|hk
       ·exact .inl hk
       ·exact .inr (.inl (yq0 _ (yg0 _ (hb'' _ hk))))
      ·rintro rfl
       rcases hk with hk|hk
       ·exact(hd _ hk).2 hb'm
       ·have hkb:=hb'' _ hk
        rcases f5 with rfl|m
        ·exact hgq (m2 _ hkb)
        ·exact zcu hnq (f4.mem_iff.2 (yq0 _ m)) hkb
     refine⟨[.slice (some ⟨g,0,none⟩) (List.length (α:=PV t) xs) cap],jy.2 ⟨_,c0++cs3++c2,(bs2++bsR)++b2,rfl,?_,?_,?_⟩,hh.upd (q2 b (.inr (.inr rfl)) hbb')⟩
     ·show w2.ownsRow 0 e t.size _ (List.length (α:=PV t) (List.set (α:=PV t) xs n _)) _
      rw[yc2];exact hrow
     ·simp only[Value.ownBlock,Option.toList_some,List.singleton_append]
      rw[<-yj0];exact List.perm_middle
     ·show RepL _ _ (List.set (α:=PV t) xs n (set p t (List.getD (α:=PV t) xs n (dflt t)) y)) _
      rw[hx];exact hL
 | .l::_,.int _,_,_,_,_,_,_,_,_,_,_,_,hp| .l::_,.bool,_,_,_,_,_,_,_,_,_,_,_,hp| .l::_,.str,_,_,_,_,_,_,_,_,_,_,_,hp
 | .l::_,.unit,_,_,_,_,_,_,_,_,_,_,_,hp| .l::_,.slice _ _,_,_,_,_,_,_,_,_,_,_,_,hp=>by simp[qw] at hp
 | .r::_,.int _,_,_,_,_,_,_,_,_,_,_,_,hp| .r::_,.bool,_,_,_,_,_,_,_,_,_,_,_,hp| .r::_,.str,_,_,_,_,_,_,_,_,_,_,_,hp
 | .r::_,.unit,_,_,_,_,_,_,_,_,_,_,_,hp| .r::_,.slice _ _,_,_,_,_,_,_,_,_,_,_,_,hp=>by simp[qw] at hp
 | .ix _::_,.int _,_,_,_,_,_,_,_,_,_,_,_,hp| .ix _::_,.bool,_,_,_,_,_,_,_,_,_,_,_,hp| .ix _::_,.str,_,_,_,_,_,_,_,_,_,_,_,hp
 | .ix _::_,.unit,_,_,_,_,_,_,_,_,_,_,_,hp| .ix _::_,.pair _ _,_,_,_,_,_,_,_,_,_,_,_,hp
 | .ix _::_,.slice _ _,.b,_,_,_,_,_,_,_,_,_,_,hp| .ix _::_,.slice _ _,.pr _ _,_,_,_,_,_,_,_,_,_,_,hp=>by simp[qw] at hp
end Go.Dn
end

section
/- The interpreter's environment: what each slot of a frame is known to hold, and what that says of the machine's values and memory. -/
namespace Go.Dn
structure Al where
 j:Nat
 p:List PE
 iv:Nat
 cv:Nat
structure TV where
 t:Ty
 o:Ow
 x:PV t
inductive Slot where
 |none
 |val (t:Ty) (o:Ow) (x:PV t)
 |var (t:Ty) (o:Ow) (x:PV t)
 |hole (isVar:Bool) (t:Ty) (o:Ow) (x:PV t) (p:List PE)
 |sub (a:Al)
 |addr (a:Al)
 |view (a:Al) (t:Ty) (x:PV t)
 |bad (t:Ty) (x:PV t)
 |fn (f:FuncId) (caps:List Al)
 |tup (l:List TV)
structure Ent where
 iv:Nat
 cv:Nat
 s:Slot
abbrev Env:=List Ent
def Env.at (E:Env)(k:Nat):Ent:=E.getD k ⟨0,0,.none⟩
def zbf (w:World)(b off:Nat):Nat->List Value
 |0=>[]
 |n+1=>(w.cell? ⟨b,off,none⟩).getD undef::zbf w b (off+1) n
theorem zaj.read {w:World}:∀{cs:List Value} {b off:Nat},zaj w b off cs->zbf w b off cs.length=cs
 |[],_,_,_=>rfl
 |v::cs,b,off,h=>by
  simp only[yf0,zbf];rw[h.cell,Option.getD_some,zaj.read (cs:=cs) (b:=b) (off:=off+1) (by simpa using zaj.right (c1:=[v]) (c2:=cs) h)]
def vg (w:World)(Pr:Nat->Prop)(v:Value)(t:Ty)(o:Ow)(x:PV t)(bs:List Nat):Prop:=
 ∃b cs bs0,v=.pointer (some ⟨b,0,none⟩)/\zaj w b 0 cs/\Rep w Pr t o cs x bs0/\bs.Perm (b::bs0)
def zx (w:World)(Pr:Nat->Prop)(v:Value)(t:Ty)(o:Ow)(x:PV t)(bs:List Nat):Prop:=
 ∃cs,v=pack t cs/\Rep w Pr t o cs x bs
def zc0 (w:World)(Pr:Nat->Prop)(isVar:Bool)(v:Value)(t:Ty)(o:Ow)(x:PV t)(bs:List Nat):Prop:=
 if isVar then vg w Pr v t o x bs else zx w Pr v t o x bs
def jl (w:World)(isVar:Bool)(t:Ty)(v:Value)(p:List PE):Option (Nat×Nat):=
 match isVar,v with
 |true,.pointer (some ⟨b,0,Option.none⟩)=>locate w p t b 0
 |false,.slice (some a) _ _=>
  match p,t with
  | .ix n::p,.slice _ t=>locate w p t a.block (n*t.size)
  |_,_=>Option.none
 |_,_=>Option.none
def lenOf:(t:Ty)->PV t->Nat
 | .slice _ t,xs=>List.length (α:=PV t) xs
 |_,_=>0
def Scl:(t:Ty)->List Value->PV t->Prop
 | .int k,cs,n=>cs=[.int k n]
 | .pair a b,cs,x=>∃c1 c2,cs=c1++c2/\c1.length=a.size/\Scl a c1 x.1/\Scl b c2 x.2
 |_,_,_=>True
theorem Rep.scl {w:World}{Pr:Nat->Prop}:∀{t:Ty} {o:Ow} {cs:List Value} {x:PV t} {bs:List Nat},Rep w Pr t o cs x bs->Scl t cs x
 | .int k,_,_,_,_,h=>by simp only[Rep] at h;exact h.1
 | .pair a b,o,cs,x,bs,h=>by
   obtain⟨c1,c2,b1,b2,e,_,h1,h2⟩:=qbk.1 h;exact⟨c1,c2,e,h1.length,Rep.scl h1,Rep.scl h2⟩
 | .bool,_,_,_,_,_| .str,_,_,_,_,_| .unit,_,_,_,_,_| .slice _ _,_,_,_,_,_=>trivial
def zd7 (w:World)(Pr:Nat->Prop)(isVar:Bool)(v:Value)(t:Ty)(o:Ow)(x:PV t)(p:List PE)(bs:List Nat):Prop:=
 ∃b' off' cs',jl w isVar t v p=some (b',off')/\zaj w b' off' cs'/\cs'.length=(getT p t).size/\b'∈bs/\qw p t o x/\
 (∀(w2:World) (cs2:List Value),(∀k,k∈bs->k≠b'->w2.heap[k]? =w.heap[k]?)->Upd w w2 b' off' cs2->jl w2 isVar t v p=some (b',off'))/\
 (∀(w2:World) (Pr2:Nat->Prop) (o2 o3:Ow) (cs2:List Value) (y:PV (getT p t)) (bs2:List Nat),(∀k,Pr k->Pr2 k)->
    (∀k,(Pr k\/k∈bs)->k≠b'->w2.heap[k]? =w.heap[k]?)->Upd w w2 b' off' cs2->Rep w2 Pr2 (getT p t) o2 cs2 y bs2->zdl p o o2 o3->
    zc0 w2 Pr2 isVar v t o3 (set p t x y) (bs2++bs))/\
 (isVar=false->∃g c,v=.slice (some ⟨g,0,none⟩) (lenOf t x) c)/\(p=[]->Scl t cs' x)
def Al.live (a:Al)(E:Env)(e:Ent):Prop:=E[a.j]? =some e/\a.iv<=e.iv/\(a.iv=e.iv->a.cv<=e.cv)
def Al.okC (a:Al)(E:Env):Bool:=(E.at a.j).iv==a.iv&&(E.at a.j).cv==a.cv
def za7:List PE->Bool
 |[]=>true
 | .ix _::_=>false
 |_::p=>za7 p
def ptr (loc:Nat×Nat):Value:=.pointer (some ⟨loc.1,loc.2,none⟩)
def zwt (w:World)(s:Slot)(vj v:Value)(q:List PE):Prop:=
 match s with
 | .val t o x=>qw q t o x/\∃loc,jl w false t vj q=some loc/\v=ptr loc
 | .var t o x=>qw q t o x/\∃loc,jl w true t vj q=some loc/\v=ptr loc
 | .hole iV t _ _ p=>(∀s,p=q++s->za7 s=true->∃loc,jl w iV t vj q=some loc/\v=ptr loc)/\(p=[]->iV=true->za7 q=true->∃loc,jl w true t vj q=some loc/\v=ptr loc)
 |_=>True
def elSz:Ty->Nat
 | .slice _ t=>t.size
 |_=>0
def zxb (w:World)(s:Slot)(vj v:Value)(q:List PE):Prop:=
 match s with
 | .val t o x=>qw q t o x/\∃loc,jl w false t vj q=some loc/\v=pack (getT q t) (zbf w loc.1 loc.2 (getT q t).size)
 | .var t o x=>qw q t o x/\∃loc,jl w true t vj q=some loc/\v=pack (getT q t) (zbf w loc.1 loc.2 (getT q t).size)
 | .hole iV t _ x p=>∀m s,p=q++.ix m::s->za7 s=true->∃g c,v=.slice (some ⟨g,0,none⟩) (lenOf (getT q t) (get q t x)) c/\jl w iV t vj (q++[.ix m])=some (g,m*elSz (getT q t))
 |_=>True
def Slot.zay:Slot->Bool
 | .val _ _ _=>true
 | .hole iV _ _ _ _=> !iV
 |_=>false
def Slot.isHole:Slot->Bool
 | .hole _ _ _ _ _=>true
 |_=>false
def zc2 (w:World)(E:Env)(V:List Value)(a:Al)(v:Value):Prop:=
 ∃e vj,a.live E e/\V[a.j]? =some vj/\(e.iv=a.iv->(a.p=[]->e.s.zay=true->v=vj)/\(e.cv=a.cv->(a.p≠[]\/e.s.zay=false)->zxb w e.s vj v a.p))
def zbb (w:World)(E:Env)(V:List Value)(a:Al)(v:Value):Prop:=
 ∃e vj,a.live E e/\V[a.j]? =some vj/\(e.iv=a.iv->(a.p=[]->v=vj)/\(a.p≠[]->e.cv=a.cv->zwt w e.s vj v a.p))
def qfj (w:World)(Pr:Nat->Prop)(t:Ty)(x:PV t)(v:Value):Prop:=
 ∃a cs,v=.pointer (some a)/\Pr a.block/\Cells w a cs/\Rep w Pr t .b cs x []
def AllL {α β:Type}(R:α->β->Prop):List α->List β->Prop
 |[],[]=>True
 |a::aL,b::bs=>R a b/\AllL R aL bs
 |_,_=>False
def zat (w:World)(Pr:Nat->Prop):List TV->List Value->List Nat->Prop
 |[],[],bs=>bs=[]
 |a::aL,v::vs,bs=>∃b1 b2,bs.Perm (b1++b2)/\(a.t=.unit\/zx w Pr v a.t a.o a.x b1)/\zat w Pr aL vs b2
 |_,_,_=>False
def jd (w:World)(Pr:Nat->Prop)(E:Env)(V:List Value)(B:Nat->List Nat)(k:Nat)(s:Slot)(v:Value):Prop:=
 match s with
 | .none=>True
 | .val t o x=>zx w Pr v t o x (B k)
 | .var t o x=>vg w Pr v t o x (B k)
 | .hole iV t o x p=>zd7 w Pr iV v t o x p (B k)
 | .sub a=>zc2 w E V a v
 | .addr a=>zbb w E V a v
 | .view a t x=>∃e,a.live E e/\(e.iv=a.iv->e.cv=a.cv->e.s.isHole=false->∃cs,v=pack t cs/\Rep w (λb=>Pr b\/b∈B a.j) t .b cs x [])
 | .bad t x=>qfj w Pr t x v
 | .fn f caps=>∃vs:List Value,v=.func (.func f) #[] vs.toArray/\AllL (zbb w E V) caps vs
 | .tup l=>∃vs:List Value,v=.tuple vs.toArray/\zat w Pr l vs (B k)
structure StB (w0:World)(Pr0 M:Nat->Prop)(E:Env)(V:List Value)(w:World)(Pr:Nat->Prop)(B:Nat->List Nat):Prop where
 len:E.length=V.length
 pr0:∀k,Pr0 k->Pr k
 prlt:∀k,Pr k->k<w.heap.size
 prnew:∀k,Pr k->Pr0 k\/w0.heap.size<=k\/M k
 slots:∀k e v,E[k]? =some e->V[k]? =some v->jd w Pr E V B k e.s v
 nodup:∀k,(B k).Nodup
 disj:∀j k,j≠k->∀b∈B j,b∉B k
 free:∀k,∀b∈B k,(w0.heap.size<=b\/M b)/\¬Pr b/\b<w.heap.size
 os:w.os=w0.os
 tape:w.tape=w0.tape
 output:w.output=w0.output
 size:w0.heap.size<=w.heap.size
 frame:∀k,k<w0.heap.size->¬M k->w.heap[k]? =w0.heap[k]?
def St (w0:World)(Pr0 M:Nat->Prop)(E:Env)(V:List Value)(w:World):Prop:=∃Pr B,StB w0 Pr0 M E V w Pr B/\∀k,E.length<=k->B k=[]
end Go.Dn
end

section
/- What the environment says outlives changes elsewhere: the master lemma on updates. -/
namespace Go.Dn
def xg:List PE->Ty->Nat
 | .l::p,.pair a _=>xg p a
 | .r::p,.pair a b=>a.size+xg p b
 |_,_=>0
theorem zlo (w:World):∀(q s:List PE) (t:Ty) (b off:Nat),locate w (q++s) t b off=(locate w q t b off).bind λz=>locate w s (getT q t) z.1 z.2
 |[],_,_,_,_=>rfl
 | .l::q,s,.pair a c,b,off=>zlo w q s a b off
 | .r::q,s,.pair a c,b,off=>zlo w q s c b (off+a.size)
 | .ix n::q,s,.slice e t,b,off=>by
   show locate w (.ix n::(q++s)) (.slice e t) b off=(locate w (.ix n::q) (.slice e t) b off).bind _;simp only[locate];split
   ·exact zlo w q s t _ _
   ·rfl
 | .l::_,_,.int _,_,_| .l::_,_,.bool,_,_| .l::_,_,.str,_,_| .l::_,_,.unit,_,_| .l::_,_,.slice _ _,_,_=>rfl
 | .r::_,_,.int _,_,_| .r::_,_,.bool,_,_| .r::_,_,.str,_,_| .r::_,_,.unit,_,_| .r::_,_,.slice _ _,_,_=>rfl
 | .ix _::_,_,.int _,_,_| .ix _::_,_,.bool,_,_| .ix _::_,_,.str,_,_| .ix _::_,_,.unit,_,_| .ix _::_,_,.pair _ _,_,_=>rfl
theorem zmm (w:World):∀(s:List PE) (t:Ty) (b off:Nat) (z:Nat×Nat),za7 s=true->locate w s t b off=some z->z=(b,off+xg s t)
 |[],t,b,off,z,_,h=>by simp only[locate,yn0] at h;rw[<-h];simp[xg]
 | .l::s,.pair a c,b,off,z,hs,h=>zmm w s a b off z hs h
 | .r::s,.pair a c,b,off,z,hs,h=>by
   have:=zmm w s c b (off+a.size) z hs h;rw[this];simp[xg,Nat.add_assoc]
 | .ix _::_,_,_,_,_,hs,_=>by simp[za7] at hs
 | .l::_,.int _,_,_,_,_,h| .l::_,.bool,_,_,_,_,h| .l::_,.str,_,_,_,_,h| .l::_,.unit,_,_,_,_,h| .l::_,.slice _ _,_,_,_,_,h=>by simp[locate] at h
 | .r::_,.int _,_,_,_,_,h| .r::_,.bool,_,_,_,_,h| .r::_,.str,_,_,_,_,h| .r::_,.unit,_,_,_,_,h| .r::_,.slice _ _,_,_,_,_,h=>by simp[locate] at h
theorem zjh (w:World)(iV:Bool)(t:Ty)(v:Value)(q s:List PE)(hq:iV=true\/q≠[]):
 jl w iV t v (q++s)=(jl w iV t v q).bind λz=>locate w s (getT q t) z.1 z.2:=by
 unfold jl;cases iV with
 |true=>
  cases v<;>first|rfl|skip
  rename_i a;cases a with
  |none=>rfl
  |some a=>
   obtain⟨b,n,sp⟩:=a;cases n<;>cases sp<;>first|rfl|exact zlo w q s t _ _
 |false=>
  cases v<;>first|rfl|skip
  rename_i a _ _;cases a with
  |none=>rfl
  |some a=>
   cases q with
   |nil=>simp at hq
   |cons e q=>
    cases e<;>cases t<;>first|rfl|exact zlo w q s _ _ _
theorem z3w {w w':World}{iV:Bool}{t:Ty}{v:Value}{q s:List PE}{z loc:Nat×Nat}(hq:iV=true\/q≠[])(hs:za7 s=true)
 (h1:jl w iV t v (q++s)=some z)(h2:jl w' iV t v (q++s)=some z)(hl:jl w iV t v q=some loc):jl w' iV t v q=some loc:=by
 rw[zjh _ _ _ _ _ _ hq] at h1 h2;rw[hl] at h1;simp only[ya0] at h1;cases hl2:jl w' iV t v q with
 |none=>rw[hl2] at h2;simp at h2
 |some loc2=>
  rw[hl2] at h2;simp only[ya0] at h2;have e1:=zmm w s _ _ _ _ hs h1;have e2:=zmm w' s _ _ _ _ hs h2;rw[e1] at e2;obtain⟨b1,o1⟩:=loc;obtain⟨b2,o2⟩:=loc2;simp only[ya1,Nat.add_right_cancel_iff] at e2;rw[e2.1,e2.2]
def ze7 (w:World)(Pr:Nat->Prop)(iV:Bool)(v:Value)(t:Ty)(o:Ow)(x:PV t)(bs:List Nat)(q:List PE):Prop:=
 ∃b' off' cs' bs' bsR,jl w iV t v q=some (b',off')/\zaj w b' off' cs'/\Rep w Pr (getT q t) (getO q o) cs' (get q t x) bs'/\bs.Perm (bs'++bsR)/\b'∈bsR/\
  (∀(w2:World) (cs2:List Value),(∀k,k∈bsR->k≠b'->w2.heap[k]? =w.heap[k]?)->Upd w w2 b' off' cs2->jl w2 iV t v q=some (b',off'))/\
  ∀(w2:World) (Pr2:Nat->Prop) (o2 o3:Ow) (cs2:List Value) (y:PV (getT q t)) (bs2:List Nat),(∀k,Pr k->Pr2 k)->
   (∀k,(Pr k\/k∈bsR)->k≠b'->w2.heap[k]? =w.heap[k]?)->Upd w w2 b' off' cs2->Rep w2 Pr2 (getT q t) o2 cs2 y bs2->zdl q o o2 o3->
   zc0 w2 Pr2 iV v t o3 (set q t x y) (bs2++bsR)
theorem q2a {w:World}{Pr:Nat->Prop}{v:Value}{t:Ty}{o:Ow}{x:PV t}{bs:List Nat}{q:List PE}(h:vg w Pr v t o x bs)
 (hn:bs.Nodup)(hd:∀k,Pr k->k∉bs)(hp:qw q t o x):ze7 w Pr true v t o x bs q:=by
 obtain⟨b,cs,bs0,rfl,h1,h2,h3⟩:=h;have hn':=h3.nodup_iff.1 hn
 obtain⟨b',off',cs',bs',bsR,f1,f2,f3,f4,f5,fL,f6⟩:=focus w Pr q t o x cs bs0 b 0 h2 h1 (List.nodup_cons.1 hn').1 (List.nodup_cons.1 hn').2
  (λk hk=>⟨λe=>hd k hk (h3.mem_iff.2 (e▸yk0 ..)),λm=>hd k hk (h3.mem_iff.2 (yg0 _ m))⟩) hp
 refine⟨b',off',cs',bs',b::bsR,f1,f2,f3,h3.trans ((f4.cons b).trans List.perm_middle.symm),?_,λw2 cs2 q r=>fL w2 cs2 (λk hk=>q k ?_) r,?_⟩
 ·rcases f5 with rfl|m
  ·exact yk0 ..
  ·exact yg0 _ m
 ·rcases hk with hk|rfl
  ·exact yg0 _ hk
  ·exact yk0 ..
 ·intro w2 Pr2 o2 o3 cs2 y bs2 q1 q2 q3 q4 q5
  obtain⟨cs3,g1,g2⟩:=f6 w2 Pr2 o2 o3 cs2 y bs2 q1 (λk hk=>q2 k (by
   rcases hk with hk|hk|rfl
   ·exact .inl hk
   ·exact .inr (yg0 _ hk)
   ·exact .inr (yk0 ..))) q3 q4 q5
  show vg _ _ _ _ _ _ _;exact⟨b,cs3,bs2++bsR,rfl,g2.holds,g1,List.perm_middle⟩
theorem q2b {w:World}{Pr:Nat->Prop}{v:Value}{e:TypeId}{t:Ty}{o:Ow}{xs:List (PV t)}{bs:List Nat}{n:Nat}{q:List PE}(h:zx w Pr v (.slice e t) o xs bs)
 (hn:bs.Nodup)(hd:∀k,Pr k->k∉bs)(hp:qw (.ix n::q) (.slice e t) o xs):ze7 w Pr false v (.slice e t) o xs bs (.ix n::q):=by
 obtain⟨cs,rfl,h⟩:=h;cases o with
 |b=>simp[qw] at hp
 |pr _ _=>simp[qw] at hp
 |row oe=>
 obtain⟨v,ys,bq,rfl,e4,e5,h1⟩:=jy.1 h;obtain⟨hlt,hp⟩:=hp;rcases ownsRow_form e4 with⟨rfl,h0,_⟩|⟨g,cap,rfl,hg,hc⟩
 ·exact absurd hlt (by omega)
 have e5':bs.Perm (g::bq):=by simpa[Value.ownBlock] using e5
 have hn':=e5'.nodup_iff.1 hn;have hgb:g∈bs:=e5'.mem_iff.2 (yk0 ..);have mq:∀k,k∈bq->k∈bs:=λk hk=>e5'.mem_iff.2 (yg0 _ hk);obtain⟨c0,c,c2,b1,b2,rfl,s2,s3,s4,s5⟩:=h1.split n hlt;have hc0:c0.length=n*t.size:=s4 t.size (λ_ _ _ h=>h.length);have hx:List.getD (α:=PV t) xs n (dflt t)=xs[n]:=by simp[List.getD,hlt]
 have hgc:∃cur,w.heap[g]? =some (.cells cur e (0,0))/\xs.length<=cap/\cap<=maxLen/\cur.size=cap*t.size/\cur.toList.take (xs.length*t.size)=c0++c++c2:=by
  rcases e4.2 with⟨hbad,_⟩|⟨g',cap',cur,hv,_,k1,k2,k3,k4,k5⟩
  ·simp at hbad
  ·injection hv with hv1 hv2 hv3;injection hv1 with hv1;injection hv1 with hv1;subst hv1;subst hv3
   exact⟨cur,k1,k2,k3,k4,k5⟩
 obtain⟨cur,k1,k2,k3,k4,k5⟩:=hgc;have hcl:c.length=t.size:=s3.length;have htot:(c0++c++c2).length=xs.length*t.size:=e4.1
 have hcur:∀(i:Nat) (u:Value),(c0++c++c2)[i]? =some u->cur[i]? =some u:=by
  intro i u hu;rw[<-k5,List.getElem?_take] at hu;split at hu
  ·simpa using hu
  ·cases hu
 have hhg:zaj w g (n*t.size) c:=⟨cur,e,k1,λi u hu=>hcur _ _ (by
  rw[<-hc0,yj0,ya2 (by omega),yy2,yz1 (yf2.1 hu).1];exact hu)⟩
 have m1:∀k,k∈b1->k∈bq:=λk hk=>s2.mem_iff.2 (yv0 _ hk);have m2:∀k,k∈b2->k∈bq:=λk hk=>s2.mem_iff.2 (yq0 _ hk);have hgq:g∉bq:=(List.nodup_cons.1 hn').1;have hnq:=s2.nodup_iff.1 (List.nodup_cons.1 hn').2;rw[hx] at hp
 obtain⟨b',off',cs',bs',bsR,f1,f2,f3,f4,f5,fL,f6⟩:=focus w Pr q t oe xs[n] c b1 g (n*t.size) s3 hhg (λm=>hgq (m1 _ m)) (yf1.1 hnq).1
  (λk hk=>⟨λhkg=>hd k hk (hkg▸hgb),λm=>hd k hk (mq _ (m1 _ m))⟩) hp
 have hb'm:b'∈bs:=by
  rcases f5 with rfl|m
  ·exact hgb
  ·exact mq _ (m1 _ (f4.mem_iff.2 (yq0 _ m)))
 refine⟨b',off',cs',bs',bsR++g::b2,f1,f2,?_,?_,?_,?_,?_⟩
 ·rw[show get (.ix n::q) (.slice e t) xs=get q t (List.getD (α:=PV t) xs n (dflt t)) from rfl,hx];exact f3
 ·refine e5'.trans ?_
  rw[<-yj0];exact((s2.trans (f4.append_right _)).cons g).trans List.perm_middle.symm
 ·rcases f5 with rfl|m
  ·exact yq0 _ (yk0 ..)
  ·exact yv0 _ m
 ·intro w2 cs2 q' r
  refine fL w2 cs2 (λk hk=>q' k ?_) r;rcases hk with hk|rfl
  ·exact yv0 _ hk
  ·exact yq0 _ (yk0 ..)
 ·intro w2 Pr2 o2 o3 cs2 y bs2 q1 q2 q3 q4 q5
  obtain⟨oe',he1,he2,q5⟩:=q5;injection he1 with he1;subst he1;subst he2
  have hag:∀k,(Pr k\/k∈bsR\/k=g)->k≠b'->w2.heap[k]? =w.heap[k]? :=by
   rintro k (hk|hk|rfl) hne
   ·exact q2 k (.inl hk) hne
   ·exact q2 k (.inr (yv0 _ hk)) hne
   ·exact q2 k (.inr (yq0 _ (yk0 ..))) hne
  obtain⟨cs3,g1,g2⟩:=f6 w2 Pr2 o2 oe cs2 y bs2 q1 hag q3 q4 q5;have hl3:cs3.length=c.length:=by rw[g1.length,hcl]
  obtain⟨cura,Ta,cur2,u1,u2,u3,u4,u5⟩:=g2;rw[k1] at u1;injection u1 with u1;injection u1 with w1 w2' w3;subst w1;subst w2'
  have hrow:w2.ownsRow 0 e t.size (.slice (some ⟨g,0,none⟩) (List.length (α:=PV t) xs) cap) (List.length (α:=PV t) xs) (c0++cs3++c2):=by
   refine⟨by rw[<-htot];simp[hl3],.inr ⟨g,cap,cur2,rfl,ye1 _,u2,k2,k3,by rw[u3];exact k4,?_⟩⟩;apply List.ext_getElem?;intro i;rw[List.getElem?_take];have hi2:∀(i:Nat),(cur2.toList)[i]? =cur2[i]? :=λi=>by simp
   split
   ·rename_i hi
    rw[hi2];by_cases hA:i<n*t.size
    ·rw[u4 i (.inl hA),yj0,yz1 (by omega)]
     have:=hcur i;rw[yj0,yz1 (by omega)] at this;rw[yt1 (by omega)];exact this _ (yt1 (by omega))
    ·by_cases hB:i<n*t.size+c.length
     ·have:=u5 (i -n*t.size) _ (yt1 (by omega))
      rw[show n*t.size+(i -n*t.size)=i by omega] at this;rw[this,yz1 (by simp;omega),ya2 (by omega),hc0,yt1 (by omega)]
     ·rw[u4 i (.inr (by omega)),ya2 (by simp;omega)]
      have:=hcur i;rw[ya2 (by simp;omega)] at this;have hl:(c0++cs3).length=(c0++c).length:=by simp[hl3]
      rw[hl];have hlen:i -(c0++c).length<c2.length:=by simp only[ye0] at htot ⊢;omega
      rw[yt1 hlen];exact this _ (yt1 hlen)
   ·rename_i hi
    rw[yh2];simp only[ye0] at htot ⊢;omega
  have hL:RepL (Rep w2 Pr2 t oe) (c0++cs3++c2) (List.set (α:=PV t) xs n (set q t xs[n] y)) ((bs2++bsR)++b2):=by
   refine s5 (Rep w2 Pr2 t oe) (λc x b'' hb'' hr=>hr.agree q1 (λk hk=>q2 k ?_ ?_)) cs3 _ _ g1
   ·rcases hk with hk|hk
    ·exact .inl hk
    ·exact .inr (yq0 _ (yg0 _ (hb'' _ hk)))
   ·rintro rfl
    rcases hk with hk|hk
    ·exact hd _ hk hb'm
    ·have hkb:=hb'' _ hk
     rcases f5 with rfl|m
     ·exact hgq (m2 _ hkb)
     ·exact zcu hnq (f4.mem_iff.2 (yq0 _ m)) hkb
  show zx _ _ _ _ _ _ _;refine⟨[.slice (some ⟨g,0,none⟩) (List.length (α:=PV t) xs) cap],rfl,jy.2 ⟨_,c0++cs3++c2,(bs2++bsR)++b2,rfl,?_,?_,?_⟩⟩
  ·show w2.ownsRow 0 e t.size _ (List.length (α:=PV t) (List.set (α:=PV t) xs n _)) _
   rw[yc2];exact hrow
  ·simp only[Value.ownBlock,Option.toList_some,List.singleton_append]
   rw[<-yj0];exact List.perm_middle
  ·show RepL _ _ (List.set (α:=PV t) xs n (set q t (List.getD (α:=PV t) xs n (dflt t)) y)) _
   rw[hx];exact hL
theorem zh7 {w:World}{Pr:Nat->Prop}{iV:Bool}{v:Value}{t:Ty}{o:Ow}{x:PV t}{bs:List Nat}{q:List PE}(h:zc0 w Pr iV v t o x bs)
 (hn:bs.Nodup)(hd:∀k,Pr k->k∉bs)(hp:qw q t o x)(hq:iV=true\/(jl w iV t v q).isSome):ze7 w Pr iV v t o x bs q:=by
 cases iV with
 |true=>exact q2a h hn hd hp
 |false=>
  simp only[Bool.false_eq_true,false_or] at hq;cases q with
  |nil=>cases v<;>simp[jl] at hq;rename_i a _ _;cases a<;>simp at hq
  |cons e q=>
   cases e with
   |l=>cases v<;>simp[jl] at hq;rename_i a _ _;cases a<;>simp at hq
   |r=>cases v<;>simp[jl] at hq;rename_i a _ _;cases a<;>simp at hq
   |ix n=>
    cases t with
    |slice e t=>exact q2b h hn hd hp
    |_=>simp[qw] at hp
theorem zqc {w w':World}{Pr:Nat->Prop}{iV:Bool}{v:Value}{t:Ty}{o:Ow}{x:PV t}{bs:List Nat}{q:List PE}{loc:Nat×Nat}(h:zc0 w Pr iV v t o x bs)
 (hn:bs.Nodup)(hd:∀k,Pr k->k∉bs)(hp:qw q t o x)(hl:jl w iV t v q=some loc)(ha:∀k∈bs,w'.heap[k]? =w.heap[k]?):
 jl w' iV t v q=some loc/\zbf w' loc.1 loc.2 (getT q t).size=zbf w loc.1 loc.2 (getT q t).size:=by
 obtain⟨b',off',cs',bs',bsR,f1,f2,f3,f4,f5,fL,_⟩:=zh7 h hn hd hp (.inr (by rw[hl];rfl));rw[hl] at f1;obtain rfl:=yl0 f1;have hb:b'∈bs:=f4.mem_iff.2 (yq0 _ f5);have hu:=f2.upd (ha _ hb);refine⟨fL w' cs' (λk hk _=>ha k (f4.mem_iff.2 (yq0 _ hk))) hu,?_⟩;show zbf w' b' off' _=zbf w b' off' _;rw[<-f3.length,hu.holds.read,f2.read]
theorem zd7.agree {w w':World}{Pr Pr':Nat->Prop}{iV:Bool}{v:Value}{t:Ty}{o:Ow}{x:PV t}{p:List PE}{bs:List Nat}(hp:∀k,Pr k->Pr' k)
 (ha:∀k,(Pr k\/k∈bs)->w'.heap[k]? =w.heap[k]?)(h:zd7 w Pr iV v t o x p bs):zd7 w' Pr' iV v t o x p bs:=by
 obtain⟨b',off',cs',h1,h2,h3,h4,h5,h6,h7,h8⟩:=h;have hu:=h2.upd (ha b' (.inr h4))
 have key:∀(w2:World) (cs2:List Value),Upd w' w2 b' off' cs2->Upd w w2 b' off' cs2:=by
  intro w2 cs2 h;obtain⟨cur,T,cur2,g⟩:=h;exact⟨cur,T,cur2,by rw[<-ha b' (.inr h4)];exact g.1,g.2⟩
 refine⟨b',off',cs',h6 w' cs' (λk hk _=>ha k (.inr hk)) hu,hu.holds,h3,h4,h5,?_,?_,h8⟩
 ·intro w2 cs2 q r
  exact h6 w2 cs2 (λk hk hne=>(q k hk hne).trans (ha k (.inr hk))) (key _ _ r)
 ·intro w2 Pr2 o2 o3 cs2 y bs2 q1 q2 q3 q4 q5
  exact h7 w2 Pr2 o2 o3 cs2 y bs2 (λk hk=>q1 k (hp k hk)) (λk hk hne=>(q2 k (hk.imp (hp k) id) hne).trans (ha k hk)) (key _ _ q3) q4 q5
theorem zhk:∀{p q:List PE} {t:Ty} {o:Ow} {x:PV t},qw (p++q) t o x->qw p t o x/\qw q (getT p t) (getO p o) (get p t x)
 |[],_,_,_,_,h=>⟨trivial,h⟩
 | .l::p,q,.pair a _,o,x,h=>zhk (p:=p) (t:=a) (x:=x.1) h
 | .r::p,q,.pair _ b,o,x,h=>zhk (p:=p) (t:=b) (x:=x.2) h
 | .ix n::p,q,.slice _ t,.row oe,xs,h=>⟨⟨h.1,(zhk (p:=p) (t:=t) h.2).1⟩,(zhk (p:=p) (t:=t) h.2).2⟩
 | .l::_,_,.int _,_,_,h| .l::_,_,.bool,_,_,h| .l::_,_,.str,_,_,h| .l::_,_,.unit,_,_,h| .l::_,_,.slice _ _,_,_,h=>by simp[qw] at h
 | .r::_,_,.int _,_,_,h| .r::_,_,.bool,_,_,h| .r::_,_,.str,_,_,h| .r::_,_,.unit,_,_,h| .r::_,_,.slice _ _,_,_,h=>by simp[qw] at h
 | .ix _::_,_,.int _,_,_,h| .ix _::_,_,.bool,_,_,h| .ix _::_,_,.str,_,_,h| .ix _::_,_,.unit,_,_,h| .ix _::_,_,.pair _ _,_,_,h
 | .ix _::_,_,.slice _ _,.b,_,h| .ix _::_,_,.slice _ _,.pr _ _,_,h=>by simp[qw] at h
theorem q6x {w:World}{Pr:Nat->Prop}{T:Ty}{O:Ow}{X:PV T}{cs:List Value}{bs:List Nat}{m:Nat}{s:List PE}(hr:Rep w Pr T O cs X bs)(hp:qw (.ix m::s) T O X):
 ∃g c,cs=[.slice (some ⟨g,0,none⟩) (lenOf T X) c]/\T.agg=false/\∀(n:Nat) (w2:World) (b off:Nat),w2.cell? ⟨b,off,none⟩=some (.slice (some ⟨g,0,none⟩) (lenOf T X) c)->locate w2 [.ix n] T b off=some (g,n*elSz T):=by
 cases T with
 |slice e t=>
  cases O with
  |b=>simp[qw] at hp
  |pr _ _=>simp[qw] at hp
  |row oe=>
   obtain⟨v,ys,b',rfl,h5,_⟩:=jy.1 hr;rcases ownsRow_form h5 with⟨_,hz,_⟩|⟨g,c,rfl,_,_⟩
   ·have:=hp.1
    omega
   ·exact⟨g,c,rfl,rfl,λn w2 b off hc=>by simp only[locate,hc];rfl⟩
 |_=>simp[qw] at hp
def Same (E E':Env)(V V':List Value)(B B':Nat->List Nat)(w w':World)(k:Nat):Prop:=
 E'[k]? =E[k]? /\V'[k]? =V[k]? /\B' k=B k/\∀b∈B k,w'.heap[b]? =w.heap[b]?
def Bump (w w':World)(e e':Ent)(v v':Value):Prop:=
 e.iv<e'.iv\/(e'.iv=e.iv/\v'=v/\e.cv<e'.cv/\e'.s.zay=e.s.zay)\/
 (e'.iv=e.iv/\v'=v/\e'.cv=e.cv/\∃(iV:Bool) (t:Ty) (o:Ow) (x:PV t) (p:List PE),e'.s=.hole iV t o x p/\e.s=(if iV then .var t o x else .val t o x)/\qw p t o x/\
   ∀q s,p=q++s->za7 s=true->∀loc,jl w iV t v q=some loc->jl w' iV t v q=some loc)
theorem ze8 {E E':Env}{a:Al}{e e':Ent}(h':E'[a.j]? =some e')(h:a.live E e)(hb:e.iv<e'.iv\/(e'.iv=e.iv/\e.cv<=e'.cv)):a.live E' e':=
 ⟨h',by rcases hb with hb|hb<;>have:=h.2.1<;>omega,λhi=>by
   rcases hb with hb|hb
   ·have:=h.2.1;omega
   ·have:=h.2.2 (by omega);omega⟩
section
variable {w0 : World} {Pr0 M : Nat → Prop} {E E' : Env} {V V' : List Value} {w w' : World} {Pr Pr' : Nat → Prop} {B B' : Nat → List Nat}
theorem zv8 {k:Nat}{s:Slot}{v:Value}{iV:Bool}{t:Ty}{o:Ow}{x:PV t}(h:jd w Pr E V B k s v)(hs:s=if iV then .var t o x else .val t o x):zc0 w Pr iV v t o x (B k):=by
 subst hs;cases iV<;>exact h
theorem zt5:∀{q:List PE} {t:Ty} {w w':World} {b off:Nat},za7 q=true->locate w' q t b off=locate w q t b off
 |[],_,_,_,_,_,_=>rfl
 | .l::q,.pair a c,w,w',b,off,h=>zt5 (q:=q) (t:=a) h
 | .r::q,.pair a c,w,w',b,off,h=>zt5 (q:=q) (t:=c) h
 | .ix n::q,_,_,_,_,_,h=>by simp[za7] at h
 | .l::_,.int _,_,_,_,_,_| .l::_,.bool,_,_,_,_,_| .l::_,.str,_,_,_,_,_| .l::_,.unit,_,_,_,_,_| .l::_,.slice _ _,_,_,_,_,_=>rfl
 | .r::_,.int _,_,_,_,_,_| .r::_,.bool,_,_,_,_,_| .r::_,.str,_,_,_,_,_| .r::_,.unit,_,_,_,_,_| .r::_,.slice _ _,_,_,_,_,_=>rfl
theorem qbl {q:List PE}{t:Ty}{v:Value}{w w':World}(h:za7 q=true):jl w' true t v q=jl w true t v q:=by
 cases v<;>try rfl
 rename_i A;cases A with
 |none=>rfl
 |some A=>
  obtain⟨b,n,sp⟩:=A;cases n<;>cases sp<;>first|exact zt5 h|rfl
theorem zbb.next (h:StB w0 Pr0 M E V w Pr B)(hch:∀k e v,E[k]? =some e->V[k]? =some v->Same E E' V V' B B' w w' k\/∃e' v',E'[k]? =some e'/\V'[k]? =some v'/\Bump w w' e e' v v')
 {a:Al}{v:Value}(ha:zbb w E V a v):zbb w' E' V' a v:=by
 obtain⟨e,vj,hl,hv,hk⟩:=ha;rcases hch a.j e vj hl.1 hv with⟨s1,s2,s3,s4⟩|⟨e',v',g1,g2,g3⟩
 ·refine⟨e,vj,⟨by rw[s1];exact hl.1,hl.2⟩,by rw[s2];exact hv,λhi=>⟨(hk hi).1,λhp hc=> ?_⟩⟩
  have hA:=(hk hi).2 hp hc;have hso:=h.slots a.j e vj hl.1 hv;have hdj:∀k,Pr k->k∉B a.j:=λk hk m=>(h.free _ _ m).2.1 hk;unfold zwt at hA ⊢;split
  ·rename_i t o x hs
   rw[hs] at hA hso;obtain⟨p1,loc,p2,p3⟩:=hA;exact⟨p1,loc,(zqc (iV:=false) (show zc0 _ _ _ _ _ _ _ _ from hso) (h.nodup _) hdj p1 p2 s4).1,p3⟩
  ·rename_i t o x hs
   rw[hs] at hA hso;obtain⟨p1,loc,p2,p3⟩:=hA;exact⟨p1,loc,(zqc (iV:=true) (show zc0 _ _ _ _ _ _ _ _ from hso) (h.nodup _) hdj p1 p2 s4).1,p3⟩
  ·rename_i iV t o x p hs
   rw[hs] at hA hso;refine⟨λs hps hsl=> ?_,λhpn hiv hlr=> ?_⟩
   ·obtain⟨loc,q1,q2⟩:=hA.1 s hps hsl
    obtain⟨b',off',cs',h1,h2,h3,h4,h5,h6,h7⟩:=hso;have h1':=h6 w' cs' (λk hk _=>s4 k hk) (h2.upd (s4 _ h4));refine⟨loc,?_,q2⟩;subst hps;exact z3w (.inr hp) hsl h1 h1' q1
   ·obtain⟨loc,q1,q2⟩:=hA.2 hpn hiv hlr
    exact⟨loc,by rw[qbl hlr];exact q1,q2⟩
  ·trivial
 ·rcases g3 with hb|⟨hb1,hb2,hb3,hb0⟩|⟨hb1,hb2,hb3,iV,t,o,x,p,hb4,hb5,hbp,hb6⟩
  ·exact⟨e',v',ze8 g1 hl (.inl hb),g2,λhi=>by have:=hl.2.1;omega⟩
  ·refine⟨e',v',ze8 g1 hl (.inr ⟨hb1,by omega⟩),g2,λhi=>⟨λhp=> ?_,λ_ hc=> ?_⟩⟩
   ·rw[hb2];exact(hk (by omega)).1 hp
   ·have:=hl.2.2 (by omega);omega
  ·refine⟨e',v',ze8 g1 hl (.inr ⟨hb1,by omega⟩),g2,λhi=>⟨λhp=> ?_,λhp hc=> ?_⟩⟩
   ·rw[hb2];exact(hk (by omega)).1 hp
   ·have hA:=(hk (by omega)).2 hp (by omega)
    rw[hb5] at hA;rw[hb4,hb2];refine⟨?_,λhpn hiv hlr=> ?_⟩
    rotate_left
    ·subst hiv
     obtain⟨p1,loc,p2,p3⟩:=hA;exact⟨loc,by rw[qbl hlr];exact p2,p3⟩
    intro s hps hsl;cases iV with
    |true=>
     obtain⟨p1,loc,p2,p3⟩:=hA;exact⟨loc,hb6 _ s hps hsl loc p2,p3⟩
    |false=>
     obtain⟨p1,loc,p2,p3⟩:=hA;exact⟨loc,hb6 _ s hps hsl loc p2,p3⟩
theorem zc2.next (h:StB w0 Pr0 M E V w Pr B)(hch:∀k e v,E[k]? =some e->V[k]? =some v->Same E E' V V' B B' w w' k\/∃e' v',E'[k]? =some e'/\V'[k]? =some v'/\Bump w w' e e' v v')
 {a:Al}{v:Value}(ha:zc2 w E V a v):zc2 w' E' V' a v:=by
 obtain⟨e,vj,hl,hv,hk⟩:=ha;rcases hch a.j e vj hl.1 hv with⟨s1,s2,s3,s4⟩|⟨e',v',g1,g2,g3⟩
 ·refine⟨e,vj,⟨by rw[s1];exact hl.1,hl.2⟩,by rw[s2];exact hv,λhi=>⟨(hk hi).1,λhc hp=> ?_⟩⟩
  have hA:=(hk hi).2 hc hp;have hso:=h.slots a.j e vj hl.1 hv;have hdj:∀k,Pr k->k∉B a.j:=λk hk m=>(h.free _ _ m).2.1 hk;unfold zxb at hA ⊢;split
  ·rename_i t o x hs
   rw[hs] at hA hso;obtain⟨p1,loc,p2,p3⟩:=hA;have:=zqc (iV:=false) (show zc0 _ _ _ _ _ _ _ _ from hso) (h.nodup _) hdj p1 p2 s4;exact⟨p1,loc,this.1,by rw[this.2];exact p3⟩
  ·rename_i t o x hs
   rw[hs] at hA hso;obtain⟨p1,loc,p2,p3⟩:=hA;have:=zqc (iV:=true) (show zc0 _ _ _ _ _ _ _ _ from hso) (h.nodup _) hdj p1 p2 s4;exact⟨p1,loc,this.1,by rw[this.2];exact p3⟩
  ·rename_i iV t o x p hs
   rw[hs] at hA hso;intro m s hps hsl;obtain⟨g,c,q1,q2⟩:=hA m s hps hsl;obtain⟨b',off',cs',h1,h2,h3,h4,h5,h6,h7⟩:=hso;have h1':=h6 w' cs' (λk hk _=>s4 k hk) (h2.upd (s4 _ h4));have e:p=(a.p++[.ix m])++s:=by rw[hps];simp
   rw[e] at h1 h1';exact⟨g,c,q1,z3w (.inr (by simp)) hsl h1 h1' q2⟩
  ·trivial
 ·rcases g3 with hb|⟨hb1,hb2,hb3,hb0⟩|⟨hb1,hb2,hb3,iV,t,o,x,p,hb4,hb5,hbp,hb6⟩
  ·exact⟨e',v',ze8 g1 hl (.inl hb),g2,λhi=>by have:=hl.2.1;omega⟩
  ·refine⟨e',v',ze8 g1 hl (.inr ⟨hb1,by omega⟩),g2,λhi=>⟨λhp hval=> ?_,λhc _=> ?_⟩⟩
   ·rw[hb2];exact(hk (by omega)).1 hp (by rw[<-hb0];exact hval)
   ·have:=hl.2.2 (by omega);omega
  ·refine⟨e',v',ze8 g1 hl (.inr ⟨hb1,by omega⟩),g2,λhi=>⟨λhp hval=> ?_,λhc hp=> ?_⟩⟩
   ·rw[hb2];refine(hk (by omega)).1 hp ?_
    rw[hb4] at hval;rw[hb5];cases iV<;>simp_all[Slot.zay]
   ·have hof:e'.s.zay=e.s.zay:=by rw[hb4,hb5];cases iV<;>rfl
    have hA:=(hk (by omega)).2 (by omega) (by rw[<-hof];exact hp);have hso:=h.slots a.j e vj hl.1 hv;have hdj:∀k,Pr k->k∉B a.j:=λk hk m=>(h.free _ _ m).2.1 hk;have hro:=zv8 hso hb5;rw[hb5] at hA;rw[hb4,hb2];intro m s hps hsl;subst hps;obtain⟨o1,o2⟩:=zhk hbp
    have hA':∃loc,jl w iV t vj a.p=some loc/\v=pack (getT a.p t) (zbf w loc.1 loc.2 (getT a.p t).size):=by
     cases iV with
     |true=>exact hA.2
     |false=>exact hA.2
    obtain⟨loc,p2,p3⟩:=hA';obtain⟨b',off',cs',bs',bsR,f1,f2,f3,_⟩:=zh7 hro (h.nodup _) hdj o1 (.inr (by rw[p2];rfl));rw[p2] at f1;obtain rfl:=yl0 f1;obtain⟨g,c,rfl,hag,hloc⟩:=q6x f3 o2
    have hne:iV=true\/a.p≠[]:=by
     rcases hp with hp|hp
     ·exact .inr hp
     ·left
      rw[hb4] at hp;cases iV with
      |true=>rfl
      |false=>simp[Slot.zay] at hp
    refine⟨g,c,?_,?_⟩
    ·rw[p3]
     show pack _ (zbf w b' off' _)=_;rw[<-f3.length,f2.read];simp[pack,hag]
    ·have hw:jl w iV t vj (a.p++[.ix m])=some (g,m*elSz (getT a.p t)):=by
      rw[zjh _ _ _ _ _ _ hne,p2];exact hloc m w b' off' f2.cell
     exact hb6 (a.p++[.ix m]) s (by simp) hsl _ hw
theorem AllL.imp {α β:Type}{R R':α->β->Prop}(hR:∀a b,R a b->R' a b):∀{aL:List α} {bs:List β},AllL R aL bs->AllL R' aL bs
 |[],[],_=>trivial
 |_::_,_::_,h=>⟨hR _ _ h.1,AllL.imp hR h.2⟩
 |[],_::_,h=>h.elim
 |_::_,[],h=>h.elim
theorem zx.agree (hp:∀k,Pr k->Pr' k){v:Value}{t:Ty}{o:Ow}{x:PV t}{bs:List Nat}(ha:∀k,(Pr k\/k∈bs)->w'.heap[k]? =w.heap[k]?)
 (h:zx w Pr v t o x bs):zx w' Pr' v t o x bs:=by
 obtain⟨cs,h1,h2⟩:=h;exact⟨cs,h1,h2.agree hp ha⟩
theorem vg.agree (hp:∀k,Pr k->Pr' k){v:Value}{t:Ty}{o:Ow}{x:PV t}{bs:List Nat}(ha:∀k,(Pr k\/k∈bs)->w'.heap[k]? =w.heap[k]?)
 (h:vg w Pr v t o x bs):vg w' Pr' v t o x bs:=by
 obtain⟨b,cs,bs0,h1,h2,h3,h4⟩:=h;exact⟨b,cs,bs0,h1,(h2.upd (ha b (.inr (h4.mem_iff.2 (yk0 ..))))).holds,h3.agree hp (λk hk=>ha k (hk.imp id λm=>h4.mem_iff.2 (yg0 _ m))),h4⟩
theorem zat.agree (hp:∀k,Pr k->Pr' k):∀{l:List TV} {vs:List Value} {bs:List Nat},(∀k,(Pr k\/k∈bs)->w'.heap[k]? =w.heap[k]?)->zat w Pr l vs bs->zat w' Pr' l vs bs
 |[],[],_,_,h=>h
 |_::_,_::_,_,ha,h=>by
  obtain⟨b1,b2,h1,h2,h3⟩:=h;exact⟨b1,b2,h1,h2.imp id (λh2=>h2.agree hp (λk hk=>ha k (hk.imp id λm=>h1.mem_iff.2 (yv0 _ m)))),h3.agree hp (λk hk=>ha k (hk.imp id λm=>h1.mem_iff.2 (yq0 _ m)))⟩
 |[],_::_,_,_,h=>h.elim
 |_::_,[],_,_,h=>h.elim
theorem jd.next (h:StB w0 Pr0 M E V w Pr B)(hp:∀k,Pr k->Pr' k)(hagP:∀k,Pr k->w'.heap[k]? =w.heap[k]?)
 (hch:∀k e v,E[k]? =some e->V[k]? =some v->Same E E' V V' B B' w w' k\/∃e' v',E'[k]? =some e'/\V'[k]? =some v'/\Bump w w' e e' v v')
 {k:Nat}{s:Slot}{v:Value}(hB:B' k=B k)(hagB:∀b∈B k,w'.heap[b]? =w.heap[b]?)(hs:jd w Pr E V B k s v):jd w' Pr' E' V' B' k s v:=by
 have hag:∀b,(Pr b\/b∈B k)->w'.heap[b]? =w.heap[b]? :=λb hb=>hb.elim (hagP b) (hagB b)
 cases s with
 |none=>trivial
 |val t o x=>show zx _ _ _ _ _ _ _;rw[hB];exact zx.agree hp hag hs
 |var t o x=>show vg _ _ _ _ _ _ _;rw[hB];exact vg.agree hp hag hs
 |hole iV t o x p=>show zd7 _ _ _ _ _ _ _ _ _;rw[hB];exact zd7.agree hp hag hs
 |sub a=>exact zc2.next h hch hs
 |addr a=>exact zbb.next h hch hs
 |view a t x=>
  obtain⟨e,hl,hk⟩:=hs
  have hlt:∃vj,V[a.j]? =some vj:=by
   have h1:a.j<E.length:=(yf2.1 hl.1).1;exact⟨V[a.j]'(by rw[<-h.len];exact h1),yt1 _⟩
  obtain⟨vj,hvj⟩:=hlt;rcases hch a.j e vj hl.1 hvj with⟨s1,s2,s3,s4⟩|⟨e',v',g1,g2,g3⟩
  ·refine⟨e,⟨by rw[s1];exact hl.1,hl.2⟩,λh1 h2 h3=> ?_⟩
   obtain⟨cs,q1,q2⟩:=hk h1 h2 h3;refine⟨cs,q1,q2.agree (λb hb=> ?_) (λb hb=> ?_)⟩
   ·rw[s3];exact hb.imp (hp b) id
   ·rcases hb with(hb|hb)|hb
    ·exact hagP b hb
    ·exact s4 b hb
    ·cases hb
  ·rcases g3 with hb|⟨hb1,hb2,hb3,_⟩|⟨hb1,hb2,hb3,iV,t',o',x',p',hb4,hb5,hbp,hb6⟩
   ·exact⟨e',ze8 g1 hl (.inl hb),λhi=>by have:=hl.2.1;omega⟩
   ·exact⟨e',ze8 g1 hl (.inr ⟨hb1,by omega⟩),λhi hc=>by have:=hl.2.2 (by omega);omega⟩
   ·exact⟨e',ze8 g1 hl (.inr ⟨hb1,by omega⟩),λhi hc hh=>by rw[hb4] at hh;simp[Slot.isHole] at hh⟩
 |bad t x=>
  obtain⟨a,cs,h1,h3,h4,h5⟩:=hs;exact⟨a,cs,h1,hp _ h3,h4.agree (hagP _ h3),h5.agree hp (λb hb=>hb.elim (hagP b) (λm=>by cases m))⟩
 |fn f caps=>
  obtain⟨vs,h1,h2⟩:=hs;exact⟨vs,h1,h2.imp λa b=>zbb.next h hch⟩
 |tup l=>
  obtain⟨vs,h1,h2⟩:=hs;exact⟨vs,h1,by rw[hB];exact h2.agree hp hag⟩
theorem StB.next (h:StB w0 Pr0 M E V w Pr B)(hlen:E'.length=V'.length)(hlen':E'.length=E.length)(hp:∀k,Pr k->Pr' k)(hagP:∀k,Pr k->w'.heap[k]? =w.heap[k]?)
 (hch:∀k e v,E[k]? =some e->V[k]? =some v->Same E E' V V' B B' w w' k\/∃e' v',E'[k]? =some e'/\V'[k]? =some v'/\jd w' Pr' E' V' B' k e'.s v'/\Bump w w' e e' v v')
 (hpn:∀k,Pr' k->Pr k\/((w0.heap.size<=k\/M k)/\k<w'.heap.size))
 (hnd:∀k,(B' k).Nodup)(hdj:∀j k,j≠k->∀b∈B' j,b∉B' k)
 (hfr:∀k,∀b∈B' k,(w0.heap.size<=b\/M b)/\¬Pr' b/\b<w'.heap.size)
 (hos:w'.os=w.os)(htape:w'.tape=w.tape)(hout:w'.output=w.output)(hsz:w.heap.size<=w'.heap.size)
 (hframe:∀k,k<w0.heap.size->¬M k->w'.heap[k]? =w.heap[k]?):StB w0 Pr0 M E' V' w' Pr' B' where
 len:=hlen
 pr0:=λk hk=>hp k (h.pr0 k hk)
 prlt:=λk hk=>(hpn k hk).elim (λq=>yy1 (h.prlt k q) hsz) (λq=>q.2)
 prnew:=λk hk=>(hpn k hk).elim (λq=>h.prnew k q) (λq=>.inr q.1)
 slots:=by
  have hch':∀k e v,E[k]? =some e->V[k]? =some v->Same E E' V V' B B' w w' k\/∃e' v',E'[k]? =some e'/\V'[k]? =some v'/\Bump w w' e e' v v':=
   λk e v he hv=>(hch k e v he hv).imp id λ⟨e',v',a,b,_,c⟩=>⟨e',v',a,b,c⟩
  intro k e v he hv;have hk:k<E.length:=by rw[<-hlen'];exact(yf2.1 he).1
  have he0:=yt1 hk;have hv0:=yt1 (l:=V) (i:=k) (by rw[<-h.len];exact hk);rcases hch k _ _ he0 hv0 with⟨s1,s2,s3,s4⟩|⟨e',v',g1,g2,g3,_⟩
  ·rw[s1] at he;rw[s2] at hv
   exact jd.next h hp hagP hch' s3 s4 (h.slots k e v he hv)
  ·rw[g1] at he;rw[g2] at hv
   obtain rfl:=yl0 he;obtain rfl:=yl0 hv;exact g3
 nodup:=hnd
 disj:=hdj
 free:=hfr
 os:=hos.trans h.os
 tape:=htape.trans h.tape
 output:=hout.trans h.output
 size:=yo1 h.size hsz
 frame:=λk hk hm=>(hframe k hk hm).trans (h.frame k hk hm)
theorem StB.pool (h:StB w0 Pr0 M E V w Pr B)(C:Nat->Prop)(hlen:E'.length=V'.length)(hlen':E'.length=E.length)
 (hE:∀k,¬C k->E'[k]? =E[k]? /\V'[k]? =V[k]? /\B' k=B k)
 (hC:∀k e v,C k->E[k]? =some e->V[k]? =some v->∃e' v',E'[k]? =some e'/\V'[k]? =some v'/\jd w' Pr' E' V' B' k e'.s v'/\Bump w w' e e' v v')
 (hpool:∀k,C k->∀b∈B' k,((∃k',C k'/\b∈B k')\/w.heap.size<=b)/\b<w'.heap.size)
 (hPr:∀b,Pr b->Pr' b)
 (hPr':∀b,Pr' b->Pr b\/(((∃k',C k'/\b∈B k')\/w.heap.size<=b)/\b<w'.heap.size/\∀k,C k->b∉B' k))
 (hnd:∀k,C k->(B' k).Nodup)(hdj:∀j k,C j->C k->j≠k->∀b∈B' j,b∉B' k)
 (hw:∀b,b<w.heap.size->(∀k,C k->b∉B k)->w'.heap[b]? =w.heap[b]?)
 (hos:w'.os=w.os)(htape:w'.tape=w.tape)(hout:w'.output=w.output)(hsz:w.heap.size<=w'.heap.size):StB w0 Pr0 M E' V' w' Pr' B':=by
 have poolfree:∀b,((∃k',C k'/\b∈B k')\/w.heap.size<=b)->(w0.heap.size<=b\/M b)/\¬Pr b:=by
  rintro b (⟨k',_,hb⟩|hb)
  ·exact⟨(h.free _ _ hb).1,(h.free _ _ hb).2.1⟩
  ·exact⟨.inl (yo1 h.size hb),λhp=>by have:=h.prlt b hp;omega⟩
 have poolout:∀b,((∃k',C k'/\b∈B k')\/w.heap.size<=b)->∀k,¬C k->b∉B k:=by
  rintro b (⟨k',hc,hb⟩|hb) k hk hbk
  ·exact h.disj k' k (λe=>hk (e▸hc)) b hb hbk
  ·have:=(h.free _ _ hbk).2.2;omega
 have hagP:∀k,Pr k->w'.heap[k]? =w.heap[k]? :=λb hb=>hw b (h.prlt b hb) (λk _ m=>(h.free _ _ m).2.1 hb)
 refine h.next hlen hlen' hPr hagP (λk e v he hv=> ?_) (λb hb=> ?_) (λk=> ?_) (λj k hne b hb hbk=> ?_) (λk b hb=> ?_) hos htape hout hsz (λb hb hm=> ?_)
 ·by_cases hk:C k
  ·obtain⟨e',v',a,b,c,d⟩:=hC k e v hk he hv
   exact .inr ⟨e',v',a,b,c,d⟩
  ·obtain⟨a,b,c⟩:=hE k hk
   exact .inl ⟨a,b,c,λx hx=>hw x (h.free _ _ hx).2.2 (λj hj m=>h.disj j k (λe=>hk (e▸hj)) x m hx)⟩
 ·rcases hPr' b hb with hb|⟨hb1,hb2,_⟩
  ·exact .inl hb
  ·exact .inr ⟨(poolfree b hb1).1,hb2⟩
 ·by_cases hk:C k
  ·exact hnd k hk
  ·rw[(hE k hk).2.2];exact h.nodup k
 ·by_cases hj:C j<;>by_cases hk:C k
  ·exact hdj j k hj hk hne b hb hbk
  ·rw[(hE k hk).2.2] at hbk
   exact poolout b (hpool j hj b hb).1 k hk hbk
  ·rw[(hE j hj).2.2] at hb
   exact poolout b (hpool k hk b hbk).1 j hj hb
  ·rw[(hE j hj).2.2] at hb;rw[(hE k hk).2.2] at hbk
   exact h.disj j k hne b hb hbk
 ·by_cases hk:C k
  ·obtain⟨p1,p2⟩:=hpool k hk b hb
   refine⟨(poolfree b p1).1,λhp=> ?_,p2⟩;rcases hPr' b hp with hp|⟨_,_,hp⟩
   ·exact(poolfree b p1).2 hp
   ·exact hp k hk hb
  ·rw[(hE k hk).2.2] at hb
   obtain⟨p1,p2,p3⟩:=h.free k b hb;refine⟨p1,λhp=> ?_,yy1 p3 hsz⟩;rcases hPr' b hp with hp|⟨hp,_,_⟩
   ·exact p2 hp
   ·exact poolout b hp k hk hb
 ·exact hw b (yy1 hb h.size) (λk _ m=>(h.free _ _ m).1.elim (λq=>by omega) hm)
end
end Go.Dn
end

section
/- The interpreter: operations and code on pure values. -/
namespace Go.Dn
def iter {S R:Type}(body:S->Option (S⊕R)):Nat->S->Option R
 |0,_=>none
 |n+1,s=>
  match body s with
  |none=>none
  |some (.inl s')=>iter body n s'
  |some (.inr r)=>some r
open Classical in
noncomputable def fix {S R:Type}(body:S->Option (S⊕R))(s:S):Option R:=
 if h:∃r n,iter body n s=some r then some (Classical.choose h) else none
theorem zup {S R:Type}{body:S->Option (S⊕R)}:∀{n:Nat} {s:S} {r:R} (m:Nat),iter body n s=some r->iter body (n+m) s=some r
 |0,_,_,_,h=>by simp[iter] at h
 |n+1,s,r,m,h=>by
  rw[show n+1+m=(n+m)+1 by omega];simp only[iter] at h ⊢;split at h
  ·cases h
  ·exact zup m h
  ·exact h
theorem q4t {S R:Type}{body:S->Option (S⊕R)}{n m:Nat}{s:S}{r r':R}(h:iter body n s=some r)(h':iter body m s=some r'):r=r':=by
 have h1:=zup m h;have h2:=zup n h';rw[Nat.add_comm] at h2;exact yl0 (h1.symm.trans h2)
theorem zoy {S R:Type}{body:S->Option (S⊕R)}{s:S}{r:R}:fix body s=some r↔∃n,iter body n s=some r:=by
 unfold fix;constructor
 ·intro h
  split at h
  ·rename_i hh
   obtain⟨n,hn⟩:=Classical.choose_spec hh;rw[yl0 h] at hn;exact⟨n,hn⟩
  ·cases h
 ·rintro⟨n,hn⟩
  have hh:∃r n,iter body n s=some r:=⟨r,n,hn⟩;rw[dif_pos hh];obtain⟨m,hm⟩:=Classical.choose_spec hh;rw[q4t hm hn]
theorem qbm {S R:Type}(body:S->Option (S⊕R))(s:S):
 fix body s=match body s with|none=>none|some (.inl s')=>fix body s'|some (.inr r)=>some r:=by
 apply Option.ext;intro r;rw[zoy];constructor
 ·rintro⟨n,hn⟩
  cases n with
  |zero=>simp[iter] at hn
  |succ n=>
   simp only[iter] at hn;split at hn
   ·cases hn
   ·exact zoy.2 ⟨n,hn⟩
   ·exact hn
 ·intro h
  split at h
  ·cases h
  ·rename_i s' he
   obtain⟨n,hn⟩:=zoy.1 h;exact⟨n+1,by simp only[iter,he];exact hn⟩
  ·rename_i r' he
   exact⟨1,by simp only[iter,he];exact h⟩
inductive Mode where
 |bor
 |own
 |mut
 |ptr
 deriving DecidableEq
@[reducible] def PVs:List Ty->Type
  |[]=>Unit
  |t::ts=>PV t×PVs ts
def Mode.back:Mode->Bool
 | .mut=>true
 | .ptr=>true
 |_=>false
def backs:List (Mode×Ty)->List Ty
 |[]=>[]
 |(m,t)::l=>bif m.back then t::backs l else backs l
structure Ct where
 pars:List (Mode×Ty)
 rets:List (Ty×Ow)
 F:PVs (pars.map (·.2))->Option (PVs (rets.map (·.1))×PVs (backs pars))
inductive Xt where
 |normal
 |exit (id:Nat)
 |ret
structure Cut where
 wk:List (Nat×Ow)
 keep:List Nat
 drop:List Nat
inductive Sh where
 |none
 |undef
 |val (t:Ty) (o:Ow)
 |var (t:Ty) (o:Ow)
 |bad (t:Ty)
 |view (a:Al) (t:Ty)
 |sub (a:Al)
 |addr (a:Al)
 |fn (f:FuncId) (caps:List Al)
@[reducible] def DS:List Sh->Type
  |[]=>Unit
  | .val t _::l=>PV t×DS l
  | .var t _::l=>PV t×DS l
  | .bad t::l=>PV t×DS l
  | .view _ t::l=>PV t×DS l
  | .none::l=>DS l
  | .undef::l=>DS l
  | .sub _::l=>DS l
  | .addr _::l=>DS l
  | .fn _ _::l=>DS l
def zav:(l:List Sh)->DS l->List Ent
 |[],_=>[]
 | .val t o::l,d=>⟨0,0,.val t o d.1⟩::zav l d.2
 | .var t o::l,d=>⟨0,0,.var t o d.1⟩::zav l d.2
 | .bad t::l,d=>⟨0,0,.bad t d.1⟩::zav l d.2
 | .view a t::l,d=>⟨0,0,.view a t d.1⟩::zav l d.2
 | .none::l,d=>⟨0,0,.none⟩::zav l d
 | .undef::l,d=>⟨0,0,.tup []⟩::zav l d
 | .sub a::l,d=>⟨0,0,.sub a⟩::zav l d
 | .addr a::l,d=>⟨0,0,.addr a⟩::zav l d
 | .fn f c::l,d=>⟨0,0,.fn f c⟩::zav l d
structure Out where
 key:Xt
 cut:Cut
 sh:List Sh
@[reducible] def Xo:List Out->Type
  |[]=>Empty
  |[o]=>DS o.sh
  |o::os=>DS o.sh⊕Xo os
structure Lp where
 hd:Cut
 sh:List Sh
 outs:List Out
 B:DS sh->Option (DS sh⊕Xo outs)
structure Plan where
 seqs:List (Nat×List Out)
 loops:List (Nat×Lp)
 lv:Nat
 off:Nat
structure Glob where
 dom:Nat->Prop
 ok:World->Prop
 stable:∀w w':World,ok w->(∀b,dom b->w'.heap[b]? =w.heap[b]?)->ok w'
 strs:List (Nat×List (List UInt8))
 strs_ok:∀w,ok w->∀q∈strs,dom q.1/\∃T,w.heap[q.1]? =some (.cells (q.2.map strV).toArray T (0,0))
structure Cx where
 tab:List (TypeId×Ty)
 arrs:List TypeId
 cts:List (FuncId×Ct)
 funcs:List (FuncId×Func×Plan)
 gl:Glob
 sites:List (Nat×(FuncId×Func×Plan))
def lookup {α:Type}:List (Nat×α)->Nat->Option α
 |[],_=>none
 |(k,a)::l,n=>bif k==n then some a else lookup l n
def memN:List Nat->Nat->Bool
 |[],_=>false
 |k::l,n=>bif k==n then true else memN l n
structure Opd where
 ix:Option Nat
 s:Slot
def zni:Value->Slot
 | .int k n=>.val (.int k) .b n
 | .bool b=>.val .bool .b b
 | .string s=>.val .str .b s.data.toList
 |_=>.none
def opd (E:Env)(off:Nat):Operand->Opd
 | .tmp t=>⟨some (off+t),(E.at (off+t)).s⟩
 | .const v=>⟨none,zni v⟩
 | .func f=>⟨none,.fn f []⟩
 | .global _=>⟨none,.none⟩
def opdT (cx:Cx)(E:Env)(off:Nat)(t:TypeId)(x:Operand):Opd:=
 match x with
 | .const (.slice none 0 0)=>
   match lookup cx.tab t with
   |some (.slice e t')=>⟨none,.val (.slice e t') (.row (top t')) []⟩
   |_=>⟨none,.none⟩
 |x=>opd E off x
def isNil:List PE->Bool
 |[]=>true
 |_=>false
def zwu:List PE->Slot->Option (Ty×Nat)
 |[],.hole false (.slice _ t) _ _ (.ix m::_)=>some (t,m)
 |_,_=>none
def isInt:Ty->Bool
 | .int _=>true
 |_=>false
def zcs:List PE->List PE->Bool
 |[],p=>za7 p
 | .l::q,.l::p=>zcs q p
 | .r::q,.r::p=>zcs q p
 | .ix n::q,.ix m::p=>(n==m)&&zcs q p
 |_,_=>false
def zwv (q:List PE)(n:Nat):Slot->Option (Bool×Ty)
 | .hole iV t _ _ p=>
   match getT q t with
   | .slice _ t'=>some ((iV|| !isNil q)&&zcs (q++[.ix n]) p,t')
   |_=>none
 |_=>none
def Al.okS (a:Al)(E:Env):Bool:=
 (E.at a.j).iv==a.iv&&((E.at a.j).cv==a.cv||(isNil a.p&&(E.at a.j).s.zay))
def Al.okA (a:Al)(E:Env):Bool:=(E.at a.j).iv==a.iv&&((E.at a.j).cv==a.cv||isNil a.p)
abbrev SV:=(t:Ty)×PV t
def znr (E:Env)(a:Al):Option SV:=
 match (E.at a.j).s with
 | .hole true t _ x []=>bif za7 a.p&&(!isNil a.p&&isInt (getT a.p t)) then some ⟨getT a.p t,get a.p t x⟩ else none
 |_=>none
def rd (E:Env):Slot->Option SV
 | .val t _ x=>some ⟨t,x⟩
 | .sub a=>
   bif a.okS E then
    match (E.at a.j).s with
    | .val t _ x=>some ⟨getT a.p t,get a.p t x⟩
    | .var t _ x=>some ⟨getT a.p t,get a.p t x⟩
    |_=>none
   else none
 | .view a t x=>bif a.okC E&& !(E.at a.j).s.isHole then some ⟨t,x⟩ else none
 |_=>none
inductive U where
 |new (k:Nat) (s:Slot)
 |cont (k:Nat) (s:Slot)
 |hol (k:Nat) (s:Slot)
def U.app (E:Env):U->Env
 | .new k s=>E.set k ⟨(E.at k).iv+1,0,s⟩
 | .cont k s=>E.set k ⟨(E.at k).iv,(E.at k).cv+1,s⟩
 | .hol k s=>E.set k ⟨(E.at k).iv,(E.at k).cv,s⟩
def appU (E:Env):List U->Env
 |[]=>E
 |u::us=>appU (u.app E) us
def take (E:Env)(d:Opd):Option (TV×List U):=
 match d.s with
 | .val t o x=>
   bif owns t o then
    match d.ix with
    |some k=>some (⟨t,o,x⟩,[.new k .none])
    |none=>some (⟨t,o,x⟩,[])
   else some (⟨t,.b,x⟩,[])
 | .sub a=>
   bif a.okS E then
    match (E.at a.j).s with
    | .val t o x=>
      bif owns (getT a.p t) (getO a.p o) then
       bif isNil a.p then some (⟨t,o,x⟩,[.new a.j .none])
       else some (⟨getT a.p t,getO a.p o,get a.p t x⟩,[.hol a.j (.hole false t o x a.p)])
      else some (⟨getT a.p t,.b,get a.p t x⟩,[])
    | .var t o x=>
      bif owns (getT a.p t) (getO a.p o) then
       some (⟨getT a.p t,getO a.p o,get a.p t x⟩,[.hol a.j (.hole true t o x a.p)])
      else some (⟨getT a.p t,.b,get a.p t x⟩,[])
    |_=>none
   else none
 |_=>none
def alias (E:Env)(d:Opd):Slot:=
 match d.s,d.ix with
 | .val t o x,some k=>bif owns t o then .sub ⟨k,[],(E.at k).iv,(E.at k).cv⟩ else .val t .b x
 | .val t o x,none=>bif owns t o then .none else .val t .b x
 | .var _ _ _,some k=>.addr ⟨k,[],(E.at k).iv,(E.at k).cv⟩
 | .sub a,_=>.sub a
 | .addr a,_=>.addr a
 | .view a t x,_=>.view a t x
 | .bad t x,_=>.bad t x
 | .fn f c,_=>.fn f c
 |_,_=>.none
def place (E:Env)(d:Opd):Option Al:=
 match d.s,d.ix with
 | .var _ _ _,some k=>some ⟨k,[],(E.at k).iv,(E.at k).cv⟩
 | .hole true _ _ _ _,some k=>some ⟨k,[],(E.at k).iv,(E.at k).cv⟩
 | .addr a,_=>bif a.okA E then some a else none
 |_,_=>none
def qc:Nat->List PE
 |0=>[.l]
 |n+1=>.r::qc n
def zbz:List PE->List PE->Bool
 |[],[]=>true
 | .l::p,.l::q=>zbz p q
 | .r::p,.r::q=>zbz p q
 | .ix n::p,.ix m::q=>(n==m)&&zbz p q
 |_,_=>false
def zk2:List PE->Bool
 |[]=>false
 | .ix _::_=>true
 |_::p=>zk2 p
def setO:List PE->Ow->Ow->Ow
 |[],_,o2=>o2
 | .l::p,o,o2=>.pr (setO p o.fst o2) o.snd
 | .r::p,o,o2=>.pr o.fst (setO p o.snd o2)
 | .ix _::_,o,_=>o
def fitO (p:List PE)(o:Ow)(t:Ty)(o2:Ow):Option (Ow×Ow):=
 bif zk2 p then(bif weaken t o2 (getO p o) then some (getO p o,o) else none) else some (o2,setO p o o2)
def zac (t t':Ty)(x:PV t):Option (PV t'):=if h:t=t' then some (h▸x) else none
def sv (t:Ty)(x:PV t):Slot:=.val t .b x
def zit {R:Type}(op:BinOp)(k:IntKind)(x y:Int)(K:Slot->Option R):Option R:=
 match op with
 | .add=>K (sv (.int k) (k.wrap (x+y)))
 | .sub=>K (sv (.int k) (k.wrap (x -y)))
 | .mul=>K (sv (.int k) (k.wrap (x*y)))
 | .quo=>bif y==0 then none else K (sv (.int k) (k.wrap (x.tdiv y)))
 | .rem=>bif y==0 then none else K (sv (.int k) (x.tmod y))
 | .eql=>K (sv .bool (x==y))
 | .neq=>K (sv .bool (x !=y))
 | .lss=>K (sv .bool (decide (x<y)))
 | .leq=>K (sv .bool (decide (x<=y)))
 | .gtr=>K (sv .bool (decide (x>y)))
 | .geq=>K (sv .bool (decide (x>=y)))
 | .and=>K (sv (.int k) (k.wrap (BitVec.ofInt k.bits x&&&BitVec.ofInt k.bits y).toNat))
 |_=>none
def ziu {R:Type}(op:BinOp)(x y:List UInt8)(K:Slot->Option R):Option R:=
 match op with
 | .add=>bif decide (x.length+y.length<=1099511627776) then K (sv .str (x++y)) else none
 | .eql=>K (sv .bool (x==y))
 | .neq=>K (sv .bool (!(x==y)))
 | .lss=>K (sv .bool (Op.bytesLess x y))
 | .geq=>K (sv .bool (!Op.bytesLess x y))
 |_=>none
def binK {R:Type}(tb:Bool)(op:BinOp)(a b:SV)(K:Slot->Option R):Option R:=
 match a,b with
 |⟨.int k,x⟩,⟨.int k',y⟩=>
  match op with
  | .shl=>bif decide (0<=y) then K (sv (.int k) (k.wrap (x*2^(min y.toNat k.bits)))) else none
  | .shr=>bif decide (0<=y) then K (sv (.int k) (x.fdiv (2^(min y.toNat k.bits)))) else none
  |op=>bif k==k' then zit op k x y K else none
 |⟨.str,x⟩,⟨.str,y⟩=>ziu op x y K
 |⟨.bool,x⟩,⟨.bool,y⟩=>
  bif tb then
   match op with
   | .eql=>K (sv .bool (x==y))
   | .neq=>K (sv .bool (!(x==y)))
   |_=>none
  else none
 |_,_=>none
def zxc (op:BinOp)(t:Option Ty)(a b:SV):Option Bool:=
 match op,t,a,b with
 | .eql,some (.pair (.int .i64) (.pair (.int .i64) .unit)),⟨.pair (.int .i64) (.pair (.int .i64) .unit),x⟩,⟨.pair (.int .i64) (.pair (.int .i64) .unit),y⟩=>some (x.1==y.1&&x.2.1==y.2.1)
 |_,_,_,_=>none
def isNT:Ty->Bool
 | .pair (.int .i64) (.pair .str .unit)=>true
 |_=>false
def ntEq (op:BinOp)(t:Option Ty)(a b:SV):Option Bool:=
 match op,t,a,b with
 | .eql,some (.pair (.int .i64) (.pair .str .unit)),⟨.pair (.int .i64) (.pair .str .unit),x⟩,⟨.pair (.int .i64) (.pair .str .unit),y⟩=>some (x.1==y.1&&x.2.1==y.2.1)
 | .neq,some (.pair (.int .i64) (.pair .str .unit)),⟨.pair (.int .i64) (.pair .str .unit),x⟩,⟨.pair (.int .i64) (.pair .str .unit),y⟩=>some (!(x.1==y.1&&x.2.1==y.2.1))
 |_,_,_,_=>none
def inB (i:Int)(n:Nat):Bool:=decide (0<=i)&&decide (i<(n:Int))
def qm (n:Nat):Bool:=decide (n<=1099511627776)
abbrev SU:=Slot×List U
def noSl:Ty->Bool
 | .slice _ _=>false
 | .pair a b=>noSl a&&noSl b
 |_=>true
def meet (t:Ty)(o1 o2:Ow):Ow:=bif weaken t o1 o2 then o2 else bif weaken t o2 o1 then o1 else .b
def opdY (E:Env)(off:Nat)(t:Ty)(x:Operand):Opd:=
 match x with
 | .const (.slice none 0 0)=>
   match t with
   | .slice e t'=>⟨none,.val (.slice e t') (.row (top t')) []⟩
   |_=>⟨none,.none⟩
 |x=>opd E off x
def zce (off:Nat):Env->List (Ty×Operand)->Option (List TV×List U)
 |_,[]=>some ([],[])
 |E,(t,x)::xs=>
  match take E (opdY E off t x) with
  |none=>none
  |some (v,us)=>
   match zce off (appU E us) xs with
   |none=>none
   |some (vs,us')=>some (v::vs,us++us')
def elems (t:Ty):List TV->Option (Ow×List (PV t))
 |[]=>some (top t,[])
 |v::vs=>
  match zac v.t t v.x,elems t vs with
  |some x,some (o,xs)=>some (meet t v.o o,x::xs)
  |_,_=>none
def asm:(t:Ty)->Nat->List (Nat×TV)->Option (Ow×PV t)
 | .unit,_,[]=>some (.b,())
 | .pair a b,n,(i,v)::ps=>
   bif i==n then
    match zac v.t a v.x,asm b (n+1) ps with
    |some y,some (o,z)=>some (.pr v.o o,(y,z))
    |_,_=>none
   else
    match asm b (n+1) ((i,v)::ps) with
    |some (o,z)=>some (.pr (top a) o,(dflt a,z))
    |none=>none
 | .pair a b,n,[]=>
   match asm b (n+1) [] with
   |some (o,z)=>some (.pr (top a) o,(dflt a,z))
   |none=>none
 |_,_,_=>none
def zdu (l:List Int):List UInt8:=l.map λn=>UInt8.ofNat n.toNat
def look (E:Env)(a:Al):Option TV:=
 match (E.at a.j).s with
 | .val t o x=>bif isNil a.p then none else some ⟨getT a.p t,getO a.p o,get a.p t x⟩
 | .var t o x=>some ⟨getT a.p t,getO a.p o,get a.p t x⟩
 |_=>none
def zkw (E:Env)(a:Al):Bool:=
 match (E.at a.j).s with
 | .val t o _=>owns (getT a.p t) (getO a.p o)
 | .var t o _=>owns (getT a.p t) (getO a.p o)
 |_=>false
def placesOf (E:Env)(off:Nat):List Operand->Option (List Al)
 |[]=>some []
 |x::xs=>
  match place E (opd E off x),placesOf E off xs with
  |some a,some aL=>bif isNil a.p then some (a::aL) else none
  |_,_=>none
def bound (E:Env)(off:Nat)(d:Int):Option Operand->Option Int
 |none=>some d
 |some y=>match rd E (opd E off y).s with|some ⟨.int _,n⟩=>some n|_=>none
def cutB (a b:Int)(n:Nat):Bool:=decide (0<=a)&&(decide (a<=b)&&decide (b<=(n:Int)))
def cutL {α:Type}(a b:Int)(l:List α):List α:=(l.take b.toNat).drop a.toNat
def Ty.isUnit:Ty->Bool
 | .unit=>true
 |_=>false
def qdi {α:Type}:Option α->Option α->Bool
 |none,some _=>true
 |_,_=>false
def Slot.isVar:Slot->Bool
 | .var _ _ _=>true
 |_=>false
def qfk:Slot->Bool
 | .sub a=>zk2 a.p
 |_=>false
def zc3 {R:Type}(cx:Cx)(E:Env)(off:Nat)(o:Oper)(K:SU->Option R):Option R:=
 match o.op with
 | .move x=>
   match opd E off x with
   |⟨some k,.tup l⟩=>K (.tup l,[.new k .none])
   |d=>K (alias E d,[])
 | .assign x=>
   bif qfk (opd E off x).s then K (alias E (opd E off x),[]) else
   match take E (opdT cx E off o.type x) with
   |some (v,us)=>K (.val v.t v.o v.x,us)
   |none=>
    match (opd E off x).s with
    | .val _ _ _=>none
    | .sub _=>none
    |_=>K (alias E (opd E off x),[])
 | .pick c a b=>
   match rd E (opd E off c).s with
   |some ⟨.bool,c⟩=>
    match rd E (opd E off a).s,rd E (opd E off b).s with
    |some ⟨t,x⟩,some ⟨t',y⟩=>
     match zac t' t y with
     |some y=>bif noSl t then K (sv t (bif c then x else y),[]) else none
     |none=>none
    |some ⟨t,x⟩,none=>bif c then(bif noSl t then K (sv t x,[]) else none) else none
    |none,some ⟨t,y⟩=>bif c then none else(bif noSl t then K (sv t y,[]) else none)
    |none,none=>none
   |_=>none
 | .alloc t=>
   match lookup cx.tab t with
   |some t=>K (.var t (top t) (dflt t),[])
   |none=>none
 | .box t x=>
   match lookup cx.tab t,take E (opdT cx E off t x) with
   |some t,some (v,us)=>
    match zac v.t t v.x with
    |some x=>K (.var t v.o x,us)
    |none=>none
   |_,_=>none
 | .build t ps=>
   match lookup cx.tab t with
   |some t=>
    match zce off E (ps.toList.map λq=>(getT (qc q.1) t,q.2)) with
    |some (vs,us)=>
     match asm t 0 ((ps.toList.map (·.1)).zip vs) with
     |some (ow,x)=>K (.val t ow x,us)
     |none=>none
    |none=>none
   |none=>none
 | .buildSlice t n ps=>
   match lookup cx.tab t with
   |some (.slice e t')=>
    bif (ps.size==n)&&((List.range n==ps.toList.map (·.1))&&decide (n*t'.size<=65536)) then
     match zce off E (ps.toList.map λq=>(t',q.2)) with
     |some (vs,us)=>
      match elems t' vs with
      |some (ow,xs)=>K (.val (.slice e t') (.row ow) xs,us)
      |none=>none
     |none=>none
    else none
   |_=>none
 | .load t x=>
   match lookup cx.tab t with
   |none=>none
   |some t=>
    match (opd E off x).s with
    | .bad t' y=>
      match zac t' t y with
      |some y=>K (.val t .b y,[])
      |none=>none
    |_=>
     match place E (opd E off x) with
     |some a=>
      match look E a with
      |some v=>
       match zac v.t t v.x with
       |some y=>bif owns v.t v.o then K (.sub ⟨a.j,a.p,a.iv,(E.at a.j).cv⟩,[]) else K (.val t .b y,[])
       |none=>none
      |none=>
       match znr E a with
       |some v=>
        match zac v.1 t v.2 with
        |some y=>K (.val t .b y,[])
        |none=>none
       |none=>none
     |none=>none
 | .store t x y=>
   match lookup cx.tab t,take E (opdT cx E off t y) with
   |some t,some (v,us)=>
    match place (appU E us) (opd (appU E us) off x) with
    |some a=>
     match (Env.at (appU E us) a.j).s with
     | .val t' ow z=>
       match zac v.t (getT a.p t') v.x,fitO a.p ow v.t v.o with
       |some x,some (_,ow')=>bif (v.t==t)&& !isNil a.p then K (.none,us++[.cont a.j (.val t' ow' (set a.p t' z x))]) else none
       |_,_=>none
     | .var t' ow z=>
       match zac v.t (getT a.p t') v.x,fitO a.p ow v.t v.o with
       |some x,some (_,ow')=>bif v.t==t then K (.none,us++[.cont a.j (.var t' ow' (set a.p t' z x))]) else none
       |_,_=>none
     | .hole iV t' ow z p=>
       match zac v.t (getT p t') v.x,fitO p ow v.t v.o with
       |some x,some (_,ow')=>
        bif v.t==t then(bif zbz a.p p then K (.none,us++[.cont a.j (match iV with|true=>.var t' ow' (set p t' z x)|false=>.val t' ow' (set p t' z x))]) else none) else none
       |_,_=>none
     |_=>none
    |none=>none
   |_,_=>none
 | .binOp op t x y _=>
   match rd E (opdT cx E off t x).s,rd E (opdT cx E off t y).s with
   |some a,some b=>
    bif memN cx.arrs t then(match zxc op (lookup cx.tab t) a b with|some z=>K (sv .bool z,[])|none=>none)
    else match ntEq op (lookup cx.tab t) a b with
     |some z=>K (sv .bool z,[])
     |none=>binK (match lookup cx.tab t with|some .bool=>true|_=>false) op a b λs=>K (s,[])
   |_,_=>none
 | .unOp op _ x=>
   match op,rd E (opd E off x).s with
   | .not,some ⟨.bool,b⟩=>K (sv .bool (!b),[])
   | .neg,some ⟨.int k,n⟩=>K (sv (.int k) (k.wrap (0 -n)),[])
   |_,_=>none
 | .convert s d x=>
   match lookup cx.tab s,lookup cx.tab d,rd E (opd E off x).s with
   |some (.int k),some (.int k'),some ⟨.int k'',n⟩=>bif k==k'' then K (sv (.int k') (k'.wrap n),[]) else none
   |some (.slice _ (.int .u8)),some .str,some ⟨.slice _ (.int .u8),l⟩=>K (sv .str (zdu l),[])
   |_,_,_=>none
 | .makeFunc (.func f) first captured=>
   bif first.isEmpty then
    match placesOf E off captured.toList with
    |some aL=>K (.fn f aL,[])
    |none=>none
   else none
 | .makeSlice t l c=>
   match lookup cx.tab t,rd E (opd E off l).s,rd E (opd E off c).s with
   |some (.slice e t'),some ⟨.int .i64,n⟩,some ⟨.int .i64,m⟩=>
    bif decide (0<=n)&&(decide (n<=m)&&qm m.toNat) then K (.val (.slice e t') (.row (top t')) (List.replicate n.toNat (dflt t')),[]) else none
   |_,_,_=>none
 | .slice t x lo hi none=>
   match rd E (opd E off x).s with
   |some ⟨.str,l⟩=>
    match lookup cx.tab t,bound E off 0 lo,bound E off (l.length:Int) hi with
    |some .str,some a,some b=>bif cutB a b l.length then K (sv .str (cutL a b l),[]) else none
    |_,_,_=>none
   |some ⟨.slice e t',l⟩=>
    match lookup cx.tab t,bound E off 0 lo,bound E off (l.length:Int) hi with
    |some (.slice e' t''),some a,some b=>
     bif (Ty.slice e t'==.slice e' t'')&&cutB a b l.length then
      match alias E (opd E off x) with
      | .val _ _ _=>K (.val (.slice e t') .b (cutL a b l),[])
      | .sub al=>
        bif qdi lo hi&&((E.at al.j).s.isVar&&noSl t') then
         match take E (opd E off x) with
         |some (⟨.slice e2 t2,.row oe,z⟩,us)=>bif (Ty.slice e2 t2==.slice e t')&&cutB 0 b z.length then K (.val (.slice e2 t2) (.row oe) (cutL 0 b z),us) else none
         |_=>none
        else K (.view ⟨al.j,al.p,al.iv,(E.at al.j).cv⟩ (.slice e t') (cutL a b l),[])
      | .view al _ _=>K (.view al (.slice e t') (cutL a b l),[])
      |_=>none
     else none
    |_,_,_=>none
   |_=>none
 | .fieldAddr tid x f=>
   match (bif memN cx.arrs tid then none else lookup cx.tab tid) with
   |none=>none
   |some t=>
    match (opd E off x).s with
    | .bad t' y=>
      match zac t' t y with
      |some y=>bif !(getT (qc f) t).isUnit then K (.bad (getT (qc f) t) (get (qc f) t y),[]) else none
      |none=>none
    |_=>
     match place E (opd E off x) with
     |some a=>
      match (E.at a.j).s with
      | .val t' _ _=>bif (getT a.p t'==t)&&(!(getT (qc f) t).isUnit&& !isNil a.p) then K (.addr ⟨a.j,a.p++qc f,a.iv,(E.at a.j).cv⟩,[]) else none
      | .var t' _ _=>bif (getT a.p t'==t)&& !(getT (qc f) t).isUnit then K (.addr ⟨a.j,a.p++qc f,a.iv,(E.at a.j).cv⟩,[]) else none
      | .hole iV t' _ _ p=>
        bif (getT a.p t'==t)&& !(getT (qc f) t).isUnit then
         (bif (isNil a.p&&iV)||(!isNil a.p&&zcs a.p p) then K (.addr ⟨a.j,a.p++qc f,a.iv,(E.at a.j).cv⟩,[]) else none)
        else none
      |_=>none
     |none=>none
 | .nilCheck x=>
   match place E (opd E off x) with
   |some a=>
    match (E.at a.j).s with
    | .val _ _ _=>bif isNil a.p then none else K (.addr a,[])
    | .var _ _ _=>K (.addr a,[])
    | .hole _ _ _ _ p=>bif !isNil a.p&&zcs a.p p then K (.addr a,[]) else none
    |_=>none
   |none=>none
 | .indexAddr tid x i=>
   match rd E (opd E off i).s with
   |some ⟨.int _,n⟩=>
    bif memN cx.arrs tid then
     match lookup cx.tab tid with
     |none=>none
     |some t=>
      bif decide (0<=n)&& !(getT (qc n.toNat) t).isUnit then
       match (opd E off x).s with
       | .bad t' y=>
         match zac t' t y with
         |some y=>K (.bad (getT (qc n.toNat) t) (get (qc n.toNat) t y),[])
         |none=>none
       |_=>
        match place E (opd E off x) with
        |some a=>
         match (E.at a.j).s with
         | .val t' _ _=>bif (getT a.p t'==t)&& !isNil a.p then K (.addr ⟨a.j,a.p++qc n.toNat,a.iv,(E.at a.j).cv⟩,[]) else none
         | .var t' _ _=>bif (getT a.p t'==t) then K (.addr ⟨a.j,a.p++qc n.toNat,a.iv,(E.at a.j).cv⟩,[]) else none
         |_=>none
        |none=>none
      else none
    else
     match rd E (opd E off x).s with
     |some ⟨.slice _ t',l⟩=>
      match lookup cx.tab tid with
      |some (.slice _ t'')=>
       bif (t''==t')&&inB n l.length then
        match alias E (opd E off x) with
        | .val _ _ _=>K (.bad t' (l.getD n.toNat (dflt t')),[])
        | .sub a=>bif zkw E a then K (.addr ⟨a.j,a.p++[.ix n.toNat],a.iv,(E.at a.j).cv⟩,[]) else none
        |_=>none
       else none
      |_=>none
     |some _=>none
     |none=>
      match alias E (opd E off x) with
      | .sub a=>
        match lookup cx.tab tid with
        |some (.slice _ t'')=>
         match zwu a.p (E.at a.j).s with
         |some (t',m)=>bif (a.okS E&&(t''==t'))&&(decide (0<=n)&&(n.toNat==m)) then K (.addr ⟨a.j,[.ix n.toNat],a.iv,(E.at a.j).cv⟩,[]) else none
         |none=>
          match zwv a.p n.toNat (E.at a.j).s with
          |some (b,t')=>bif (a.okC E&&(t''==t'))&&(decide (0<=n)&&b) then K (.addr ⟨a.j,a.p++[.ix n.toNat],a.iv,(E.at a.j).cv⟩,[]) else none
          |none=>none
        |_=>none
      |_=>none
   |_=>none
 | .index tid x i=>
   match rd E (opd E off x).s,rd E (opd E off i).s with
   |some ⟨.str,l⟩,some ⟨.int _,n⟩=>
    match lookup cx.tab tid with
    |some .str=>bif inB n l.length then K (sv (.int .u8) ((l.getD n.toNat 0).toNat:Int),[]) else none
    |_=>none
   |some ⟨t,y⟩,some ⟨.int _,n⟩=>
    bif memN cx.arrs tid then
     match lookup cx.tab tid with
     |none=>none
     |some t'=>
      match zac t t' y with
      |some y=>bif decide (0<=n)&&(!(getT (qc n.toNat) t').isUnit&&noSl (getT (qc n.toNat) t')) then K (sv (getT (qc n.toNat) t') (get (qc n.toNat) t' y),[]) else none
      |none=>none
    else none
   |_,_=>none
 | .extract x i=>
   match opd E off x with
   |⟨some k,.tup l⟩=>
    match l[i]? with
    |some v=>bif v.t.isUnit then none else bif owns v.t v.o then K (.val v.t v.o v.x,[.cont k (.tup (l.set i ⟨.unit,.b,()⟩))]) else K (.val v.t .b v.x,[])
    |none=>none
   |_=>none
 | .call c=>
   match c.callee,c.args.toList with
   | .builtin .len,[x]=>
     match c.argTypes.toList with
     |[tid]=>
      match lookup cx.tab tid,rd E (opdT cx E off tid x).s with
      |some .str,some ⟨.str,l⟩=>K (sv (.int .i64) (l.length:Int),[])
      |some (.slice _ _),some ⟨.slice _ _,l⟩=>K (sv (.int .i64) (l.length:Int),[])
      |_,_=>none
     |_=>none
   | .builtin .max,[x,y]=>
     match rd E (opd E off x).s,rd E (opd E off y).s with
     |some ⟨.int k,a⟩,some ⟨.int k',b⟩=>bif k==k' then K (sv (.int k) (bif decide (b>a) then b else a),[]) else none
     |_,_=>none
   | .builtin .min,[x,y]=>
     match rd E (opd E off x).s,rd E (opd E off y).s with
     |some ⟨.int k,a⟩,some ⟨.int k',b⟩=>bif k==k' then K (sv (.int k) (bif decide (b<a) then b else a),[]) else none
     |_,_=>none
   | .builtin .append,[x,y]=>
     bif c.argTypes.size==2&&(c.argTypes.getD 0 0==c.argTypes.getD 1 0) then
      match lookup cx.tab (c.argTypes.getD 0 0),take E (opdT cx E off (c.argTypes.getD 0 0) x) with
      |some (.slice e0 t0),some (⟨.slice e t',.row ow,xs⟩,us)=>
       bif (Ty.slice e0 t0==.slice e t') then
        bif noSl t' then
         match rd (appU E us) (opdT cx (appU E us) off (c.argTypes.getD 0 0) y).s with
         |some ⟨t'',ys⟩=>
          match zac t'' (.slice e t') ys with
          |some ys=>bif qm (List.length (α:=PV t') xs+List.length (α:=PV t') ys) then K (.val (.slice e t') (.row ow) (List.append (α:=PV t') xs ys),us) else none
          |none=>none
         |none=>none
        else
         match take (appU E us) (opdT cx (appU E us) off (c.argTypes.getD 0 0) y) with
         |some (⟨ty,oy,ys⟩,us')=>
          match zac ty (.slice e t') ys with
          |some ys=>bif qm (List.length (α:=PV t') xs+List.length (α:=PV t') ys) then K (.val (.slice e t') (.row (meet t' ow oy.elem)) (List.append (α:=PV t') xs ys),us++us') else none
          |none=>none
         |none=>none
       else none
      |_,_=>none
     else none
   |_,_=>none
 |_=>none
def full:Ty->Ow->Bool
 | .pair a b,o=>full a o.fst&&full b o.snd
 | .slice _ t,.row e=>full t e
 | .slice _ _,_=>false
 |_,_=>true
inductive Bk where
 |none
 |val (j:Nat)
 |var (j:Nat)
 |hol (j:Nat) (isVar:Bool) (t:Ty) (o:Ow) (x:PV t) (p:List PE)
def handOver (E:Env)(off:Nat)(m:Mode)(t:Ty)(x:Operand):Option (PV t×List U×Bk):=
 match m with
 | .bor=>none
 | .own=>
   match take E (opdY E off t x) with
   |some (v,us)=>match zac v.t t v.x with|some y=>bif full v.t v.o then some (y,us,.none) else none|none=>none
   |none=>none
 | .mut=>
   match alias E (opd E off x) with
   | .sub a=>
     bif a.okS E then
      match (E.at a.j).s with
      | .val t' o z=>
        match zac (getT a.p t') t (get a.p t' z) with
        |some y=>
         bif full (getT a.p t') (getO a.p o) then
          (bif isNil a.p then some (y,[.new a.j .none],.val a.j) else some (y,[.hol a.j (.hole false t' o z a.p)],.hol a.j false t' o z a.p))
         else none
        |none=>none
      | .var t' o z=>
        match zac (getT a.p t') t (get a.p t' z) with
        |some y=>bif full (getT a.p t') (getO a.p o) then some (y,[.hol a.j (.hole true t' o z a.p)],.hol a.j true t' o z a.p) else none
        |none=>none
      |_=>none
     else none
   |_=>none
 | .ptr=>
   match place E (opd E off x) with
   |some a=>
    match (E.at a.j).s with
    | .var t' o z=>
      match zac t' t z with
      |some y=>bif !owns t' o&&isNil a.p then some (y,[.cont a.j .none],.var a.j) else none
      |none=>none
    |_=>none
   |none=>none
def zfh (q:Mode×Ty):Bool:=match q.1 with| .bor=>true|_=>false
def za9 (E:Env)(off:Nat):List (Mode×Ty)->List Operand->Option (List SV×List U×List Bk)
 |[],[]=>some ([],[],[])
 |(m,t)::ps,x::xs=>
  match m with
  | .bor=>
    match za9 E off ps xs with
    |some (vs,us,bs)=>some (⟨.unit,()⟩::vs,us,.none::bs)
    |none=>none
  |m=>
   bif ps.all zfh&&(ps.length==xs.length) then
    match handOver E off m t x with
    |some (y,us,b)=>some (⟨t,y⟩::ps.map (λ_=>⟨.unit,()⟩),us,b::ps.map (λ_=>Bk.none))
    |none=>none
   else
    match m with
    | .own=>
      match handOver E off .own t x with
      |some (y,us,_)=>
       match za9 (appU E us) off ps xs with
       |some (vs,us',bs)=>some (⟨t,y⟩::vs,us++us',.none::bs)
       |none=>none
      |none=>none
    |_=>none
 |_,_=>none
def Slot.free:Slot->Bool
 | .val t o _=> !owns t o
 |_=>false
def zkm (strict:Bool)(E:Env)(off:Nat)(m:Mode)(t:Ty)(x:Operand)(v:SV):Option (PV t):=
 match m with
 | .bor=>
   match rd E (opdY E off t x).s with
   |some ⟨t',y⟩=>bif !strict||(opdY E off t x).s.free||noSl t' then zac t' t y else none
   |none=>none
 |_=>zac v.1 t v.2
def zbm (strict:Bool)(E:Env)(off:Nat):(ps:List (Mode×Ty))->List Operand->List SV->Option (PVs (ps.map (·.2)))
 |[],[],[]=>some ()
 |(m,t)::ps,x::xs,v::vs=>
  match zkm strict E off m t x v,zbm strict E off ps xs vs with
  |some y,some r=>some (y,r)
  |_,_=>none
 |_,_,_=>none
def bring:(ps:List (Mode×Ty))->List Bk->PVs (backs ps)->Option (List U)
 |[],[],_=>some []
 |(.bor,_)::ps,_::bs,r=>bring ps bs r
 |(.own,_)::ps,_::bs,r=>bring ps bs r
 |(.mut,t)::ps,b::bs,r=>
  match b,bring ps bs r.2 with
  | .val j,some us=>some (.new j (.val t (top t) r.1)::us)
  | .hol j iV t' o z p,some us=>
    match zac t (getT p t') r.1,fitO p o t (top t) with
    |some y,some (o2,o3)=>bif full t o2 then some (.cont j (match iV with|true=>.var t' o3 (set p t' z y)|false=>.val t' o3 (set p t' z y))::us) else none
    |_,_=>none
  |_,_=>none
 |(.ptr,t)::ps,b::bs,r=>
  match b,bring ps bs r.2 with
  | .var j,some us=>some (.cont j (.var t .b r.1)::us)
  |_,_=>none
 |_,_,_=>none
def Ow.eqb:Ow->Ow->Bool
 | .b=>λ| .b=>true| .row _=>false| .pr _ _=>false
 | .row x=>λ| .row y=>Ow.eqb x y| .b=>false| .pr _ _=>false
 | .pr x z=>λ| .pr y u=>Ow.eqb x y&&Ow.eqb z u| .b=>false| .row _=>false
theorem Ow.ziv:∀{o o':Ow},Ow.eqb o o'=true->o=o'
 | .b,.b,_=>rfl
 | .row x,.row y,h=>by rw[Ow.ziv (o:=x) (o':=y) h]
 | .pr x z,.pr y u,h=>by
   simp only[Ow.eqb,yh0] at h;rw[Ow.ziv h.1,Ow.ziv h.2]
 | .b,.row _,h=>by simp[Ow.eqb] at h
 | .b,.pr _ _,h=>by simp[Ow.eqb] at h
 | .row _,.b,h=>by simp[Ow.eqb] at h
 | .row _,.pr _ _,h=>by simp[Ow.eqb] at h
 | .pr _ _,.b,h=>by simp[Ow.eqb] at h
 | .pr _ _,.row _,h=>by simp[Ow.eqb] at h
def okO (t:Ty)(o own:Ow):Bool:=Ow.eqb o own||full t o&&Ow.eqb own (top t)|| !owns t o&&Ow.eqb own .b
def ptrs (ps:List (Mode×Ty)):Bool:=ps.any λq=>(match q.1 with| .ptr=>true|_=>false)&& !noSl q.2
def ziz (rs:List (Ty×Ow)):Bool:=rs.any λq=> !Ow.eqb q.2 (top q.1)&& !noSl q.1
def zbe:(rs:List (Ty×Ow))->PVs (rs.map (·.1))->List TV
 |[],_=>[]
 |(t,o)::rs,x=>⟨t,o,x.1⟩::zbe rs x.2
def qdj (l:List TV):Slot:=
 match l with
 |[]=>.none
 |[v]=>.val v.t v.o v.x
 |l=>.tup l
def zfi {R:Type}(cx:Cx)(E:Env)(off:Nat)(c:Call)(K:SU->Option R):Option R:=
 match c.callee with
 | .value fo=>
   match (opd E off fo).s with
   | .fn k []=>
     match lookup cx.cts k with
     |some ct=>
      match za9 E off ct.pars c.args.toList with
      |some (vs,us,bs)=>
       match zbm (ziz ct.rets||ptrs ct.pars) (appU E us) off ct.pars c.args.toList vs with
       |some xs=>
        (ct.F xs).bind λr=>
          match bring ct.pars bs r.2 with
          |some us'=>K (qdj (zbe ct.rets r.1),us++us')
          |none=>none
       |none=>none
      |none=>none
     |none=>none
   |_=>none
 |_=>none
end Go.Dn
end

section
/- Steps of the state: what is in the hand, taking, laying down. -/
namespace Go.Dn
section
variable {w0 : World} {Pr0 M : Nat → Prop} {E E' : Env} {V V' : List Value} {w w' : World} {Pr Pr' : Nat → Prop} {B B' : Nat → List Nat}
theorem jq {E:Env}{k:Nat}{e:Ent}(h:E[k]? =some e):E.at k=e:=by
 unfold Env.at;rw[yg2,h];rfl
theorem jd.reindex {k k':Nat}{s:Slot}{v:Value}(hB:B k'=B k)(h:jd w Pr E V B k s v):jd w Pr E V B k' s v:=by
 cases s with
 |val t o x=>show zx _ _ _ _ _ _ _;rw[hB];exact h
 |var t o x=>show vg _ _ _ _ _ _ _;rw[hB];exact h
 |hole iV t o x p=>show zd7 _ _ _ _ _ _ _ _ _;rw[hB];exact h
 |tup l=>obtain⟨vs,h1,h2⟩:=h;exact⟨vs,h1,by rw[hB];exact h2⟩
 |_=>exact h
theorem StB.hand (h:StB w0 Pr0 M E V w Pr B)(hE:∀k,k<E.length->B' k=B k)
 (hpool:∀k,E.length<=k->∀b∈B' k,((∃k',E.length<=k'/\b∈B k')\/w.heap.size<=b)/\b<w'.heap.size)
 (hPr:∀b,Pr b->Pr' b)
 (hPr':∀b,Pr' b->Pr b\/(((∃k',E.length<=k'/\b∈B k')\/w.heap.size<=b)/\b<w'.heap.size/\∀k,E.length<=k->b∉B' k))
 (hnd:∀k,E.length<=k->(B' k).Nodup)(hdj:∀j k,E.length<=j->E.length<=k->j≠k->∀b∈B' j,b∉B' k)
 (hw:∀b,b<w.heap.size->(∀k,E.length<=k->b∉B k)->w'.heap[b]? =w.heap[b]?)
 (hos:w'.os=w.os)(htape:w'.tape=w.tape)(hout:w'.output=w.output)(hsz:w.heap.size<=w'.heap.size):StB w0 Pr0 M E V w' Pr' B':=
 h.pool (λk=>E.length<=k) h.len rfl (λk hk=>⟨rfl,rfl,hE k (by omega)⟩)
  (λk e v hk he _=>by have:=(yf2.1 he).1;omega) hpool hPr hPr' hnd hdj hw hos htape hout hsz
def zaq (E:Env)(k:Nat)(s:Slot):Env:=E.set k ⟨(E.at k).iv+1,0,s⟩
def lay (B:Nat->List Nat)(N k:Nat):Nat->List Nat:=λj=>if j=k then B N else if j=N then[] else B j
theorem StB.put (h:StB w0 Pr0 M E V w Pr B){N k:Nat}(hN:E.length<=N)(hk:k<E.length){s:Slot}{v:Value}(hs:jd w Pr E V B N s v):
 StB w0 Pr0 M (zaq E k s) (V.set k v) w Pr (lay B N k):=by
 have hkN:k≠N:=by omega
 have hV:k<V.length:=by rw[<-h.len];exact hk
 have hch:∀j e v',E[j]? =some e->V[j]? =some v'->Same E (zaq E k s) V (V.set k v) B (lay B N k) w w j\/∃e' v'',(zaq E k s)[j]? =some e'/\(V.set k v)[j]? =some v''/\Bump w w e e' v' v'':=by
  intro j e v' he hv;by_cases hj:j=k
  ·subst hj
   refine .inr ⟨_,_,yi2 hk,yi2 hV,.inl ?_⟩;rw[jq he];exact Nat.lt_succ_self _
  ·have hjN:j≠N:=by have:=(yf2.1 he).1;omega
   exact .inl ⟨yj2 (Ne.symm hj),yj2 (Ne.symm hj),by simp[lay,hj,hjN],λ_ _=>rfl⟩
 refine h.pool (λj=>j=k\/j=N) (by simp[zaq,h.len]) (by simp[zaq]) (λj hj=> ?_) (λj e v' hj he hv=> ?_) (λj hj b hb=> ?_) (λ_ h=>h) (λ_ h=>.inl h)
  (λj hj=> ?_) (λi j hi hj hne b hb hbj=> ?_) (λ_ _ _=>rfl) rfl rfl rfl (ym0 _)
 ·have h1:j≠k:=λe=>hj (.inl e)
  have h2:j≠N:=λe=>hj (.inr e);exact⟨yj2 (Ne.symm h1),yj2 (Ne.symm h1),by simp[lay,h1,h2]⟩
 ·rcases hj with rfl|rfl
  ·refine⟨_,_,yi2 hk,yi2 hV,?_,.inl ?_⟩
   ·show jd w Pr (zaq E j s) (V.set j v) (lay B N j) j s v
    have h1:jd w Pr (zaq E j s) (V.set j v) (λi=>if i=N then B N else lay B N j i) N s v:=
     jd.next (B':=λi=>if i=N then B N else lay B N j i) h (λ_ h=>h) (λ_ _=>rfl) (λi e v' he hv=>by
      rcases hch i e v' he hv with⟨a,b,c,d⟩|q
      ·have:i≠N:=by have:=(yf2.1 he).1;omega
       exact .inl ⟨a,b,by simp[this];exact c,d⟩
      ·exact .inr q) (by simp) (λ_ _=>rfl) hs
    have h2:jd w Pr (zaq E j s) (V.set j v) (λi=>if i=N then B N else lay B N j i) j s v:=h1.reindex (by simp[hkN,lay]);cases s with
    |view a t x=>
     obtain⟨e,q1,q2⟩:=h2;refine⟨e,q1,λi1 i2 i3=> ?_⟩;obtain⟨cs,r1,r2⟩:=q2 i1 i2 i3;have:a.j≠N:=by have:=(yf2.1 q1.1).1;simp[zaq] at this;omega
     simp only[this,if_false] at r2;exact⟨cs,r1,r2⟩
    |val t o x=>simp only[jd,hkN,if_false] at h2 ⊢;exact h2
    |var t o x=>simp only[jd,hkN,if_false] at h2 ⊢;exact h2
    |hole iV t o x p=>simp only[jd,hkN,if_false] at h2 ⊢;exact h2
    |tup l=>simp only[jd,hkN,if_false] at h2 ⊢;exact h2
    |_=>exact h2
   ·rw[jq he];exact Nat.lt_succ_self _
  ·have:=(yf2.1 he).1;omega
 ·rcases hj with rfl|rfl
  ·simp only[lay,if_true] at hb
   exact⟨.inl ⟨N,.inr rfl,hb⟩,(h.free _ _ hb).2.2⟩
  ·simp[lay,Ne.symm hkN] at hb
 ·rcases hj with rfl|rfl
  ·simp only[lay,if_true];exact h.nodup N
  ·simp[lay,Ne.symm hkN]
 ·rcases hi with rfl|rfl<;>rcases hj with rfl|rfl
  ·exact hne rfl
  ·simp[lay,Ne.symm hkN] at hbj
  ·simp[lay,Ne.symm hkN] at hb
  ·exact hne rfl
def zfj (E:Env)(k:Nat)(s:Slot):Env:=E.set k ⟨(E.at k).iv,(E.at k).cv+1,s⟩
theorem StB.putC (h:StB w0 Pr0 M E V w Pr B){N k:Nat}(hN:E.length<=N)(hk:k<E.length){s:Slot}{v:Value}(hv0:V[k]? =some v)(h0:s.zay=(E.at k).s.zay)(hs:jd w Pr E V B N s v):
 StB w0 Pr0 M (zfj E k s) (V.set k v) w Pr (lay B N k):=by
 have hkN:k≠N:=by omega
 have hV:k<V.length:=by rw[<-h.len];exact hk
 have hch:∀j e v',E[j]? =some e->V[j]? =some v'->Same E (zfj E k s) V (V.set k v) B (lay B N k) w w j\/∃e' v'',(zfj E k s)[j]? =some e'/\(V.set k v)[j]? =some v''/\Bump w w e e' v' v'':=by
  intro j e v' he hv;by_cases hj:j=k
  ·subst hj
   refine .inr ⟨_,_,yi2 hk,yi2 hV,.inr (.inl ?_)⟩;rw[jq he] at h0 ⊢;exact⟨rfl,yl0 (hv0.symm.trans hv),Nat.lt_succ_self _,h0⟩
  ·have hjN:j≠N:=by have:=(yf2.1 he).1;omega
   exact .inl ⟨yj2 (Ne.symm hj),yj2 (Ne.symm hj),by simp[lay,hj,hjN],λ_ _=>rfl⟩
 refine h.pool (λj=>j=k\/j=N) (by simp[zfj,h.len]) (by simp[zfj]) (λj hj=> ?_) (λj e v' hj he hv=> ?_) (λj hj b hb=> ?_) (λ_ h=>h) (λ_ h=>.inl h)
  (λj hj=> ?_) (λi j hi hj hne b hb hbj=> ?_) (λ_ _ _=>rfl) rfl rfl rfl (ym0 _)
 ·have h1:j≠k:=λe=>hj (.inl e)
  have h2:j≠N:=λe=>hj (.inr e);exact⟨yj2 (Ne.symm h1),yj2 (Ne.symm h1),by simp[lay,h1,h2]⟩
 ·rcases hj with rfl|rfl
  ·refine⟨_,_,yi2 hk,yi2 hV,?_,.inr (.inl ?_)⟩
   ·show jd w Pr (zfj E j s) (V.set j v) (lay B N j) j s v
    have h1:jd w Pr (zfj E j s) (V.set j v) (λi=>if i=N then B N else lay B N j i) N s v:=
     jd.next (B':=λi=>if i=N then B N else lay B N j i) h (λ_ h=>h) (λ_ _=>rfl) (λi e v' he hv=>by
      rcases hch i e v' he hv with⟨a,b,c,d⟩|q
      ·have:i≠N:=by have:=(yf2.1 he).1;omega
       exact .inl ⟨a,b,by simp[this];exact c,d⟩
      ·exact .inr q) (by simp) (λ_ _=>rfl) hs
    have h2:jd w Pr (zfj E j s) (V.set j v) (λi=>if i=N then B N else lay B N j i) j s v:=h1.reindex (by simp[hkN,lay]);cases s with
    |view a t x=>
     obtain⟨e,q1,q2⟩:=h2;refine⟨e,q1,λi1 i2 i3=> ?_⟩;obtain⟨cs,r1,r2⟩:=q2 i1 i2 i3;have:a.j≠N:=by have:=(yf2.1 q1.1).1;simp[zfj] at this;omega
     simp only[this,if_false] at r2;exact⟨cs,r1,r2⟩
    |val t o x=>simp only[jd,hkN,if_false] at h2 ⊢;exact h2
    |var t o x=>simp only[jd,hkN,if_false] at h2 ⊢;exact h2
    |hole iV t o x p=>simp only[jd,hkN,if_false] at h2 ⊢;exact h2
    |tup l=>simp only[jd,hkN,if_false] at h2 ⊢;exact h2
    |_=>exact h2
   ·rw[jq he] at h0 ⊢
    exact⟨rfl,yl0 (hv0.symm.trans hv),Nat.lt_succ_self _,h0⟩
  ·have:=(yf2.1 he).1;omega
 ·rcases hj with rfl|rfl
  ·simp only[lay,if_true] at hb
   exact⟨.inl ⟨N,.inr rfl,hb⟩,(h.free _ _ hb).2.2⟩
  ·simp[lay,Ne.symm hkN] at hb
 ·rcases hj with rfl|rfl
  ·simp only[lay,if_true];exact h.nodup N
  ·simp[lay,Ne.symm hkN]
 ·rcases hi with rfl|rfl<;>rcases hj with rfl|rfl
  ·exact hne rfl
  ·simp[lay,Ne.symm hkN] at hbj
  ·simp[lay,Ne.symm hkN] at hb
  ·exact hne rfl
def All (Pr:Nat->Prop)(B:Nat->List Nat):Nat->Prop:=λb=>Pr b\/∃k,b∈B k
def jv (w:World)(Pr:Nat->Prop)(E:Env)(V:List Value)(d:Opd)(v:Value):Prop:=
 match d.ix with
 |some k=>d.s=.none\/∃e,E[k]? =some e/\V[k]? =some v/\d.s=e.s
 |none=>
  match d.s with
  | .val t o x=>zx w Pr v t o x []
  | .fn f caps=>caps=[]/\v=.func (.func f) #[] #[]
  | .none=>True
  |_=>False
theorem zx.lend {v:Value}{t:Ty}{o:Ow}{x:PV t}{bs:List Nat}(h:zx w Pr v t o x bs)(hs:∀b,Pr b\/b∈bs->Pr' b):∃cs,v=pack t cs/\Rep w Pr' t .b cs x []:=by
 obtain⟨cs,h1,h2⟩:=h;exact⟨cs,h1,h2.lend.more hs⟩
theorem zcy (h:StB w0 Pr0 M E V w Pr B){d:Opd}{v:Value}(ho:jv w Pr E V d v){k:Nat}(hk:d.ix=some k):jd w Pr E V B k d.s v:=by
 unfold jv at ho;rw[hk] at ho;rcases ho with h0|⟨e,h1,h2,h3⟩
 ·rw[h0];trivial
 ·rw[h3];exact h.slots k e v h1 h2
theorem zh8 (h:StB w0 Pr0 M E V w Pr B){a:Al}{v:Value}(ha:zc2 w E V a v)(hok:a.okS E=true){iV:Bool}{t:Ty}{o:Ow}{x:PV t}
 (hs:(E.at a.j).s=if iV then .var t o x else .val t o x):
 ∃vj,V[a.j]? =some vj/\E[a.j]? =some (E.at a.j)/\zc0 w Pr iV vj t o x (B a.j)/\
  ((iV=false/\a.p=[]/\v=vj)\/((a.p≠[]\/iV=true)/\qw a.p t o x/\ze7 w Pr iV vj t o x (B a.j) a.p/\
    ∃loc,jl w iV t vj a.p=some loc/\v=pack (getT a.p t) (zbf w loc.1 loc.2 (getT a.p t).size))):=by
 obtain⟨e,vj,hl,hv,hk⟩:=ha;have he:=jq hl.1;rw[he] at hs;have hok':=hok;simp only[Al.okS,he,yh0,yy0,yq1] at hok';have hR:=zv8 (h.slots a.j e vj hl.1 hv) hs;have hdj:∀k,Pr k->k∉B a.j:=λk hk m=>(h.free _ _ m).2.1 hk;refine⟨vj,hv,by rw[he];exact hl.1,hR,?_⟩;obtain⟨k1,k2⟩:=hk hok'.1
 have mk:a.p≠[]\/iV=true->(e.cv=a.cv)->(a.p≠[]\/iV=true)/\qw a.p t o x/\ze7 w Pr iV vj t o x (B a.j) a.p/\
  ∃loc,jl w iV t vj a.p=some loc/\v=pack (getT a.p t) (zbf w loc.1 loc.2 (getT a.p t).size):=by
  intro hp hc
  have hA:=k2 hc (by
   rcases hp with hp|hp
   ·exact .inl hp
   ·right;rw[hs,hp];rfl)
  rw[hs] at hA;cases iV with
  |true=>
   obtain⟨p1,loc,p2,p3⟩:=hA;exact⟨hp,p1,zh7 hR (h.nodup _) hdj p1 (.inl rfl),loc,p2,p3⟩
  |false=>
   obtain⟨p1,loc,p2,p3⟩:=hA;exact⟨hp,p1,zh7 hR (h.nodup _) hdj p1 (.inr (by rw[p2];rfl)),loc,p2,p3⟩
 cases iV with
 |true=>
  rcases hok'.2 with hc|⟨_,hv2⟩
  ·exact .inr (mk (.inr rfl) hc)
  ·rw[hs] at hv2;simp[Slot.zay] at hv2
 |false=>
  by_cases hp:a.p=[]
  ·exact .inl ⟨rfl,hp,k1 hp (by rw[hs];rfl)⟩
  ·rcases hok'.2 with hc|⟨hn,_⟩
   ·exact .inr (mk (.inl hp) hc)
   ·cases hap:a.p with
    |nil=>exact absurd hap hp
    |cons _ _=>rw[hap] at hn;simp[isNil] at hn
theorem ze7.val {iV:Bool}{vj v:Value}{t:Ty}{o:Ow}{x:PV t}{bs:List Nat}{q:List PE}(hf:ze7 w Pr iV vj t o x bs q){loc:Nat×Nat}
 (hl:jl w iV t vj q=some loc)(hv:v=pack (getT q t) (zbf w loc.1 loc.2 (getT q t).size)):
 ∃bs' bsR,bs.Perm (bs'++bsR)/\zx w Pr v (getT q t) (getO q o) (get q t x) bs':=by
 obtain⟨b',off',cs',bs',bsR,f1,f2,f3,f4,f5,fL,_⟩:=hf;rw[hl] at f1;obtain rfl:=yl0 f1;exact⟨bs',bsR,f4,cs',by rw[hv];simp only;rw[<-f3.length,f2.read],f3⟩
theorem zdm (h:StB w0 Pr0 M E V w Pr B){d:Opd}{v:Value}(ho:jv w Pr E V d v){t:Ty}{x:PV t}(hr:rd E d.s=some ⟨t,x⟩):
 ∃cs,v=pack t cs/\Rep w (All Pr B) t .b cs x []:=by
 have hall:∀k b,Pr b\/b∈B k->All Pr B b:=λk b hb=>hb.imp id λm=>⟨k,m⟩;cases hix:d.ix with
 |none=>
  unfold jv at ho;rw[hix] at ho;cases hs:d.s<;>rw[hs] at hr ho<;>simp only[rd] at hr<;>try (cases hr;done)
  ·obtain⟨rfl,hx⟩:=Sigma.mk.inj (yl0 hr)
   obtain rfl:=eq_of_heq hx;exact zx.lend ho (λb hb=>hb.elim .inl (λm=>by cases m))
  ·exact ho.elim
  ·exact ho.elim
 |some k=>
  have hso:=zcy h ho hix;cases hs:d.s<;>rw[hs] at hr hso<;>simp only[rd] at hr<;>try (cases hr;done)
  ·obtain⟨rfl,hx⟩:=Sigma.mk.inj (yl0 hr)
   obtain rfl:=eq_of_heq hx;exact zx.lend hso (hall k)
  ·rename_i a
   cases hok:a.okS E with
   |false=>rw[hok] at hr;simp at hr
   |true=>
    rw[hok] at hr;simp only[yb0] at hr
    have go:∀(iV:Bool) (t':Ty) (o':Ow) (x':PV t'),(E.at a.j).s=(if iV then .var t' o' x' else .val t' o' x')->(⟨getT a.p t',get a.p t' x'⟩:SV)=⟨t,x⟩->
     ∃cs,v=pack t cs/\Rep w (All Pr B) t .b cs x []:=by
     intro iV t' o' x' hroot hx;obtain⟨rfl,hx⟩:=Sigma.mk.inj hx;obtain rfl:=eq_of_heq hx;obtain⟨vj,g1,g2,g3,g4⟩:=zh8 h hso hok hroot;rcases g4 with⟨rfl,hp,rfl⟩|⟨_,_,hf,loc,hl,hv⟩
     ·have:∀p,p=[]->∃cs,v=pack (getT p t') cs/\Rep w (All Pr B) (getT p t') .b cs (get p t' x') []:=by
       rintro p rfl;exact zx.lend (show zx _ _ _ _ _ _ _ from g3) (hall _)
      exact this _ hp
     ·obtain⟨bs',bsR,p1,p2⟩:=hf.val hl hv
      exact p2.lend (λb hb=>hall a.j b (hb.imp id λm=>p1.mem_iff.2 (yv0 _ m)))
    split at hr
    ·rename_i t' o' x' hroot
     exact go false t' o' x' hroot (yl0 hr)
    ·rename_i t' o' x' hroot
     exact go true t' o' x' hroot (yl0 hr)
    ·cases hr
  ·rename_i a t' x'
   cases hok:a.okC E&& !(E.at a.j).s.isHole with
   |false=>rw[hok] at hr;simp at hr
   |true=>
    rw[hok] at hr;simp only[yb0,yn0] at hr;obtain⟨rfl,hx⟩:=Sigma.mk.inj hr;obtain rfl:=eq_of_heq hx;obtain⟨e,hl,hk⟩:=hso;have he:=jq hl.1;simp only[Al.okC,he,yh0,yy0,yj1] at hok;obtain⟨cs,q1,q2⟩:=hk hok.1.1 hok.1.2 hok.2;exact⟨cs,q1,q2.more (hall a.j)⟩
end
end Go.Dn
end

section
/- Taking a value into the hand. -/
namespace Go.Dn
section
variable {w0 : World} {Pr0 M : Nat → Prop} {E E' : Env} {V V' : List Value} {w w' : World} {Pr Pr' : Nat → Prop} {B B' : Nat → List Nat}
theorem zx.zax {v:Value}{t:Ty}{o:Ow}{x:PV t}{bs:List Nat}(ho:owns t o=false)(h:zx w Pr v t o x bs):zx w Pr v t .b x []:=by
 obtain⟨cs,h1,h2⟩:=h;have:=h2.zax ho;subst this;exact⟨cs,h1,h2.lend.more (λk hk=>hk.elim id (λm=>by cases m))⟩
def swap (B:Nat->List Nat)(N k:Nat)(b1 b2:List Nat):Nat->List Nat:=λj=>if j=N then b1 else if j=k then b2 else B j
theorem StB.part (h:StB w0 Pr0 M E V w Pr B){N k:Nat}(hN:E.length<=N)(hB:B N=[]){e e':Ent}{v:Value}(he:E[k]? =some e)(hv:V[k]? =some v){b1 b2:List Nat}
 (hp:(B k).Perm (b1++b2))(hb:Bump w w e e' v v)(hs:jd w Pr (E.set k e') V (swap B N k b1 b2) k e'.s v):StB w0 Pr0 M (E.set k e') V w Pr (swap B N k b1 b2):=by
 have hk:=(yf2.1 he).1;have hkN:k≠N:=by omega
 have hn:=hp.nodup_iff.1 (h.nodup k)
 refine h.pool (λj=>j=k\/j=N) (by simp[h.len]) (by simp) (λj hj=> ?_) (λj f u hj hf hu=> ?_) (λj hj b hbb=> ?_) (λ_ h=>h) (λ_ h=>.inl h)
  (λj hj=> ?_) (λi j hi hj hne b hbi hbj=> ?_) (λ_ _ _=>rfl) rfl rfl rfl (ym0 _)
 ·have h1:j≠k:=λe=>hj (.inl e)
  have h2:j≠N:=λe=>hj (.inr e);exact⟨yj2 (Ne.symm h1),rfl,by simp[swap,h1,h2]⟩
 ·rcases hj with rfl|rfl
  ·rw[he] at hf;rw[hv] at hu
   obtain rfl:=yl0 hf;obtain rfl:=yl0 hu;exact⟨e',v,yi2 hk,hv,hs,hb⟩
  ·have:=(yf2.1 hf).1;omega
 ·have hm:b∈B k:=by
   rcases hj with rfl|rfl
   ·simp only[swap,hkN,if_false,if_true] at hbb;exact hp.mem_iff.2 (yq0 _ hbb)
   ·simp only[swap,if_true] at hbb;exact hp.mem_iff.2 (yv0 _ hbb)
  exact⟨.inl ⟨k,.inl rfl,hm⟩,(h.free _ _ hm).2.2⟩
 ·rcases hj with rfl|rfl
  ·simp only[swap,hkN,if_false,if_true];exact(yf1.1 hn).2.1
  ·simp only[swap,if_true];exact(yf1.1 hn).1
 ·rcases hi with rfl|rfl<;>rcases hj with rfl|rfl
  ·exact hne rfl
  ·simp only[swap,hkN,if_false,if_true] at hbi hbj;exact zcu hn hbj hbi
  ·simp only[swap,hkN,if_false,if_true] at hbi hbj;exact zcu hn hbi hbj
  ·exact hne rfl
theorem zgi {N k j:Nat}{b1 b2:List Nat}(h1:j≠N)(h2:j≠k):swap B N k b1 b2 j=B j:=by simp[swap,h1,h2]
theorem zgo {N k:Nat}{b1 b2:List Nat}:swap B N k b1 b2 N=b1:=by simp[swap]
theorem qeu {N k:Nat}{b1 b2:List Nat}(h:k≠N):swap B N k b1 b2 k=b2:=by simp[swap,h]
theorem q4u {vj:Value}{t:Ty}{o:Ow}{x:PV t}{p:List PE}{bs:List Nat}{loc:Nat×Nat}(h:zx w Pr vj t o x bs)(hp:qw p t o x)(hl:jl w false t vj p=some loc):
 ∃g c,vj=.slice (some ⟨g,0,none⟩) (lenOf t x) c:=by
 obtain⟨cs,hv1,hv2⟩:=h;cases p with
 |nil=>cases vj<;>simp[jl] at hl;rename_i A _ _;cases A<;>simp at hl
 |cons q p=>
  cases q with
  |l=>cases vj<;>simp[jl] at hl;rename_i A _ _;cases A<;>simp at hl
  |r=>cases vj<;>simp[jl] at hl;rename_i A _ _;cases A<;>simp at hl
  |ix n=>
   cases t with
   |slice e t=>
    cases o with
    |b=>simp[qw] at hp
    |pr _ _=>simp[qw] at hp
    |row oe=>
     obtain⟨v,ys,b',rfl,h5,_⟩:=jy.1 hv2;rcases ownsRow_form h5 with⟨_,hz,_⟩|⟨g,c,rfl,_,_⟩
     ·have:=hp.1
      omega
     ·exact⟨g,c,hv1⟩
   |_=>simp[qw] at hp
theorem StB.dig (h:StB w0 Pr0 M E V w Pr B){N j:Nat}(hN:E.length<=N)(hB:B N=[]){iV:Bool}{t:Ty}{o:Ow}{x:PV t}{p:List PE}{vj v:Value}
 (he:E[j]? =some (E.at j))(hv:V[j]? =some vj)(hs:(E.at j).s=if iV then .var t o x else .val t o x)(hp:qw p t o x)
 (hf:ze7 w Pr iV vj t o x (B j) p){loc:Nat×Nat}(hl:jl w iV t vj p=some loc)(hval:v=pack (getT p t) (zbf w loc.1 loc.2 (getT p t).size)):
 ∃B1,StB w0 Pr0 M (U.app E (.hol j (.hole iV t o x p))) V w Pr B1/\zx w Pr v (getT p t) (getO p o) (get p t x) (B1 N)/\∀k,E.length<=k->k≠N->B1 k=B k:=by
 have hj:=(yf2.1 he).1;obtain⟨b',off',cs',bs',bsR,f1,f2,f3,f4,f5,fL,f6⟩:=hf;rw[hl] at f1;obtain rfl:=yl0 f1;have hjN:j≠N:=by omega
 refine⟨swap B N j bs' bsR,h.part hN hB he hv f4 (.inr (.inr ⟨rfl,rfl,rfl,iV,t,o,x,p,rfl,hs,hp,λq s _ _ l hl=>hl⟩)) ?_,?_,λk hk hne=>zgi hne (by omega)⟩
 ·show zd7 w Pr iV vj t o x p (swap B N j bs' bsR j)
  rw[qeu hjN];refine⟨b',off',cs',hl,f2,f3.length,f5,hp,fL,f6,λhiv=> ?_,λhpn=> ?_⟩
  ·subst hiv
   have hso:=h.slots j _ vj he hv;rw[hs] at hso;exact q4u hso hp hl
  ·subst hpn
   exact Rep.scl f3
 ·rw[zgo]
  exact⟨cs',by rw[hval];simp only;rw[<-f3.length,f2.read],f3⟩
theorem zd4 (h:StB w0 Pr0 M E V w Pr B){N:Nat}(hN:E.length<=N)(hB:B N=[]){d:Opd}{v:Value}(ho:jv w Pr E V d v){tv:TV}{us:List U}
 (ht:take E d=some (tv,us)):
 ∃B1,StB w0 Pr0 M (appU E us) V w Pr B1/\zx w Pr v tv.t tv.o tv.x (B1 N)/\(∀k,E.length<=k->k≠N->B1 k=B k)/\(appU E us).length=E.length:=by
 unfold take at ht;split at ht
 ·rename_i t o x hs
  cases hown:owns t o with
  |false=>
   rw[hown] at ht;simp only[yd0,yn0,ya1] at ht;obtain⟨rfl,rfl⟩:=ht;refine⟨B,h,?_,λ_ _ _=>rfl,rfl⟩;rw[hB];cases hix:d.ix with
   |none=>
    unfold jv at ho;rw[hix,hs] at ho;exact zx.zax hown ho
   |some k=>
    have hso:=zcy h ho hix;rw[hs] at hso;exact zx.zax hown hso
  |true=>
   rw[hown] at ht;simp only[yb0] at ht;split at ht
   ·rename_i k hix
    simp only[yn0,ya1] at ht;obtain⟨rfl,rfl⟩:=ht;unfold jv at ho;rw[hix,hs] at ho;rcases ho with h0|⟨e,h1,h2,h3⟩
    ·cases h0
    ·have hso:=h.slots k e v h1 h2
     rw[<-h3] at hso;have hk:=(yf2.1 h1).1;have hkN:k≠N:=by omega
     refine⟨swap B N k (B k) [],?_,?_,λi hi hne=>zgi hne (by omega),by simp[appU,U.app]⟩
     ·show StB w0 Pr0 M (E.set k _) V w Pr _
      refine h.part hN hB h1 h2 (by simp) (.inl ?_) trivial;rw[jq h1];exact Nat.lt_succ_self _
     ·rw[zgo];exact hso
   ·rename_i hix
    simp only[yn0,ya1] at ht;obtain⟨rfl,rfl⟩:=ht;unfold jv at ho;rw[hix,hs] at ho;exact⟨B,h,by rw[hB];exact ho,λ_ _ _=>rfl,rfl⟩
 ·rename_i a hs
  cases hok:a.okS E with
  |false=>rw[hok] at ht;simp at ht
  |true=>
   rw[hok] at ht;simp only[yb0] at ht
   have hso:zc2 w E V a v:=by
    cases hix:d.ix with
    |none=>unfold jv at ho;rw[hix,hs] at ho;exact ho.elim
    |some k=>have:=zcy h ho hix;rw[hs] at this;exact this
   split at ht
   ·rename_i t o x hroot
    obtain⟨vj,g1,g2,g3,g4⟩:=zh8 (iV:=false) h hso hok hroot;cases hown:owns (getT a.p t) (getO a.p o) with
    |false=>
     rw[hown] at ht;simp only[yd0,yn0,ya1] at ht;obtain⟨rfl,rfl⟩:=ht;refine⟨B,h,?_,λ_ _ _=>rfl,rfl⟩;rw[hB];rcases g4 with⟨_,hp,rfl⟩|⟨_,_,hf,loc,hl,hv⟩
     ·have:∀p,p=[]->owns (getT p t) (getO p o)=false->zx w Pr v (getT p t) .b (get p t x) []:=by
       rintro p rfl ho;exact zx.zax ho (show zx _ _ _ _ _ _ _ from g3)
      exact this _ hp hown
     ·obtain⟨bs',bsR,p1,p2⟩:=hf.val hl hv
      exact zx.zax hown p2
    |true=>
     rw[hown] at ht;simp only[yb0] at ht;cases hn:isNil a.p with
     |true=>
      rw[hn] at ht;simp only[yb0,yn0,ya1] at ht;obtain⟨rfl,rfl⟩:=ht;have hp:a.p=[]:=by cases hap:a.p with|nil=>rfl|cons _ _=>rw[hap] at hn;simp[isNil] at hn
      rcases g4 with⟨_,_,rfl⟩|⟨hp',_⟩
      ·have hj:=(yf2.1 g2).1
       have hjN:a.j≠N:=by omega
       refine⟨swap B N a.j (B a.j) [],?_,?_,λi hi hne=>zgi hne (by omega),by simp[appU,U.app]⟩
       ·show StB w0 Pr0 M (E.set a.j _) V w Pr _
        exact h.part hN hB g2 g1 (by simp) (.inl (Nat.lt_succ_self _)) trivial
       ·rw[zgo];exact g3
      ·rcases hp' with hp'|hp'
       ·exact absurd hp hp'
       ·cases hp'
     |false=>
      rw[hn] at ht;simp only[yd0,yn0,ya1] at ht;obtain⟨rfl,rfl⟩:=ht;rcases g4 with⟨_,hp,_⟩|⟨_,hpath,hf,loc,hl,hv⟩
      ·rw[hp] at hn;simp[isNil] at hn
      ·obtain⟨B1,q1,q2,q3⟩:=h.dig hN hB g2 g1 (iV:=false) hroot hpath hf hl hv
       exact⟨B1,q1,q2,q3,by simp[appU,U.app]⟩
   ·rename_i t o x hroot
    obtain⟨vj,g1,g2,g3,g4⟩:=zh8 (iV:=true) h hso hok hroot;rcases g4 with⟨hbad,_⟩|⟨_,hpath,hf,loc,hl,hv⟩
    ·cases hbad
    cases hown:owns (getT a.p t) (getO a.p o) with
    |false=>
     rw[hown] at ht;simp only[yd0,yn0,ya1] at ht;obtain⟨rfl,rfl⟩:=ht;refine⟨B,h,?_,λ_ _ _=>rfl,rfl⟩;rw[hB];obtain⟨bs',bsR,p1,p2⟩:=hf.val hl hv;exact zx.zax hown p2
    |true=>
     rw[hown] at ht;simp only[yb0,yn0,ya1] at ht;obtain⟨rfl,rfl⟩:=ht;obtain⟨B1,q1,q2,q3⟩:=h.dig hN hB g2 g1 (iV:=true) hroot hpath hf hl hv;exact⟨B1,q1,q2,q3,by simp[appU,U.app]⟩
   ·cases ht
 ·cases ht
end
end Go.Dn
end

section
/- The program's types against the interpreter's; loads, stores and new blocks as the machine does them. -/
namespace Go.Dn
def zOk:Ty->List Value->Option (List Value)
 | .int k,.int k' n::r=>if k=k'/\n=0 then some r else none
 | .bool,.bool b::r=>if b=false then some r else none
 | .str,.string s::r=>match s with|⟨⟨[]⟩⟩=>some r|_=>none
 | .slice _ _,.slice none n m::r=>if n=0/\m=0 then some r else none
 | .unit,r=>some r
 | .pair a b,cs=>(zOk a cs).bind (zOk b)
 |_,_=>none
def zbs (tab:List (TypeId×Ty)):List Field->Nat->Ty->Bool
 |[],_,.unit=>true
 |f::fs,o,.pair a b=>(lookup tab f.type==some a)&&(f.offset==o)&& !(a.size==0)&&zbs tab fs (o+a.size) b
 |_,_,_=>false
def vk (a:Ty):Nat->Ty->Bool
 |0,.unit=>true
 |n+1,.pair b c=>(b==a)&&vk a n c
 |_,_=>false
def fits (tab:List (TypeId×Ty)):TypeDesc->Ty->Bool
 | .int k,.int k'=>k==k'
 | .bool,.bool=>true
 | .string,.str=>true
 | .slice e,.slice e' t=>(e==e')&&(lookup tab e==some t)&& !(t.size==0)
 | .struct fs,t=>t.agg&&zbs tab fs.toList 0 t
 | .array n e,t=>t.agg&&(match lookup tab e with|some a=> !(a.size==0)&&vk a n t|none=>false)
 |_,_=>false
def tyOk (P:Program)(tab:List (TypeId×Ty))(q:TypeId×Ty):Bool:=
 match P.info? q.1,P.underlying q.1 with
 |some i,some d=>(i.size==q.2.size)&&(match i.zero with|some z=>(match zOk q.2 z.cells.toList with|some []=>true|_=>false)|none=>false)&&decide (i.bytes<=128)&&fits tab d q.2
 |_,_=>false
def ji (P:Program)(tab:List (TypeId×Ty)):Prop:=tab.all (tyOk P tab)=true
theorem zdv {α:Type}:∀{l:List (Nat×α)} {k:Nat} {a:α},lookup l k=some a->(k,a)∈l
 |[],_,_,h=>by cases h
 |(k',a')::l,k,a,h=>by
  simp only[lookup] at h;cases hk:(k'==k) with
  |true=>rw[hk] at h;simp only[yb0,yn0] at h;subst h;rw[yy0] at hk;subst hk;exact yk0 ..
  |false=>rw[hk] at h;exact yg0 _ (zdv h)
structure TyFact (P:Program)(tab:List (TypeId×Ty))(tid:TypeId)(t:Ty):Prop where
 info:∃i z,P.info? tid=some i/\i.size=t.size/\i.zero=some z/\zOk t z.cells.toList=some []/\i.bytes<=128
 und:∃d,P.underlying tid=some d/\fits tab d t=true
theorem jr {P:Program}{tab:List (TypeId×Ty)}(h:ji P tab){tid:TypeId}{t:Ty}(hl:lookup tab tid=some t):TyFact P tab tid t:=by
 have:=ys2.1 h _ (zdv hl);unfold tyOk at this;split at this
 ·rename_i i d h1 h2
  simp only[yh0,yy0,yr0] at this;obtain⟨⟨⟨a1,a2⟩,a3⟩,a4⟩:=this;refine⟨?_,d,h2,a4⟩;split at a2
  ·rename_i z hz
   split at a2
   ·rename_i hzo;exact⟨i,z,h1,a1,hz,hzo,a3⟩
   ·cases a2
  ·cases a2
 ·cases this
theorem zgj {w:World}{Pr:Nat->Prop}:∀{t:Ty} {cs r:List Value},zOk t cs=some r->∃c,cs=c++r/\Rep w Pr t (top t) c (dflt t) []
 | .int k,[],_,h=>by simp[zOk] at h
 | .int k,c::cs,r,h=>by
   cases c<;>simp[zOk] at h;obtain⟨⟨rfl,rfl⟩,rfl⟩:=h;exact⟨[.int k 0],rfl,rfl,rfl⟩
 | .bool,[],_,h=>by simp[zOk] at h
 | .bool,c::cs,r,h=>by
   cases c<;>simp[zOk] at h;obtain⟨rfl,rfl⟩:=h;exact⟨[.bool false],rfl,rfl,rfl⟩
 | .str,[],_,h=>by simp[zOk] at h
 | .str,c::cs,r,h=>by
   cases c<;>simp[zOk] at h;split at h
   ·obtain rfl:=yl0 h;exact⟨[strV []],rfl,rfl,rfl⟩
   ·cases h
 | .unit,cs,r,h=>by simp[zOk] at h;subst h;exact⟨[],rfl,rfl,rfl⟩
 | .pair a b,cs,r,h=>by
   simp only[zOk,yo2] at h;obtain⟨r1,h1,h2⟩:=h;obtain⟨c1,rfl,g1⟩:=zgj (w:=w) (Pr:=Pr) h1;obtain⟨c2,rfl,g2⟩:=zgj (w:=w) (Pr:=Pr) h2;exact⟨c1++c2,by simp,c1,c2,[],[],rfl,by simp,g1,g2⟩
 | .slice e t,[],_,h=>by simp[zOk] at h
 | .slice e t,c::cs,r,h=>by
   have hc:∃n m,c=.slice none n m/\n=0/\m=0/\cs=r:=by
    cases c with
    |slice A n m=>
     cases A with
     |none=>simp[zOk] at h;exact⟨n,m,rfl,h.1.1,h.1.2,h.2⟩
     |some a=>simp[zOk] at h
    |_=>simp[zOk] at h
   obtain⟨n,m,rfl,rfl,rfl,rfl⟩:=hc;exact⟨[.slice none 0 0],rfl,jy.2 ⟨.slice none 0 0,[],[],rfl,World.ownsRow_nil _ _ _ _,by simp[Value.ownBlock],rfl,rfl⟩⟩
theorem Rep.one {w:World}{Pr:Nat->Prop}:∀{t:Ty} {o:Ow} {cs:List Value} {x:PV t} {bs:List Nat},Rep w Pr t o cs x bs->∀u∈cs,u.oneCell'=true
 | .int _,_,_,_,_,h=>by rw[h.1];simp[Value.oneCell']
 | .bool,_,_,_,_,h=>by rw[h.1];simp[Value.oneCell']
 | .str,_,_,_,_,h=>by rw[h.1];simp[strV,Value.oneCell']
 | .unit,_,_,_,_,h=>by rw[h.1];simp
 | .pair a b,_,_,_,_,h=>by
   obtain⟨c1,c2,b1,b2,rfl,e2,h1,h2⟩:=h;intro u hu;rcases yu0.1 hu with hu|hu
   ·exact h1.one u hu
   ·exact h2.one u hu
 | .slice e t,.row oe,_,_,_,h=>by
   obtain⟨v,ys,b',rfl,h1,_⟩:=jy.1 h;intro u hu;rw[yl1.1 hu];rcases ownsRow_form h1 with⟨rfl,_⟩|⟨g,c,rfl,_⟩<;>simp[Value.oneCell']
 | .slice e t,.b,_,_,_,h=>by obtain⟨_,A,c,rfl,_⟩:=za0.1 h;simp[Value.oneCell']
 | .slice e t,.pr _ _,_,_,_,h=>by obtain⟨_,A,c,rfl,_⟩:=zby.1 h;simp[Value.oneCell']
theorem RepL.one {w:World}{Pr:Nat->Prop}{t:Ty}{o:Ow}:∀{xs:List (PV t)} {cs:List Value} {bs:List Nat},RepL (Rep w Pr t o) cs xs bs->∀u∈cs,u.oneCell'=true
 |[],_,_,h=>by rw[h.1];simp
 |_::_,_,_,h=>by
  obtain⟨c1,c2,b1,b2,rfl,p2,h1,h2⟩:=h;intro u hu;rcases yu0.1 hu with hu|hu
  ·exact h1.one u hu
  ·exact h2.one u hu
theorem q4v {v:Value}(h:v.oneCell'=true):v.cells= #[v]:=by cases v<;>simp[Value.oneCell'] at h<;>rfl
theorem pack_cells {w:World}{Pr:Nat->Prop}{t:Ty}{o:Ow}{cs:List Value}{x:PV t}{bs:List Nat}(h:Rep w Pr t o cs x bs):(pack t cs).cells=cs.toArray:=by
 unfold pack;cases ha:t.agg with
 |true=>rfl
 |false=>
  simp only[Bool.false_eq_true,if_false];have hl:=h.length;have h1:t.size=1:=by cases t<;>simp[Ty.agg] at ha<;>rfl
  rw[h1] at hl;obtain⟨v,rfl⟩:=yc3.1 hl;exact q4v (h.one v (List.mem_singleton_self _))
theorem qwv {tab:List (TypeId×Ty)}{d:TypeDesc}{t:Ty}(h:fits tab d t=true):(match d with| .struct _| .array _ _=>true|_=>false)=t.agg:=by
 cases d<;>cases t<;>first|rfl|(unfold fits at h;simp[Ty.agg] at h;done)
section
variable {P : Program} {tab : List (TypeId × Ty)} {tid : TypeId} {t : Ty} {w : World}
theorem z9k (hf:TyFact P tab tid t):(isAgg tid).run P w=.ok t.agg w:=by
 obtain⟨d,h1,h2⟩:=hf.und;have:=qwv h2;simp only[isAgg,Sem.run_bind,run_underlying h1,Result.andThen_ok];rw[<-this];cases d<;>rfl
theorem run_sizeOf (hf:TyFact P tab tid t):(sizeOf tid).run P w=.ok t.size w:=by
 obtain⟨i,z,h1,h2,_⟩:=hf.info;simp[Go.sizeOf,typeInfo,program,Sem.run,h1,h2]
theorem Cells.zvf {b off:Nat}{cs:List Value}(h:zaj w b off cs):Cells w ⟨b,off,none⟩ cs:=by
 obtain⟨cur,T,h1,h2⟩:=h;intro j u hu;rw[show(⟨b,off,none⟩:Addr).add j=⟨b,off+j,none⟩ by unfold Addr.add;split<;>simp_all];simp only[World.cell?,h1,Option.isSome_none,Bool.false_eq_true,if_false];exact h2 j u hu
theorem zy7 (hf:TyFact P tab tid t){a:Addr}{cs:List Value}(hc:Cells w a cs)(hl:cs.length=t.size):(loadVar tid a).run P w=.ok (pack t cs) w:=by
 simp only[loadVar,Sem.run_bind,z9k hf,Result.andThen_ok];unfold pack;cases ha:t.agg with
 |true=>
  simp only[if_true,Sem.run_bind,run_sizeOf hf,Result.andThen_ok,<-hl,run_loadCells_list (P:=P) w a cs hc];rfl
 |false=>
  simp only[Bool.false_eq_true,if_false];have h1:t.size=1:=by cases t<;>simp[Ty.agg] at ha<;>rfl
  rw[h1] at hl;obtain⟨v,rfl⟩:=yc3.1 hl;have:=hc 0 v rfl;rw[show a.add 0=a by simp[Addr.add]] at this;simp[load,Sem.run,this]
theorem zt6 (hf:TyFact P tab tid t){a:Addr}{cs:List Value}(hc:Cells w a cs)(hl:cs.length=t.size):(Instr.loadAt tid (.pointer (some a))).run P w=.ok (pack t cs) w:=by
 simp[Instr.loadAt,Instr.sureAddr,zy7 hf hc hl]
theorem qww (hf:TyFact P tab tid t){b off:Nat}{old new:List Value}(hh:zaj w b off old)(hl:old.length=t.size){v:Value}(hv:v.cells=new.toArray)(hn:new.length=t.size)
 (h1:∀u∈new,u.oneCell'=true):
 ∃w2,(Instr.storeAt tid (.pointer (some ⟨b,off,none⟩)) v).run P w=.ok () w2/\Upd w w2 b off new/\(∀k,k≠b->w2.heap[k]? =w.heap[k]?)/\w2.os=w.os/\w2.tape=w.tape/\
  w2.output=w.output/\w2.heap.size=w.heap.size:=by
 obtain⟨cur,T,g1,g2⟩:=hh;by_cases h0:new=[]
 ·subst h0
  refine⟨w,?_,⟨cur,T,cur,g1,g1,rfl,λ_ _=>rfl,by simp⟩,λ_ _=>rfl,rfl,rfl,rfl,rfl⟩;have:t.size=0:=by simpa using hn.symm
  simp[Instr.storeAt,Instr.sureAddr,storeVar,hv,run_sizeOf hf,this,storeCells]
 ·have hlen:0<new.length:=by cases new<;>simp at h0 ⊢
  have hfit:off+new.length<=cur.size:=by
   have hlast:old.length -1<old.length:=by omega
   have:=g2 (old.length -1) _ (yt1 hlast);have:=(ys1.1 this).1;omega
  have hr:=run_storeCells_at P b off T new 0 cur w g1 (by simpa using hfit) h1;simp only[Nat.add_zero] at hr;refine⟨w.setRow b (cur.toList.take off++new++cur.toList.drop (off+new.length)).toArray,?_,⟨cur,T,_,g1,setRow_heap w b cur _ T _ g1,?_,?_,?_⟩,λk hk=>setRow_other w b k _ hk,rfl,rfl,rfl,by simp⟩
  ·simp[Instr.storeAt,Instr.sureAddr,storeVar,run_sizeOf hf,hn,hv,hr]
  ·simp;omega
  ·intro i hi
   simp only[List.getElem?_toArray];rcases hi with hi|hi
   ·rw[yj0,yz1 (by simp;omega),List.getElem?_take,yx0 hi];simp
   ·rw[ya2 (by simp;omega),List.getElem?_drop]
    simp only[ye0,yr1,Array.length_toList];rw[show off+new.length+(i -(min off cur.size+new.length))=i by omega];simp
  ·intro i u hu
   have hi:=(yf2.1 hu).1;simp only[List.getElem?_toArray];rw[yz1 (by simp;omega),ya2 (by simp;omega)];simp only[yr1,Array.length_toList];rw[show off+i -min off cur.size=i by omega];exact hu
theorem zz8 (w:World)(o:Obj):(w.alloc o).heap[w.heap.size]? =some o:=by show(w.heap.push o)[w.heap.size]? =_;simp
theorem zje (w:World)(o:Obj)(k:Nat)(h:k<w.heap.size):(w.alloc o).heap[k]? =w.heap[k]? :=by
 show(w.heap.push o)[k]? =_;rw[Array.getElem?_push,yw0 (by omega)]
theorem z7k (v:Value):(newVar tid v).run P w=.ok ⟨w.heap.size,0,none⟩ (w.alloc (.cells v.cells tid)):=by
 rfl
end
end Go.Dn
end

section
/- Operations, first part: what touches no memory. -/
namespace Go.Dn
section
variable {w0 : World} {Pr0 M : Nat → Prop}
def Hand (w0:World)(Pr0 M:Nat->Prop)(E:Env)(V:List Value)(w:World)(s:Slot)(v:Value):Prop:=
 ∃Pr B,StB w0 Pr0 M E V w Pr B/\jd w Pr E V B E.length s v/\∀k,E.length<k->B k=[]
theorem Hand.put {E:Env}{V:List Value}{w:World}{s:Slot}{v:Value}(h:Hand w0 Pr0 M E V w s v){k:Nat}(hk:k<E.length):St w0 Pr0 M (zaq E k s) (V.set k v) w:=by
 obtain⟨Pr,B,h1,h2,h3⟩:=h;refine⟨Pr,lay B E.length k,h1.put (ym0 _) hk h2,λj hj=> ?_⟩;simp only[zaq,yc2] at hj;unfold lay;rw[yw0 (by omega)];split
 ·rfl
 ·exact h3 j (by omega)
theorem Hand.drop {E:Env}{V:List Value}{w:World}{s:Slot}{v:Value}(h:Hand w0 Pr0 M E V w s v):St w0 Pr0 M E V w:=by
 obtain⟨Pr,B,h1,h2,h3⟩:=h
 refine⟨Pr,λk=>if E.length<=k then[] else B k,h1.hand (λk hk=>yw0 (by omega)) (λk hk b hb=>by simp[hk] at hb) (λ_ h=>h) (λ_ h=>.inl h)
  (λk hk=>by simp[hk]) (λj k hj hk _ b hb=>by simp[hj] at hb) (λ_ _ _=>rfl) rfl rfl rfl (ym0 _),λk hk=>yx0 hk⟩
structure Fr (off:Nat)(V:List Value)(a:Act):Prop where
 ex:∃outer,V=outer++a.tmps.toList/\off=outer.length
variable {P : Program} {cx : Cx} {E : Env} {V : List Value} {w : World} {Pr : Nat → Prop} {B : Nat → List Nat} {off : Nat} {a : Act}
theorem qbn (hf:Fr off V a){t:Nat}{v:Value}(h:V[off+t]? =some v):a.eval (.tmp t)=v:=by
 obtain⟨outer,h1,h2⟩:=hf.ex;rw[h1,h2,ya2 (by omega),yy2] at h;simp only[Act.eval];simp only[yl2] at h;rw[Array.getD_eq_getD_getElem?,h];rfl
theorem q2c (w:World)(Pr:Nat->Prop){v:Value}:match zni v with| .val t o x=>zx w Pr v t o x []/\o=.b| .none=>True|_=>False:=by
 cases v<;>simp only[zni]
 ·exact⟨⟨_,rfl,rfl,rfl⟩,trivial⟩
 ·exact⟨⟨_,rfl,rfl,rfl⟩,trivial⟩
 ·exact⟨⟨_,rfl,rfl,rfl⟩,trivial⟩
theorem qx (h:StB w0 Pr0 M E V w Pr B)(hf:Fr off V a)(x:Operand):jv w Pr E V (opd E off x) (a.eval x):=by
 cases x with
 |tmp t=>
  simp only[opd,jv];cases he:E[off+t]? with
  |none=>left;unfold Env.at;rw[yg2,he];rfl
  |some e=>
   right;have hk:=(yf2.1 he).1;have hv:=yt1 (l:=V) (i:=off+t) (by rw[<-h.len];exact hk);exact⟨e,rfl,by rw[hv];rw[qbn hf hv],by rw[jq he]⟩
 |const v=>
  have:=q2c w Pr (v:=v);simp only[opd,jv];show match zni v with| .val t o x=>_| .fn f caps=>_| .none=>_|_=>_
  split at this
  ·rename_i t o x hs;rw[hs];exact this.1
  ·rename_i hs;rw[hs];trivial
  ·exact this.elim
 |func f=>exact⟨rfl,rfl⟩
 |global g=>trivial
theorem zb1 (h:StB w0 Pr0 M E V w Pr B)(hf:Fr off V a)(t:TypeId)(x:Operand):jv w Pr E V (opdT cx E off t x) (a.eval x):=by
 unfold opdT;split
 ·split
  ·exact⟨[.slice none 0 0],rfl,jy.2 ⟨.slice none 0 0,[],[],rfl,World.ownsRow_nil _ _ _ _,by simp[Value.ownBlock],rfl,rfl⟩⟩
  ·trivial
 ·exact qx h hf x
theorem zd2 (h:StB w0 Pr0 M E V w Pr B){d:Opd}{v:Value}(ho:jv w Pr E V d v){N:Nat}(hB:B N=[]):jd w Pr E V B N (alias E d) v:=by
 have copy:∀{k:Nat},d.ix=some k->(∀n,jd w Pr E V B k d.s v->jd w Pr E V B n d.s v)->jd w Pr E V B N d.s v:=λhk hn=>hn N (zcy h ho hk);unfold alias;split
 ·rename_i t o x k hs hix
  have hso:=zcy h ho hix;rw[hs] at hso;cases hown:owns t o with
  |true=>
   simp only[yb0];unfold jv at ho;rw[hix] at ho;rcases ho with h0|⟨e,h1,h2,h3⟩
   ·rw[hs] at h0;cases h0
   ·refine⟨e,v,⟨h1,?_,?_⟩,h2,λhi=>⟨λ_ _=>rfl,λ_ hp=> ?_⟩⟩
    ·simp only[jq h1];exact ym0 _
    ·simp only[jq h1];intro _;exact ym0 _
    ·rw[<-h3,hs] at hp;simp[Slot.zay] at hp
  |false=>
   simp only[yd0];show zx w Pr v t .b x (B N);rw[hB];exact zx.zax hown hso
 ·rename_i t o x hs hix
  unfold jv at ho;rw[hix,hs] at ho;cases hown:owns t o with
  |true=>trivial
  |false=>
   simp only[yd0];show zx w Pr v t .b x (B N);rw[hB];exact zx.zax hown ho
 ·rename_i t o x k hs hix
  unfold jv at ho;rw[hix] at ho;rcases ho with h0|⟨e,h1,h2,h3⟩
  ·rw[hs] at h0;cases h0
  ·refine⟨e,v,⟨h1,?_,?_⟩,h2,λhi=>⟨λ_=>rfl,λhp=>absurd rfl hp⟩⟩
   ·simp only[jq h1];exact ym0 _
   ·simp only[jq h1];intro _;exact ym0 _
 ·rename_i al k hs
  cases hix:d.ix with
  |none=>unfold jv at ho;rw[hix,hs] at ho;exact ho.elim
  |some k=>have:=copy hix (λn q=>by rw[hs] at q ⊢;exact q);rw[hs] at this;exact this
 ·rename_i al k hs
  cases hix:d.ix with
  |none=>unfold jv at ho;rw[hix,hs] at ho;exact ho.elim
  |some k=>have:=copy hix (λn q=>by rw[hs] at q ⊢;exact q);rw[hs] at this;exact this
 ·rename_i al t x k hs
  cases hix:d.ix with
  |none=>unfold jv at ho;rw[hix,hs] at ho;exact ho.elim
  |some k=>have:=copy hix (λn q=>by rw[hs] at q ⊢;exact q);rw[hs] at this;exact this
 ·rename_i t x k hs
  cases hix:d.ix with
  |none=>unfold jv at ho;rw[hix,hs] at ho;exact ho.elim
  |some k=>have:=copy hix (λn q=>by rw[hs] at q ⊢;exact q);rw[hs] at this;exact this
 ·rename_i f c k hs
  cases hix:d.ix with
  |none=>
   unfold jv at ho;rw[hix,hs] at ho;obtain⟨rfl,rfl⟩:=ho;exact⟨[],rfl,trivial⟩
  |some k=>have:=copy hix (λn q=>by rw[hs] at q ⊢;exact q);rw[hs] at this;exact this
 ·trivial
def jk (w0:World)(Pr0 M:Nat->Prop)(P:Program)(E:Env)(V:List Value)(w:World)(a:Act)(o:Oper)(z:SU):Prop:=
 ∃r w' v,(execOp a.eval o).run P w=.ok r w'/\(r=.value v\/(r=.skip/\v=undef))/\(appU E z.2).length=E.length/\Hand w0 Pr0 M (appU E z.2) V w' z.1 v
theorem za5 (h:StB w0 Pr0 M E V w Pr B)(hN:∀k,E.length<=k->B k=[]){s:Slot}{v:Value}(hs:∀N,B N=[]->jd w Pr E V B N s v):Hand w0 Pr0 M E V w s v:=
 ⟨Pr,B,h,hs _ (hN _ (ym0 _)),λk hk=>hN k (by omega)⟩
theorem q2d {o:Oper}{x:Operand}(hop:o.op=.move x)(h:StB w0 Pr0 M E V w Pr B)(hN:∀k,E.length<=k->B k=[])(hf:Fr off V a):
 jk w0 Pr0 M P E V w a o (alias E (opd E off x),[]):=
 ⟨.value (a.eval x),w,a.eval x,by simp[execOp,hop],.inl rfl,rfl,za5 h hN λ_ hB=>zd2 h (qx h hf x) hB⟩
theorem qql {o:Oper}{x:Operand}(hop:o.op=.move x)(h:StB w0 Pr0 M E V w Pr B)(hN:∀k,E.length<=k->B k=[])(hf:Fr off V a){k:Nat}{l:List TV}(hd:opd E off x=⟨some k,.tup l⟩):
 jk w0 Pr0 M P E V w a o (.tup l,[.new k .none]):=by
 have ho:=qx h hf x;rw[hd] at ho;unfold jv at ho;simp only at ho;rcases ho with h0|⟨e,h1,h2,h3⟩
 ·cases h0
 ·have hk:=(yf2.1 h1).1
  have hso:=h.slots k e _ h1 h2;rw[<-h3] at hso;obtain⟨vs,q1,q2⟩:=hso;refine⟨.value (a.eval x),w,a.eval x,by simp[execOp,hop],.inl rfl,by simp[appU,U.app],Pr,swap B E.length k (B k) [],?_,?_,λj hj=> ?_⟩
  ·show StB w0 Pr0 M (E.set k _) V w Pr _
   exact h.part (ym0 _) (hN _ (ym0 _)) h1 h2 (by simp) (.inl (by rw[jq h1];exact Nat.lt_succ_self _)) trivial
  ·have hl:(appU E [.new k .none]).length=E.length:=by simp[appU,U.app]
   show jd w Pr _ V _ (appU E [.new k .none]).length (.tup l) (a.eval x);rw[hl];exact⟨vs,q1,by rw[zgo];exact q2⟩
  ·have hl:(appU E [.new k .none]).length=E.length:=by simp[appU,U.app]
   simp only at hj;rw[hl] at hj;rw[zgi (by omega) (by omega)];exact hN j (by omega)
theorem zy8 {o:Oper}{x:Operand}(hop:o.op=.assign x)(h:StB w0 Pr0 M E V w Pr B)(hN:∀k,E.length<=k->B k=[])(hf:Fr off V a):
 jk w0 Pr0 M P E V w a o (alias E (opd E off x),[]):=
 ⟨.value (a.eval x),w,a.eval x,by simp[execOp,hop],.inl rfl,rfl,za5 h hN λ_ hB=>zd2 h (qx h hf x) hB⟩
theorem z9l (h:StB w0 Pr0 M E V w Pr B)(hN:∀k,E.length<=k->B k=[]){d:Opd}{v:Value}(ho:jv w Pr E V d v){tv:TV}{us:List U}(ht:take E d=some (tv,us)):
 Hand w0 Pr0 M (appU E us) V w (.val tv.t tv.o tv.x) v/\(appU E us).length=E.length:=by
 obtain⟨B1,h1,h2,h3,h4⟩:=zd4 h (N:=E.length) (ym0 _) (hN _ (ym0 _)) ho ht;refine⟨⟨Pr,B1,h1,?_,λk hk=> ?_⟩,h4⟩
 ·rw[h4];exact h2
 ·rw[h4] at hk
  rw[h3 k (by omega) (by omega)];exact hN k (by omega)
theorem qwx {o:Oper}{x:Operand}(hop:o.op=.assign x)(h:StB w0 Pr0 M E V w Pr B)(hN:∀k,E.length<=k->B k=[])(hf:Fr off V a){tv:TV}{us:List U}
 (ht:take E (opdT cx E off o.type x)=some (tv,us)):jk w0 Pr0 M P E V w a o (.val tv.t tv.o tv.x,us):=by
 obtain⟨h1,h2⟩:=z9l h hN (zb1 h hf o.type x) ht;exact⟨.value (a.eval x),w,a.eval x,by simp[execOp,hop],.inl rfl,h2,h1⟩
theorem Rep.plain {w w':World}{Q Q':Nat->Prop}:∀{t:Ty} {o o':Ow} {cs:List Value} {x:PV t} {bs:List Nat},noSl t=true->Rep w Q t o cs x bs->Rep w' Q' t o' cs x []
 | .int _,_,_,_,_,_,_,h=>⟨h.1,rfl⟩
 | .bool,_,_,_,_,_,_,h=>⟨h.1,rfl⟩
 | .str,_,_,_,_,_,_,h=>⟨h.1,rfl⟩
 | .unit,_,_,_,_,_,_,h=>⟨h.1,rfl⟩
 | .pair a b,_,_,_,_,_,hn,h=>by
   simp only[noSl,yh0] at hn;obtain⟨c1,c2,b1,b2,e1,_,h1,h2⟩:=h;exact⟨c1,c2,[],[],e1,by simp,h1.plain hn.1,h2.plain hn.2⟩
 | .slice _ _,_,_,_,_,_,hn,_=>by simp[noSl] at hn
theorem zkg (h:StB w0 Pr0 M E V w Pr B){d:Opd}{v:Value}(ho:jv w Pr E V d v){t:Ty}{x:PV t}(hr:rd E d.s=some ⟨t,x⟩)(hn:noSl t=true)(w':World)(Q:Nat->Prop)(o:Ow):
 zx w' Q v t o x []:=by
 obtain⟨cs,h1,h2⟩:=zdm h ho hr;exact⟨cs,h1,h2.plain hn⟩
theorem zbo (h:StB w0 Pr0 M E V w Pr B){d:Opd}{v:Value}(ho:jv w Pr E V d v){k:IntKind}{n:Int}(hr:rd E d.s=some ⟨.int k,n⟩):v=.int k n:=by
 obtain⟨cs,h1,h2⟩:=zdm h ho hr;rw[h1,h2.1];rfl
theorem zm6 (h:StB w0 Pr0 M E V w Pr B){d:Opd}{v:Value}(ho:jv w Pr E V d v){b:Bool}(hr:rd E d.s=some ⟨.bool,b⟩):v=.bool b:=by
 obtain⟨cs,h1,h2⟩:=zdm h ho hr;rw[h1,h2.1];rfl
theorem zww (h:StB w0 Pr0 M E V w Pr B){d:Opd}{v:Value}(ho:jv w Pr E V d v){s:List UInt8}(hr:rd E d.s=some ⟨.str,s⟩):v=strV s:=by
 obtain⟨cs,h1,h2⟩:=zdm h ho hr;rw[h1,h2.1];rfl
theorem zvg (h:StB w0 Pr0 M E V w Pr B){d:Opd}{v:Value}(ho:jv w Pr E V d v){e:TypeId}{t:Ty}{xs:List (PV t)}(hr:rd E d.s=some ⟨.slice e t,xs⟩):
 ∃A c,v=.slice A xs.length c/\xs.length<=c/\Bor w (All Pr B) t [v] xs:=by
 obtain⟨cs,h1,h2⟩:=zdm h ho hr;have hb:=(za0.1 h2).2;obtain⟨A,c,rfl,h3,h4⟩:=hb;exact⟨A,c,h1,h3,by rw[h1];exact(za0.1 h2).2⟩
theorem q2e (w:World)(Q:Nat->Prop)(k:IntKind)(n:Int):zx w Q (.int k n) (.int k) .b n []:=⟨[.int k n],rfl,rfl,rfl⟩
theorem qzt (w:World)(Q:Nat->Prop)(b:Bool):zx w Q (.bool b) .bool .b b []:=⟨[.bool b],rfl,rfl,rfl⟩
theorem q2f (w:World)(Q:Nat->Prop)(s:List UInt8):zx w Q (strV s) .str .b s []:=⟨[strV s],rfl,rfl,rfl⟩
theorem zpu {N:Nat}(hB:B N=[]){t:Ty}{x:PV t}{v:Value}(h:zx w Pr v t .b x []):jd w Pr E V B N (sv t x) v:=by
 show zx w Pr v t .b x (B N);rw[hB];exact h
theorem zas {t t':Ty}{x:PV t}{y:PV t'}(h:zac t t' x=some y):∃e:t=t',y=e▸x:=by
 unfold zac at h;split at h
 ·rename_i e;exact⟨e,(yl0 h).symm⟩
 ·cases h
theorem q2g {o:Oper}{c x y:Operand}(hop:o.op=.pick c x y)(h:StB w0 Pr0 M E V w Pr B)(hN:∀k,E.length<=k->B k=[])(hf:Fr off V a)
 {bc:Bool}{t:Ty}{xv yv:PV t}(hc:rd E (opd E off c).s=some ⟨.bool,bc⟩)(hx:rd E (opd E off x).s=some ⟨t,xv⟩)(hy:rd E (opd E off y).s=some ⟨t,yv⟩)(hn:noSl t=true):
 jk w0 Pr0 M P E V w a o (sv t (bif bc then xv else yv),[]):=by
 have h1:=zm6 h (qx h hf c) hc;refine⟨.value (if bc then a.eval x else a.eval y),w,_,by simp[execOp,hop,h1,asBool],.inl rfl,rfl,za5 h hN λN hB=>zpu hB ?_⟩;cases bc with
 |true=>exact zkg h (qx h hf x) hx hn w Pr .b
 |false=>exact zkg h (qx h hf y) hy hn w Pr .b
theorem z7l {o:Oper}{c x y:Operand}(hop:o.op=.pick c x y)(h:StB w0 Pr0 M E V w Pr B)(hN:∀k,E.length<=k->B k=[])(hf:Fr off V a)
 {bc:Bool}{t:Ty}{xv:PV t}(hc:rd E (opd E off c).s=some ⟨.bool,bc⟩)(hx:rd E (opd E off (bif bc then x else y)).s=some ⟨t,xv⟩)(hn:noSl t=true):
 jk w0 Pr0 M P E V w a o (sv t xv,[]):=by
 have h1:=zm6 h (qx h hf c) hc;refine⟨.value (if bc then a.eval x else a.eval y),w,_,by simp[execOp,hop,h1,asBool],.inl rfl,rfl,za5 h hN λN hB=>zpu hB ?_⟩;cases bc with
 |true=>exact zkg h (qx h hf x) hx hn w Pr .b
 |false=>exact zkg h (qx h hf y) hx hn w Pr .b
theorem toList_data (l:List UInt8):(⟨⟨l⟩⟩:ByteArray).toList=l:=by rw[ByteArray.toList_eq]
def Scal (q:SV)(v:Value):Prop:=noSl q.1=true->∀(w:World) (Q:Nat->Prop),zx w Q v q.1 .b q.2 []
theorem qdk (h:StB w0 Pr0 M E V w Pr B){d:Opd}{v:Value}(ho:jv w Pr E V d v){q:SV}(hr:rd E d.s=some q):Scal q v:=
 λhn w' Q=>zkg h ho (t:=q.1) (x:=q.2) hr hn w' Q .b
theorem qbo {k:IntKind}{n:Int}{v:Value}(h:Scal ⟨.int k,n⟩ v):v=.int k n:=by
 obtain⟨cs,h1,h2⟩:=h rfl default (λ_=>False);rw[h1,h2.1];rfl
theorem z9m {b:Bool}{v:Value}(h:Scal ⟨.bool,b⟩ v):v=.bool b:=by
 obtain⟨cs,h1,h2⟩:=h rfl default (λ_=>False);rw[h1,h2.1];rfl
theorem qbp {s:List UInt8}{v:Value}(h:Scal ⟨.str,s⟩ v):v=strV s:=by
 obtain⟨cs,h1,h2⟩:=h rfl default (λ_=>False);rw[h1,h2.1];rfl
def zch (s:Slot)(v:Value):Prop:=∃t x,s=sv t x/\∀(w:World) (Q:Nat->Prop),zx w Q v t .b x []
theorem zch.int (k:IntKind)(n:Int):zch (sv (.int k) n) (.int k n):=⟨.int k,n,rfl,λw Q=>q2e w Q k n⟩
theorem zch.bool (b:Bool):zch (sv .bool b) (.bool b):=⟨.bool,b,rfl,λw Q=>qzt w Q b⟩
theorem zch.str (s:List UInt8):zch (sv .str s) (strV s):=⟨.str,s,rfl,λw Q=>q2f w Q s⟩
theorem zch.slot {s:Slot}{v:Value}(h:zch s v){N:Nat}(hB:B N=[]):jd w Pr E V B N s v:=by
 obtain⟨t,x,rfl,h⟩:=h;exact zpu hB (h w Pr)
section
variable {R : Type} {K : Slot → Option R} {r : R}
theorem q2h {op:BinOp}{k:IntKind}{x y:Int}(h:zit op k x y K=some r):
 ∃s v,K s=some r/\zch s v/\∀(t:TypeId),op≠.shl->op≠.shr->(binOp op t (.int k x) (.int k y)).run P w=.ok v w:=by
 cases op<;>simp only[zit] at h
 all_goals try (cases h;done)
 case quo=>
  cases hy:(y==0) with
  |true=>rw[hy] at h;cases h
  |false=>
   rw[hy] at h;have hy':y≠0:=by simpa using hy
   exact⟨_,_,h,.int _ _,λ_ _ _=>by simp[binOp,Op.intDiv,hy']⟩
 case rem=>
  cases hy:(y==0) with
  |true=>rw[hy] at h;cases h
  |false=>
   rw[hy] at h;have hy':y≠0:=by simpa using hy
   exact⟨_,_,h,.int _ _,λ_ _ _=>by simp[binOp,Op.intDiv,hy']⟩
 case and=>exact⟨_,_,h,.int _ _,λ_ _ _=>by simp only[binOp,ne_eq,not_true_eq_false,if_false,Op.intBits];rfl⟩
 all_goals first
  |exact⟨_,_,h,.int _ _,λ_ _ _=>by simp[binOp,Op.intArith]⟩
  |exact⟨_,_,h,.bool _,λ_ _ _=>by simp[binOp,Op.intCmp]⟩
theorem q2i {op:BinOp}{x y:List UInt8}(h:ziu op x y K=some r):
 ∃s v,K s=some r/\zch s v/\∀(t:TypeId),(binOp op t (strV x) (strV y)).run P w=.ok v w:=by
 cases op<;>simp only[ziu] at h
 all_goals try (cases h;done)
 case add=>
  cases hy:decide (x.length+y.length<=1099511627776) with
  |false=>rw[hy] at h;cases h
  |true=>
   rw[hy] at h;have hy':x.length+y.length<=1099511627776:=of_decide_eq_true hy;refine⟨_,_,h,.str _,λt=> ?_⟩;have e1:(ByteArray.mk ⟨x⟩).size=x.length:=rfl;have e2:(ByteArray.mk ⟨y⟩).size=y.length:=rfl;have e3:¬(((x.length+y.length:Nat):Int)>IntKind.i64.max):=by simp only[IntKind.max_i64];omega
   simp only[binOp,strV,Op.stringOp,e1,e2,yw0 e3]
   have e4:((⟨⟨x⟩⟩:ByteArray)++⟨⟨y⟩⟩)=⟨⟨x++y⟩⟩:=by
    apply ByteArray.ext;rw[ByteArray.data_append];simp
   rw[e4];rfl
 all_goals exact⟨_,_,h,.bool _,λt=>by simp[binOp,strV,Op.stringOp]⟩
theorem run_equal_bool {t:TypeId}(hd:P.underlying t=some .bool)(x y:Bool):(Op.equal t (.bool x) (.bool y)).run P w=.ok (x==y) w:=by
 have key:∀d,(Op.equalIn (d+1) t (.bool x) (.bool y)).run P w=.ok (x==y) w:=λd=>by
  simp only[Op.equalIn,Sem.run_bind,run_underlying hd,Result.andThen_ok];rfl
 have e:Op.maxDepth=9999+1:=rfl;unfold Op.equal;rw[e];exact key 9999
theorem q6y {cx:Cx}(htab:ji P cx.tab){t:TypeId}{op:BinOp}{p q:SV}{vp vq:Value}(hp:Scal p vp)(hq:Scal q vq)
 (h:binK (match lookup cx.tab t with|some .bool=>true|_=>false) op p q K=some r):
 ∃s v,K s=some r/\zch s v/\∀(x y:Operand),(eqGuard op t x y vp vq).run P w=.ok () w/\(binOp op t vp vq).run P w=.ok v w:=by
 obtain⟨tp,xp⟩:=p;obtain⟨tq,xq⟩:=q;cases tp with
 |int k=>
  cases tq with
  |int k'=>
   rw[qbo hp,qbo hq];have g:∀x y:Operand,(eqGuard op t x y (.int k xp) (.int k' xq)).run P w=.ok () w:=λx y=>by rw[eqGuard_at_int];rfl
   by_cases h1:op=.shl
   ·subst h1
    simp only[binK] at h;cases hy:decide (0<=xq) with
    |false=>rw[hy] at h;cases h
    |true=>
     rw[hy] at h;have hy':¬(show Int from xq)<0:=Int.not_lt.2 (of_decide_eq_true hy);exact⟨_,_,h,.int _ _,λx y=>⟨g x y,by simp[binOp,Op.shift,hy']⟩⟩
   ·by_cases h2:op=.shr
    ·subst h2
     simp only[binK] at h;cases hy:decide (0<=xq) with
     |false=>rw[hy] at h;cases h
     |true=>
      rw[hy] at h;have hy':¬(show Int from xq)<0:=Int.not_lt.2 (of_decide_eq_true hy);exact⟨_,_,h,.int _ _,λx y=>⟨g x y,by simp[binOp,Op.shift,hy']⟩⟩
    ·have h':(bif k==k' then zit op k xp xq K else none)=some r:=by
      cases op<;>first|exact h|exact absurd rfl h1|exact absurd rfl h2
     cases hk:(k==k') with
     |false=>rw[hk] at h';cases h'
     |true=>
      rw[hk] at h';obtain rfl:=yy0.1 hk;obtain⟨s,v,q1,q2,q3⟩:=q2h (P:=P) (w:=w) h';exact⟨s,v,q1,q2,λx y=>⟨g x y,q3 t h1 h2⟩⟩
  |_=>cases op<;>simp[binK] at h
 |str=>
  cases tq with
  |str=>
   rw[qbp hp,qbp hq];obtain⟨s,v,q1,q2,q3⟩:=q2i (P:=P) (w:=w) (show ziu op xp xq K=some r from h);exact⟨s,v,q1,q2,λx y=>⟨by rw[strV,eqGuard_at_string];rfl,q3 t⟩⟩
  |_=>cases op<;>simp[binK] at h
 |bool=>
  cases tq with
  |bool=>
   rw[z9m hp,z9m hq];have g:∀x y:Operand,(eqGuard op t x y (.bool xp) (.bool xq)).run P w=.ok () w:=λx y=>by rw[eqGuard_at_bool];rfl
   simp only[binK] at h;split at h
   ·rename_i hl
    obtain⟨d,hd,hfit⟩:=(jr htab hl).und;have hd':d=.bool:=by cases d<;>first|rfl|(simp[fits,Ty.agg] at hfit;done)
    subst hd';simp only[yb0] at h;cases op<;>simp only[] at h<;>try (cases h;done)
    ·exact⟨_,_,h,.bool _,λx y=>⟨g x y,by simp only[binOp,Sem.run_bind,run_equal_bool hd,Result.andThen_ok];rfl⟩⟩
    ·exact⟨_,_,h,.bool _,λx y=>⟨g x y,by simp only[binOp,Sem.run_bind,run_equal_bool hd,Result.andThen_ok];rfl⟩⟩
   ·simp at h
  |_=>cases op<;>simp[binK] at h
 |_=>cases tq<;>cases op<;>simp[binK] at h
end
theorem q2j (h:StB w0 Pr0 M E V w Pr B)(hN:∀k,E.length<=k->B k=[]){s:Slot}{v:Value}(hs:zch s v):Hand w0 Pr0 M E V w s v:=
 za5 h hN λ_ hB=>hs.slot hB
theorem zcf {o:Oper}(h:StB w0 Pr0 M E V w Pr B)(hN:∀k,E.length<=k->B k=[]){s:Slot}{v:Value}(hs:zch s v)
 (hr:(execOp a.eval o).run P w=.ok (.value v) w):jk w0 Pr0 M P E V w a o (s,[]):=
 ⟨.value v,w,v,hr,.inl rfl,rfl,q2j h hN hs⟩
end
end Go.Dn
end

section
/- Operations, second part: variables, loads, stores, places. -/
namespace Go.Dn
section
variable {w0 : World} {Pr0 M : Nat → Prop}
variable {P : Program} {cx : Cx} {E : Env} {V : List Value} {w w' : World} {Pr : Nat → Prop} {B : Nat → List Nat} {off : Nat} {a : Act}
def upd (B:Nat->List Nat)(N:Nat)(bs:List Nat):Nat->List Nat:=λj=>if j=N then bs else B j
theorem zi0 {N:Nat}{bs:List Nat}:upd B N bs N=bs:=by simp[upd]
theorem upd_ne {N j:Nat}{bs:List Nat}(h:j≠N):upd B N bs j=B j:=by simp[upd,h]
theorem StB.fresh (h:StB w0 Pr0 M E V w Pr B){N:Nat}(hN:E.length<=N){bs:List Nat}(hbs:∀b∈bs,(b∈B N\/w.heap.size<=b)/\b<w'.heap.size)(hnd:bs.Nodup)
 (hw:∀b,b<w.heap.size->b∉B N->w'.heap[b]? =w.heap[b]?)
 (hos:w'.os=w.os)(htape:w'.tape=w.tape)(hout:w'.output=w.output)(hsz:w.heap.size<=w'.heap.size):StB w0 Pr0 M E V w' Pr (upd B N bs):=
 h.pool (λj=>j=N) h.len rfl (λk hk=>⟨rfl,rfl,upd_ne hk⟩)
  (λk e v hk he _=>by have:=(yf2.1 he).1;omega)
  (λk hk b hb=>by subst hk;rw[zi0] at hb;exact⟨(hbs b hb).1.imp (λm=>⟨k,rfl,m⟩) id,(hbs b hb).2⟩)
  (λ_ h=>h) (λ_ h=>.inl h) (λk hk=>by subst hk;rw[zi0];exact hnd) (λi j hi hj hne=>absurd (hi.trans hj.symm) hne)
  (λb hb hk=>hw b hb (hk N rfl)) hos htape hout hsz
theorem q2k (w:World)(cs:List Value)(tid:TypeId):zaj (w.alloc (.cells cs.toArray tid)) w.heap.size 0 cs:=
 ⟨cs.toArray,tid,zz8 w _,λi u hu=>by simpa using hu⟩
theorem qbq (h:StB w0 Pr0 M E V w Pr B){N:Nat}(hN:E.length<=N){t:Ty}{o:Ow}{cs:List Value}{x:PV t}(hr:Rep w Pr t o cs x (B N))(tid:TypeId):
 StB w0 Pr0 M E V (w.alloc (.cells cs.toArray tid)) Pr (upd B N (w.heap.size::B N))/\
  vg (w.alloc (.cells cs.toArray tid)) Pr (.pointer (some ⟨w.heap.size,0,none⟩)) t o x (w.heap.size::B N):=by
 have hlt:∀b∈B N,b<w.heap.size:=λb hb=>(h.free _ _ hb).2.2;refine⟨h.fresh hN (λb hb=> ?_) (List.nodup_cons.2 ⟨λm=>Nat.lt_irrefl _ (hlt _ m),h.nodup N⟩) (λb hb _=>zje w _ b hb) rfl rfl rfl (by show _<=(w.heap.push _).size;simp),?_⟩
 ·have hs:(w.alloc (.cells cs.toArray tid)).heap.size=w.heap.size+1:=by show(w.heap.push _).size=_;simp
  rcases yg1.1 hb with rfl|hb
  ·exact⟨.inr (ym0 _),by omega⟩
  ·exact⟨.inl hb,by have:=hlt b hb;omega⟩
 ·refine⟨w.heap.size,cs,B N,rfl,q2k w cs tid,hr.agree (λ_ h=>h) (λb hb=>zje w _ b ?_),yh1 _⟩
  exact hb.elim (h.prlt b) (hlt b)
theorem qzu (htab:ji P cx.tab){o:Oper}{tid:TypeId}{t:Ty}(hop:o.op=.alloc tid)(h:StB w0 Pr0 M E V w Pr B)(hN:∀k,E.length<=k->B k=[])(hl:lookup cx.tab tid=some t):
 jk w0 Pr0 M P E V w a o (.var t (top t) (dflt t),[]):=by
 obtain⟨i,z,h1,h2,h3,h4,h5⟩:=(jr htab hl).info;obtain⟨c,hc,hr⟩:=zgj (w:=w) (Pr:=Pr) h4;simp only[yz0] at hc;have hB:=hN E.length (ym0 _);have hv:=qbq h (ym0 E.length) (cs:=c) (by rw[hB];exact hr) tid;rw[hB] at hv;refine⟨.value _,w.alloc (.cells z.cells tid),.pointer (some ⟨w.heap.size,0,none⟩),?_,.inl rfl,rfl,Pr,upd B E.length [w.heap.size],?_,?_,?_⟩
 ·simp[execOp,hop,Instr.alloc,Go.zeroValue,typeInfo,program,Sem.run,h1,h3,z7k]
 ·have:z.cells=c.toArray:=by rw[<-hc]
  rw[this];exact hv.1
 ·have:z.cells=c.toArray:=by rw[<-hc]
  rw[this];show vg _ _ _ _ _ _ _;simp only[appU];rw[zi0];exact hv.2
 ·intro k hk
  simp only[appU] at hk;rw[upd_ne (by omega)];exact hN k (by omega)
theorem q4w {o:Oper}{tid:TypeId}{x:Operand}(hop:o.op=.box tid x)(h:StB w0 Pr0 M E V w Pr B)(hN:∀k,E.length<=k->B k=[])(hf:Fr off V a)
 {tv:TV}{us:List U}(ht:take E (opdT cx E off tid x)=some (tv,us)):jk w0 Pr0 M P E V w a o (.var tv.t tv.o tv.x,us):=by
 obtain⟨B1,g1,⟨cs,g2,g3⟩,g4,g5⟩:=zd4 h (N:=E.length) (ym0 _) (hN _ (ym0 _)) (zb1 h hf tid x) ht;have hv:=qbq g1 (N:=E.length) (by rw[g5];exact ym0 _) g3 tid;refine⟨.value _,w.alloc (.cells cs.toArray tid),.pointer (some ⟨w.heap.size,0,none⟩),?_,.inl rfl,g5,Pr,upd B1 E.length (w.heap.size::B1 E.length),hv.1,?_,?_⟩
 ·have:(a.eval x).cells=cs.toArray:=by rw[g2];exact pack_cells g3
  simp[execOp,hop,Instr.box,z7k,this]
 ·show vg _ _ _ _ _ _ _
  rw[g5,zi0];exact hv.2
 ·intro k hk
  rw[g5] at hk;rw[upd_ne (by omega),g4 k (by omega) (by omega)];exact hN k (by omega)
theorem zik (h:StB w0 Pr0 M E V w Pr B){d:Opd}{v:Value}(ho:jv w Pr E V d v){al:Al}(hp:place E d=some al):
 zbb w E V al v/\al.okA E=true:=by
 unfold place at hp;split at hp
 ·rename_i t o x k hs hix
  obtain rfl:=yl0 hp;unfold jv at ho;rw[hix] at ho;rcases ho with h0|⟨e,h1,h2,h3⟩
  ·rw[hs] at h0;cases h0
  ·refine⟨⟨e,v,⟨h1,?_,?_⟩,h2,λhi=>⟨λ_=>rfl,λhp=>absurd rfl hp⟩⟩,?_⟩
   ·simp only[jq h1];exact ym0 _
   ·simp only[jq h1];intro _;exact ym0 _
   ·simp[Al.okA]
 ·rename_i t o x p k hs hix
  obtain rfl:=yl0 hp;unfold jv at ho;rw[hix] at ho;rcases ho with h0|⟨e,h1,h2,h3⟩
  ·rw[hs] at h0;cases h0
  ·refine⟨⟨e,v,⟨h1,?_,?_⟩,h2,λhi=>⟨λ_=>rfl,λhp=>absurd rfl hp⟩⟩,?_⟩
   ·simp only[jq h1];exact ym0 _
   ·simp only[jq h1];intro _;exact ym0 _
   ·simp[Al.okA]
 ·rename_i x1 al' hs
  cases hok:al'.okA E with
  |false=>rw[hok] at hp;simp at hp
  |true=>
   rw[hok] at hp;simp only[yb0,yn0] at hp;subst hp;refine⟨?_,hok⟩;cases hix:d.ix with
   |none=>unfold jv at ho;rw[hix,hs] at ho;exact ho.elim
   |some k=>have:=zcy h ho hix;rw[hs] at this;exact this
 ·cases hp
theorem zpv (h:StB w0 Pr0 M E V w Pr B){al:Al}{v:Value}(ha:zbb w E V al v)(hok:al.okA E=true){iV:Bool}{t:Ty}{o:Ow}{x:PV t}
 (hs:(E.at al.j).s=if iV then .var t o x else .val t o x)(hp:iV=true\/al.p≠[]):
 ∃vj loc,V[al.j]? =some vj/\E[al.j]? =some (E.at al.j)/\zc0 w Pr iV vj t o x (B al.j)/\qw al.p t o x/\ze7 w Pr iV vj t o x (B al.j) al.p/\
  jl w iV t vj al.p=some loc/\v=ptr loc:=by
 obtain⟨e,vj,hl,hv,hk⟩:=ha;have he:=jq hl.1;rw[he] at hs;simp only[Al.okA,he,yh0,yy0,yq1] at hok;have hR:=zv8 (h.slots al.j e vj hl.1 hv) hs;have hdj:∀k,Pr k->k∉B al.j:=λk hk m=>(h.free _ _ m).2.1 hk;obtain⟨k1,k2⟩:=hk hok.1;by_cases hnil:al.p=[]
 ·have hiV:iV=true:=hp.resolve_right (λq=>q hnil)
  subst hiV;have hv2:vg w Pr vj t o x (B al.j):=hR;obtain⟨b,cs,bs0,q1,q2,q3,q4⟩:=hv2;have hpath:qw al.p t o x:=by rw[hnil];trivial
  refine⟨vj,(b,0),hv,by rw[he];exact hl.1,hR,hpath,zh7 hR (h.nodup _) hdj hpath (.inl rfl),?_,?_⟩
  ·rw[hnil,q1];rfl
  ·rw[k1 hnil,q1];rfl
 ·have hcv:e.cv=al.cv:=by
   rcases hok.2 with hc|hn
   ·exact hc
   ·cases hap:al.p with
    |nil=>exact absurd hap hnil
    |cons _ _=>rw[hap] at hn;simp[isNil] at hn
  have hA:=k2 hnil hcv;rw[hs] at hA;cases iV with
  |true=>
   obtain⟨p1,loc,p2,p3⟩:=hA;exact⟨vj,loc,hv,by rw[he];exact hl.1,hR,p1,zh7 hR (h.nodup _) hdj p1 (.inl rfl),p2,p3⟩
  |false=>
   obtain⟨p1,loc,p2,p3⟩:=hA;exact⟨vj,loc,hv,by rw[he];exact hl.1,hR,p1,zh7 hR (h.nodup _) hdj p1 (.inr (by rw[p2];rfl)),p2,p3⟩
theorem q2l (htab:ji P cx.tab){o:Oper}{tid:TypeId}{x:Operand}{al:Al}{iV:Bool}{t':Ty}{ow:Ow}{z:PV t'}(hop:o.op=.load tid x)(h:StB w0 Pr0 M E V w Pr B)
 (hN:∀k,E.length<=k->B k=[])(hf:Fr off V a)(hl:lookup cx.tab tid=some (getT al.p t'))(hp:place E (opd E off x)=some al)
 (hs:(E.at al.j).s=if iV then .var t' ow z else .val t' ow z)(hnn:iV=true\/al.p≠[]):
 jk w0 Pr0 M P E V w a o (bif owns (getT al.p t') (getO al.p ow) then .sub ⟨al.j,al.p,al.iv,(E.at al.j).cv⟩ else .val (getT al.p t') .b (get al.p t' z),[]):=by
 obtain⟨hA,hok⟩:=zik h (qx h hf x) hp;obtain⟨vj,loc,q1,q2,q3,q4,q5,q6,q7⟩:=zpv h hA hok hs hnn;obtain⟨b',off',cs',bs',bsR,f1,f2,f3,f4,f5,fL,f6⟩:=q5;rw[q6] at f1;obtain rfl:=yl0 f1;have hval:pack (getT al.p t') cs'=pack (getT al.p t') (zbf w b' off' (getT al.p t').size):=by rw[<-f3.length,f2.read]
 refine⟨.value (pack (getT al.p t') cs'),w,_,?_,.inl rfl,rfl,za5 h hN λN hB=> ?_⟩
 ·have:=zt6 (P:=P) (jr htab hl) (Cells.zvf f2) f3.length
  simp[execOp,hop,q7,ptr,this]
 ·cases hown:owns (getT al.p t') (getO al.p ow) with
  |false=>
   simp only[yd0];show zx w Pr _ _ .b _ (B N);rw[hB];exact zx.zax hown ⟨cs',rfl,f3⟩
  |true=>
   simp only[yb0];have hiv:(E.at al.j).iv=al.iv:=by simp only[Al.okA,yh0,yy0] at hok;exact hok.1
   refine⟨E.at al.j,vj,⟨q2,by rw[hiv];exact ym0 _,λ_=>ym0 _⟩,q1,λ_=>⟨λhpn hofv=> ?_,λ_ _=> ?_⟩⟩
   ·exfalso
    cases iV with
    |true=>rw[hs] at hofv;simp[Slot.zay] at hofv
    |false=>exact hnn.elim (λq=>by cases q) (λq=>q hpn)
   ·rw[hs]
    cases iV with
    |true=>exact⟨q4,(b',off'),q6,hval⟩
    |false=>exact⟨q4,(b',off'),q6,hval⟩
end
end Go.Dn
end

section
/- Operations, third part: stores. -/
namespace Go.Dn
theorem zoz:∀{p q:List PE},zbz p q=true->p=q
 |[],[],_=>rfl
 | .l::p,.l::q,h=>by rw[zoz (p:=p) (q:=q) h]
 | .r::p,.r::q,h=>by rw[zoz (p:=p) (q:=q) h]
 | .ix n::p,.ix m::q,h=>by
   simp only[zbz,yh0,yy0] at h;rw[h.1,zoz h.2]
 |[],_::_,h| .l::_,[],h| .r::_,[],h| .ix _::_,[],h=>by simp[zbz] at h
 | .l::_,.r::_,h| .l::_,.ix _::_,h| .r::_,.l::_,h| .r::_,.ix _::_,h| .ix _::_,.l::_,h| .ix _::_,.r::_,h=>by simp[zbz] at h
theorem zpf:∀{p:List PE} {t:Ty} {o:Ow} {x:PV t},qw p t o x->zdl p o (getO p o) o
 |[],_,_,_,_=>rfl
 | .l::p,.pair a _,o,x,h=>⟨zpf (p:=p) (t:=a) (x:=x.1) h,rfl⟩
 | .r::p,.pair _ b,o,x,h=>⟨rfl,zpf (p:=p) (t:=b) (x:=x.2) h⟩
 | .ix n::p,.slice _ t,.row oe,xs,h=>⟨oe,rfl,rfl,zpf (p:=p) (t:=t) h.2⟩
 | .l::_,.int _,_,_,h| .l::_,.bool,_,_,h| .l::_,.str,_,_,h| .l::_,.unit,_,_,h| .l::_,.slice _ _,_,_,h=>by simp[qw] at h
 | .r::_,.int _,_,_,h| .r::_,.bool,_,_,h| .r::_,.str,_,_,h| .r::_,.unit,_,_,h| .r::_,.slice _ _,_,_,h=>by simp[qw] at h
 | .ix _::_,.int _,_,_,h| .ix _::_,.bool,_,_,h| .ix _::_,.str,_,_,h| .ix _::_,.unit,_,_,h| .ix _::_,.pair _ _,_,_,h
 | .ix _::_,.slice _ _,.b,_,h| .ix _::_,.slice _ _,.pr _ _,_,h=>by simp[qw] at h
theorem zvh:∀{p:List PE} {o o2:Ow},zk2 p=false->zdl p o o2 (setO p o o2)
 |[],_,_,_=>rfl
 | .l::p,o,o2,h=>⟨zvh (p:=p) h,rfl⟩
 | .r::p,o,o2,h=>⟨rfl,zvh (p:=p) h⟩
 | .ix _::_,_,_,h=>by simp[zk2] at h
theorem qdl {p:List PE}{t0 t:Ty}{o o2 o2' o3:Ow}{x:PV t0}(hp:qw p t0 o x)(h:fitO p o t o2=some (o2',o3)):zdl p o o2' o3/\weaken t o2 o2'=true:=by
 unfold fitO at h;cases hi:zk2 p with
 |false=>
  rw[hi] at h;simp only[yd0,yn0,ya1] at h;obtain⟨rfl,rfl⟩:=h;refine⟨zvh hi,?_⟩
  have:∀(t:Ty) (o:Ow),weaken t o o=true:=by
   intro t
   induction t with
   |pair a b iha ihb=>intro o;simp[weaken,iha,ihb]
   |slice e t ih=>intro o;cases o<;>simp[weaken,ih]
   |_=>intro o;rfl
  exact this _ _
 |true=>
  rw[hi] at h;simp only[yb0] at h;cases hw:weaken t o2 (getO p o) with
  |false=>rw[hw] at h;cases h
  |true=>
   rw[hw] at h;simp only[yb0,yn0,ya1] at h;obtain⟨rfl,rfl⟩:=h;exact⟨zpf hp,hw⟩
section
variable {w0 : World} {Pr0 M : Nat → Prop}
variable {P : Program} {cx : Cx} {E : Env} {V : List Value} {w w' : World} {Pr : Nat → Prop} {B : Nat → List Nat} {off : Nat} {a : Act}
def zfk (iV:Bool)(t:Ty)(o:Ow)(x:PV t):Slot:=match iV with|true=>.var t o x|false=>.val t o x
def Fill (w:World)(Pr:Nat->Prop)(v:Value)(iV:Bool)(vj:Value)(t:Ty)(o:Ow)(x:PV t)(p:List PE)(bs:List Nat):Prop:=
 ∃b' off' cs' bs' bsR,v=.pointer (some ⟨b',off',none⟩)/\zaj w b' off' cs'/\cs'.length=(getT p t).size/\b'∈bsR/\bs.Perm (bs'++bsR)/\qw p t o x/\
  ∀(w2:World) (Pr2:Nat->Prop) (o2 o3:Ow) (cs2:List Value) (y:PV (getT p t)) (bs2:List Nat),(∀k,Pr k->Pr2 k)->
   (∀k,(Pr k\/k∈bsR)->k≠b'->w2.heap[k]? =w.heap[k]?)->Upd w w2 b' off' cs2->Rep w2 Pr2 (getT p t) o2 cs2 y bs2->zdl p o o2 o3->
   zc0 w2 Pr2 iV vj t o3 (set p t x y) (bs2++bsR)
theorem z9n (h:StB w0 Pr0 M E V w Pr B){al:Al}{v:Value}(ha:zbb w E V al v)(hok:al.okA E=true){iV:Bool}{t:Ty}{o:Ow}{x:PV t}
 (hs:(E.at al.j).s=if iV then .var t o x else .val t o x)(hp:iV=true\/al.p≠[]):
 ∃vj,V[al.j]? =some vj/\E[al.j]? =some (E.at al.j)/\Fill w Pr v iV vj t o x al.p (B al.j):=by
 obtain⟨vj,loc,q1,q2,q3,q4,q5,q6,q7⟩:=zpv h ha hok hs hp;obtain⟨b',off',cs',bs',bsR,f1,f2,f3,f4,f5,fL,f6⟩:=q5;rw[q6] at f1;obtain rfl:=yl0 f1;exact⟨vj,q1,q2,b',off',cs',bs',bsR,q7,f2,f3.length,f5,f4,q4,f6⟩
theorem q2m (h:StB w0 Pr0 M E V w Pr B){al:Al}{v:Value}(ha:zbb w E V al v)(hok:al.okA E=true){iV:Bool}{t:Ty}{o:Ow}{x:PV t}
 (hs:(E.at al.j).s=.hole iV t o x al.p):
 ∃vj,V[al.j]? =some vj/\E[al.j]? =some (E.at al.j)/\Fill w Pr v iV vj t o x al.p (B al.j):=by
 obtain⟨e,vj,hl,hv,hk⟩:=ha;have he:=jq hl.1;rw[he] at hs;simp only[Al.okA,he,yh0,yy0,yq1] at hok;have hso:=h.slots al.j e vj hl.1 hv;rw[hs] at hso;obtain⟨b',off',cs',h1,h2,h3,h4,h5,h6,h7,-⟩:=hso;obtain⟨k1,k2⟩:=hk hok.1;refine⟨vj,hv,by rw[he];exact hl.1,b',off',cs',[],B al.j,?_,h2,h3,h4,by simp,h5,h7⟩;by_cases hnil:al.p=[]
 ·rw[k1 hnil]
  rw[hnil] at h1;cases iV with
  |false=>cases vj<;>simp[jl] at h1;rename_i A _ _;cases A<;>simp at h1
  |true=>
   cases vj<;>simp only[jl] at h1<;>try (cases h1;done)
   rename_i A;cases A with
   |none=>cases h1
   |some A=>
    obtain⟨b,n,sp⟩:=A;cases n<;>cases sp<;>simp only[locate,yn0,ya1] at h1<;>try (cases h1;done)
    obtain⟨rfl,rfl⟩:=h1;rfl
 ·have hcv:e.cv=al.cv:=by
   rcases hok.2 with hc|hn
   ·exact hc
   ·cases hap:al.p with
    |nil=>exact absurd hap hnil
    |cons _ _=>rw[hap] at hn;simp[isNil] at hn
  have hA:=k2 hnil hcv;rw[hs] at hA;obtain⟨loc,q1,q2⟩:=hA.1 [] (by simp) rfl;rw[h1] at q1;obtain rfl:=yl0 q1;exact q2
theorem ze3:∀(us us':List U) (E:Env),appU E (us++us')=appU (appU E us) us'
 |[],_,_=>rfl
 |u::us,us',E=>ze3 us us' (u.app E)
theorem StB.fill (htab:ji P cx.tab){tid:TypeId}(h:StB w0 Pr0 M E V w Pr B){N j:Nat}(hN:E.length<=N){v vy vj:Value}{iV:Bool}{t:Ty}{o:Ow}{x:PV t}{p:List PE}
 {o1 o2 o3:Ow}{y:PV (getT p t)}(hl:lookup cx.tab tid=some (getT p t))(he:E[j]? =some (E.at j))(hv:V[j]? =some vj)(hofv:(zfk iV t o3 (set p t x y)).zay=(E.at j).s.zay)
 (hf:Fill w Pr v iV vj t o x p (B j))(hy:zx w Pr vy (getT p t) o1 y (B N))(hfit:fitO p o (getT p t) o1=some (o2,o3)):
 ∃B2 w2 Pr2,(Instr.storeAt tid v vy).run P w=.ok () w2/\
  StB w0 Pr0 M (U.app E (.cont j (zfk iV t o3 (set p t x y)))) V w2 Pr2 B2/\∀k,E.length<=k->B2 k=if k=N then[] else B k:=by
 obtain⟨b',off',cs',bs',bsR,rfl,f2,f3,f4,f5,f6,f7⟩:=hf;obtain⟨new,rfl,hr⟩:=hy;obtain⟨hset,hwk⟩:=qdl f6 hfit;obtain⟨b1,b2,e1,hr1⟩:=hr.weaken hwk;obtain⟨w2,g1,g2,g3,g4,g5,g6,g7⟩:=qww (P:=P) (jr htab hl) f2 f3 (pack_cells hr) hr.length hr.one;have hj:=(yf2.1 he).1;have hjN:j≠N:=by omega
 have mR:∀k,k∈bsR->k∈B j:=λk hk=>f5.mem_iff.2 (yq0 _ hk);have m1:∀k,k∈b1->k∈B N:=λk hk=>e1.mem_iff.2 (yv0 _ hk);have m2:∀k,k∈b2->k∈B N:=λk hk=>e1.mem_iff.2 (yq0 _ hk);have hnb:∀k,k∈B N->k≠b':=λk hk e=>h.disj N j (Ne.symm hjN) k hk (e▸mR _ f4);have hnp:∀k,Pr k->k≠b':=λk hk e=>(h.free _ _ (mR _ f4)).2.1 (e▸hk)
 have hr2:Rep w2 (λk=>Pr k\/k∈b2) (getT p t) o2 new y b1:=hr1.agree (λ_ h=>h) (λk hk=>g3 k (by
  rcases hk with(hk|hk)|hk
  ·exact hnp k hk
  ·exact hnb k (m2 k hk)
  ·exact hnb k (m1 k hk)))
 have hroot:=f7 w2 (λk=>Pr k\/k∈b2) o2 o3 new y b1 (λ_ h=>.inl h) (λk hk hne=>g3 k hne) g2 hr2 hset;refine⟨λk=>if k=j then b1++bsR else if k=N then[] else B k,w2,λk=>Pr k\/k∈b2,g1,?_,λk hk=> ?_⟩
 ·have hn5:=f5.nodup_iff.1 (h.nodup j)
  have hn1:=e1.nodup_iff.1 (h.nodup N)
  refine h.pool (λk=>k=j\/k=N) (by simp[U.app,h.len]) (by simp[U.app]) (λk hk=> ?_) (λk e v hk he' hv'=> ?_) (λk hk b hb=> ?_) (λ_ h=>.inl h) (λb hb=> ?_)
   (λk hk=> ?_) (λi k hi hk hne b hb hbk=> ?_) (λb _ hb=> ?_) g4 g5 g6 (by omega)
  ·have h1:k≠j:=λe=>hk (.inl e)
   have h2:k≠N:=λe=>hk (.inr e);exact⟨yj2 (Ne.symm h1),rfl,by simp[h1,h2]⟩
  ·rcases hk with rfl|rfl
   ·rw[hv] at hv'
    rw[he] at he';obtain rfl:=yl0 hv';obtain rfl:=yl0 he';refine⟨_,_,yi2 hj,hv,?_,.inr (.inl ⟨rfl,rfl,Nat.lt_succ_self _,hofv⟩)⟩;show jd w2 _ _ _ _ k (zfk iV t o3 (set p t x y)) _;cases iV with
    |true=>show vg _ _ _ _ _ _ _;simp only[if_true];exact hroot
    |false=>show zx _ _ _ _ _ _ _;simp only[if_true];exact hroot
   ·have:=(yf2.1 he').1;omega
  ·rcases hk with rfl|rfl
   ·simp only[if_true] at hb
    rcases yu0.1 hb with hb|hb
    ·exact⟨.inl ⟨N,.inr rfl,m1 b hb⟩,by rw[g7];exact(h.free _ _ (m1 b hb)).2.2⟩
    ·exact⟨.inl ⟨k,.inl rfl,mR b hb⟩,by rw[g7];exact(h.free _ _ (mR b hb)).2.2⟩
   ·simp[Ne.symm hjN] at hb
  ·rcases hb with hb|hb
   ·exact .inl hb
   ·refine .inr ⟨.inl ⟨N,.inr rfl,m2 b hb⟩,by rw[g7];exact(h.free _ _ (m2 b hb)).2.2,λk hk=> ?_⟩
    rcases hk with rfl|rfl
    ·simp only[if_true]
     intro hm;rcases yu0.1 hm with hm|hm
     ·exact zcu hn1 hm hb
     ·exact h.disj N k (Ne.symm hjN) b (m2 b hb) (mR b hm)
    ·simp[Ne.symm hjN]
  ·rcases hk with rfl|rfl
   ·simp only[if_true]
    refine yf1.2 ⟨(yf1.1 hn1).1,(yf1.1 hn5).2.1,λx hx y hy e=> ?_⟩;exact h.disj N k (Ne.symm hjN) x (m1 x hx) (e▸mR y hy)
   ·simp[Ne.symm hjN]
  ·rcases hi with rfl|rfl<;>rcases hk with rfl|rfl
   ·exact hne rfl
   ·simp[Ne.symm hjN] at hbk
   ·simp[Ne.symm hjN] at hb
   ·exact hne rfl
  ·exact g3 b (λe=>hb j (.inl rfl) (e▸mR _ f4))
 ·have:k≠j:=by omega
  simp[this]
end
end Go.Dn
end

section
/- Operations, fourth part: places of fields and elements. -/
namespace Go.Dn
theorem zlp:∀{p q:List PE} {t:Ty} {o:Ow} {x:PV t},qw p t o x->qw q (getT p t) (getO p o) (get p t x)->qw (p++q) t o x
 |[],_,_,_,_,_,h=>h
 | .l::p,q,.pair a _,o,x,h,h'=>zlp (p:=p) (t:=a) (x:=x.1) h h'
 | .r::p,q,.pair _ b,o,x,h,h'=>zlp (p:=p) (t:=b) (x:=x.2) h h'
 | .ix n::p,q,.slice _ t,.row oe,xs,h,h'=>⟨h.1,zlp (p:=p) (t:=t) h.2 h'⟩
 | .l::_,_,.int _,_,_,h,_| .l::_,_,.bool,_,_,h,_| .l::_,_,.str,_,_,h,_| .l::_,_,.unit,_,_,h,_| .l::_,_,.slice _ _,_,_,h,_=>by simp[qw] at h
 | .r::_,_,.int _,_,_,h,_| .r::_,_,.bool,_,_,h,_| .r::_,_,.str,_,_,h,_| .r::_,_,.unit,_,_,h,_| .r::_,_,.slice _ _,_,_,h,_=>by simp[qw] at h
 | .ix _::_,_,.int _,_,_,h,_| .ix _::_,_,.bool,_,_,h,_| .ix _::_,_,.str,_,_,h,_| .ix _::_,_,.unit,_,_,h,_| .ix _::_,_,.pair _ _,_,_,h,_
 | .ix _::_,_,.slice _ _,.b,_,h,_| .ix _::_,_,.slice _ _,.pr _ _,_,h,_=>by simp[qw] at h
theorem zhl {t:Ty}(h:(!t.isUnit)=true):t≠.unit:=by rintro rfl;simp[Ty.isUnit] at h
theorem z3x:∀{n:Nat} {t:Ty} {o:Ow} {x:PV t},getT (qc n) t≠.unit->qw (qc n) t o x
 |0,.pair _ _,_,_,_=>trivial
 |n+1,.pair _ b,_,x,h=>z3x (n:=n) (t:=b) (x:=x.2) h
 |0,.int _,_,_,h|0,.bool,_,_,h|0,.str,_,_,h|0,.unit,_,_,h|0,.slice _ _,_,_,h=>absurd rfl h
 |_+1,.int _,_,_,h|_+1,.bool,_,_,h|_+1,.str,_,_,h|_+1,.unit,_,_,h|_+1,.slice _ _,_,_,h=>absurd rfl h
theorem ztb (w:World):∀{n:Nat} {t:Ty} {b off:Nat},getT (qc n) t≠.unit->locate w (qc n) t b off=some (b,off+xg (qc n) t)
 |0,.pair a _,b,off,_=>by simp[qc,locate,xg]
 |n+1,.pair a c,b,off,h=>by
  show locate w (qc n) c b (off+a.size)=_;rw[ztb w (n:=n) (t:=c) h];show _=some (b,off+(a.size+xg (qc n) c));rw[Nat.add_assoc]
 |0,.int _,_,_,h|0,.bool,_,_,h|0,.str,_,_,h|0,.unit,_,_,h|0,.slice _ _,_,_,h=>absurd rfl h
 |_+1,.int _,_,_,h|_+1,.bool,_,_,h|_+1,.str,_,_,h|_+1,.unit,_,_,h|_+1,.slice _ _,_,_,h=>absurd rfl h
theorem zkh:∀{q p:List PE},zcs q p=true->∃s,p=q++s/\za7 s=true
 |[],p,h=>⟨p,rfl,h⟩
 | .l::q,.l::p,h=>by obtain⟨s,rfl,hs⟩:=zkh (q:=q) (p:=p) h;exact⟨s,rfl,hs⟩
 | .r::q,.r::p,h=>by obtain⟨s,rfl,hs⟩:=zkh (q:=q) (p:=p) h;exact⟨s,rfl,hs⟩
 | .ix n::q,.ix m::p,h=>by
   simp only[zcs,yh0,yy0] at h;obtain⟨s,rfl,hs⟩:=zkh h.2;exact⟨s,by rw[h.1];rfl,hs⟩
 | .l::_,[],h| .r::_,[],h| .ix _::_,[],h=>by simp[zcs] at h
 | .l::_,.r::_,h| .l::_,.ix _::_,h| .r::_,.l::_,h| .r::_,.ix _::_,h| .ix _::_,.l::_,h| .ix _::_,.r::_,h=>by simp[zcs] at h
theorem z3y {tab:List (TypeId×Ty)}:∀{fs:List Field} {o n:Nat} {t:Ty},zbs tab fs o t=true->getT (qc n) t≠.unit->
 ∃f,fs[n]? =some f/\lookup tab f.type=some (getT (qc n) t)/\f.offset=o+xg (qc n) t/\(getT (qc n) t).size≠0
 |f::fs,o,0,.pair a b,h,_=>by
  simp only[zbs,yh0,yy0,yj1,yo0] at h;exact⟨f,rfl,h.1.1.1,by simp[qc,xg,h.1.1.2],h.1.2⟩
 |f::fs,o,n+1,.pair a b,h,hn=>by
  simp only[zbs,yh0,yy0] at h;obtain⟨g,h1,h2,h3,h4⟩:=z3y (n:=n) (t:=b) h.2 hn;refine⟨g,h1,h2,?_,h4⟩;rw[h3];show _=o+(a.size+_);rw[Nat.add_assoc]
 |[],_,_,.pair _ _,h,_=>by simp[zbs] at h
 |_,_,0,.int _,_,hn|_,_,0,.bool,_,hn|_,_,0,.str,_,hn|_,_,0,.unit,_,hn|_,_,0,.slice _ _,_,hn=>absurd rfl hn
 |_,_,_+1,.int _,_,hn|_,_,_+1,.bool,_,hn|_,_,_+1,.str,_,hn|_,_,_+1,.unit,_,hn|_,_,_+1,.slice _ _,_,hn=>absurd rfl hn
section
variable {w0 : World} {Pr0 M : Nat → Prop}
variable {P : Program} {cx : Cx} {E : Env} {V : List Value} {w w' : World} {Pr : Nat → Prop} {B : Nat → List Nat} {off : Nat} {a : Act}
theorem qwy (htab:ji P cx.tab){tid:TypeId}{t:Ty}(hl:lookup cx.tab tid=some t){n:Nat}(hn:getT (qc n) t≠.unit)(hs:∃d fs,P.underlying tid=some d/\d=.struct fs)
 (ad:Addr):(Instr.fieldAt tid (.pointer (some ad)) n).run P w=.ok (.pointer (some (ad.add (xg (qc n) t)))) w:=by
 obtain⟨d,fs,hd,rfl⟩:=hs;obtain⟨d',hd',hfit⟩:=(jr htab hl).und;rw[hd] at hd';obtain rfl:=yl0 hd'
 have hfo:zbs cx.tab fs.toList 0 t=true:=by
  cases t<;>simp[fits,Ty.agg] at hfit ⊢<;>exact hfit
 obtain⟨f,g1,g2,g3,g4⟩:=z3y (n:=n) hfo hn;have g1':fs[n]? =some f:=by simpa using g1
 simp only[Instr.fieldAt,Sem.run_bind,run_underlying hd,Result.andThen_ok,g1'];simp[Instr.sureAddr,fieldPlace,run_sizeOf (P:=P) (w:=w) (jr htab g2),g4,g3]
theorem zm7 (b off n:Nat):(⟨b,off,none⟩:Addr).add n=⟨b,off+n,none⟩:=by unfold Addr.add;split<;>simp_all
theorem z0z {o:Oper}{x:Operand}{n:Nat}{al:Al}{t:Ty}(hrun:∀ad,a.eval x=.pointer (some ad)->(execOp a.eval o).run P w=.ok (.value (.pointer (some (ad.add (xg (qc n) t))))) w)(h:StB w0 Pr0 M E V w Pr B)
 (hN:∀k,E.length<=k->B k=[])(hf:Fr off V a)(hn:getT (qc n) t≠.unit)
 (hp:place E (opd E off x)=some al)
 (hs:(∃(iV:Bool) (t':Ty) (o':Ow) (z:PV t'),(E.at al.j).s=(if iV then .var t' o' z else .val t' o' z)/\getT al.p t'=t/\(iV=true\/al.p≠[]))\/
   (∃(iV:Bool) (t':Ty) (o':Ow) (z:PV t') (p:List PE),(E.at al.j).s=.hole iV t' o' z p/\getT al.p t'=t/\((al.p=[]/\iV=true)\/(al.p≠[]/\∃s,p=al.p++s/\za7 s=true)))):
 jk w0 Pr0 M P E V w a o (.addr ⟨al.j,al.p++qc n,al.iv,(E.at al.j).cv⟩,[]):=by
 obtain⟨hA,hok⟩:=zik h (qx h hf x) hp;have hiv:(E.at al.j).iv=al.iv:=by simp only[Al.okA,yh0,yy0] at hok;exact hok.1
 rcases hs with⟨iV,t',o',z,hs,ht,hnn⟩|⟨iV,t',o',z,p,hs,ht,hh⟩
 ·obtain⟨vj,loc,q1,q2,q3,q4,q5,q6,q7⟩:=zpv h hA hok hs hnn
  refine⟨.value (ptr (loc.1,loc.2+xg (qc n) t)),w,_,?_,.inl rfl,rfl,za5 h hN λN hB=> ?_⟩
  ·have:=hrun ⟨loc.1,loc.2,none⟩ q7
   rw[zm7] at this;exact this
  ·refine⟨E.at al.j,vj,⟨q2,by rw[hiv];exact ym0 _,λ_=>ym0 _⟩,q1,λ_=>⟨λhpn=> ?_,λ_ _=> ?_⟩⟩
   ·have hpn':al.p++qc n=[]:=hpn
    simp only[List.append_eq_nil_iff] at hpn';cases n<;>simp[qc] at hpn'
   ·have hl2:jl w iV t' vj (al.p++qc n)=some (loc.1,loc.2+xg (qc n) t):=by
     rw[zjh _ _ _ _ _ _ hnn,q6];simp only[ya0,ht];exact ztb w hn
    have hpath:qw (al.p++qc n) t' o' z:=zlp q4 (z3x (by rw[ht];exact hn));rw[hs];cases iV with
    |true=>exact⟨hpath,_,hl2,rfl⟩
    |false=>exact⟨hpath,_,hl2,rfl⟩
 ·obtain⟨e,vj,hlv,hv,hk⟩:=hA
  have he:=jq hlv.1;rw[he] at hs hiv;have hso:=h.slots al.j e vj hlv.1 hv;rw[hs] at hso;obtain⟨b',off',cs',h1,h2,h3,h4,h5,h6,h7⟩:=hso;obtain⟨k1,k2⟩:=hk hiv
  have hloc:∃loc,a.eval x=ptr loc/\jl w iV t' vj al.p=some loc:=by
   rcases hh with⟨hnil,rfl⟩|⟨hnn,s,hps,hls⟩
   ·
    have:∃b,vj=.pointer (some ⟨b,0,none⟩):=by
     cases vj<;>simp only[jl] at h1<;>try (cases h1;done)
     rename_i A;cases A with
     |none=>cases h1
     |some A=>
      obtain⟨b,n,sp⟩:=A;cases n<;>cases sp<;>simp only[] at h1<;>first|exact⟨b,rfl⟩|(cases h1;done)
    obtain⟨b,rfl⟩:=this;exact⟨(b,0),k1 hnil,by rw[hnil];rfl⟩
   ·have hcv:e.cv=al.cv:=by
     simp only[Al.okA,he,yh0,yy0,yq1] at hok;rcases hok.2 with hc|hn
     ·exact hc
     ·cases hap:al.p with
      |nil=>exact absurd hap hnn
      |cons _ _=>rw[hap] at hn;simp[isNil] at hn
    have hA:=k2 hnn hcv;rw[hs] at hA;obtain⟨loc,r1,r2⟩:=hA.1 s hps hls;exact⟨loc,r2,r1⟩
  obtain⟨loc,q7,q6⟩:=hloc;have hnn:iV=true\/al.p≠[]:=hh.imp (λq=>q.2) (λq=>q.1);refine⟨.value (ptr (loc.1,loc.2+xg (qc n) t)),w,_,?_,.inl rfl,rfl,za5 h hN λN hB=> ?_⟩
  ·have:=hrun ⟨loc.1,loc.2,none⟩ q7
   rw[zm7] at this;exact this
  ·refine⟨e,vj,⟨hlv.1,by show al.iv<=e.iv;omega,λ_=>by show(E.at al.j).cv<=e.cv;rw[he];exact ym0 _⟩,hv,λ_=>⟨λhpn=> ?_,λ_ _=> ?_⟩⟩
   ·have hpn':al.p++qc n=[]:=hpn
    simp only[List.append_eq_nil_iff] at hpn';cases n<;>simp[qc] at hpn'
   ·rw[hs]
    have hl2:jl w iV t' vj (al.p++qc n)=some (loc.1,loc.2+xg (qc n) t):=by
     rw[zjh _ _ _ _ _ _ hnn,q6];simp only[ya0,ht];exact ztb w hn
    exact⟨λs hps hls=>⟨_,hl2,rfl⟩,λ_ hiv2 _=>⟨_,by rw[<-hiv2];exact hl2,rfl⟩⟩
end
end Go.Dn
end

section
/- Operations, fifth part: what is borrowed; elements; parts of slices and strings; lengths. -/
namespace Go.Dn
section
variable {w0 : World} {Pr0 M : Nat → Prop}
variable {P : Program} {cx : Cx} {E : Env} {V : List Value} {w w' : World} {Pr : Nat → Prop} {B : Nat → List Nat} {off : Nat} {a : Act}
theorem Cells.sub {ad:Addr}{c0 c c2:List Value}(h:Cells w ad (c0++c++c2)):Cells w (ad.add c0.length) c:=by
 intro j u hu;have hj:=(yf2.1 hu).1;have:=h (c0.length+j) u (by rw[yj0,ya2 (by omega),yy2,yz1 hj];exact hu)
 rwa [show(ad.add c0.length).add j=ad.add (c0.length+j) by
  unfold Addr.add;by_cases h1:c0.length=0<;>by_cases h2:j=0<;>simp[h1,h2,Nat.add_assoc]]
theorem add_block (ad:Addr)(n:Nat):(ad.add n).block=ad.block:=by unfold Addr.add;split<;>rfl
theorem zuq:∀{n:Nat} {t:Ty} {cs:List Value} {x:PV t},getT (qc n) t≠.unit->Rep w Pr t .b cs x []->
 ∃c0 c c2,cs=c0++c++c2/\c0.length=xg (qc n) t/\Rep w Pr (getT (qc n) t) .b c (get (qc n) t x) []
 |0,.pair a b,cs,x,_,h=>by
  obtain⟨c1,c2,b1,b2,rfl,e2,h1,h2⟩:=h;have:b1++b2=[]:=yt2.1 e2.symm;simp only[List.append_eq_nil_iff] at this;obtain⟨rfl,rfl⟩:=this;exact⟨[],c1,c2,rfl,rfl,h1⟩
 |n+1,.pair a b,cs,x,hn,h=>by
  obtain⟨c1,c2,b1,b2,rfl,e2,h1,h2⟩:=h;have:b1++b2=[]:=yt2.1 e2.symm;simp only[List.append_eq_nil_iff] at this;obtain⟨rfl,rfl⟩:=this;obtain⟨d0,d,d2,rfl,hl,hr⟩:=zuq (n:=n) (t:=b) hn h2;exact⟨c1++d0,d,d2,by simp,by rw[ye0,h1.length,hl];rfl,hr⟩
 |0,.int _,_,_,hn,_|0,.bool,_,_,hn,_|0,.str,_,_,hn,_|0,.unit,_,_,hn,_|0,.slice _ _,_,_,hn,_=>absurd rfl hn
 |_+1,.int _,_,_,hn,_|_+1,.bool,_,_,hn,_|_+1,.str,_,_,hn,_|_+1,.unit,_,_,hn,_|_+1,.slice _ _,_,_,hn,_=>absurd rfl hn
theorem qev (h:StB w0 Pr0 M E V w Pr B){x:Operand}(hf:Fr off V a){t:Ty}{y:PV t}(hs:(opd E off x).s=.bad t y):qfj w Pr t y (a.eval x):=by
 have ho:=qx h hf x;cases hix:(opd E off x).ix with
 |none=>unfold jv at ho;rw[hix,hs] at ho;exact ho.elim
 |some k=>have:=zcy h ho hix;rw[hs] at this;exact this
theorem qqm (htab:ji P cx.tab){o:Oper}{tid:TypeId}{x:Operand}{t:Ty}{y:PV t}(hop:o.op=.load tid x)(h:StB w0 Pr0 M E V w Pr B)(hN:∀k,E.length<=k->B k=[])(hf:Fr off V a)
 (hl:lookup cx.tab tid=some t)(hs:(opd E off x).s=.bad t y):jk w0 Pr0 M P E V w a o (.val t .b y,[]):=by
 obtain⟨ad,cs,h1,h2,h3,h4⟩:=qev h hf hs;refine⟨.value (pack t cs),w,_,?_,.inl rfl,rfl,za5 h hN λN hB=> ?_⟩
 ·simp[execOp,hop,h1,zt6 (P:=P) (jr htab hl) h3 h4.length]
 ·show zx _ _ _ _ _ _ _
  rw[hB];exact⟨cs,rfl,h4⟩
theorem Scl.get:∀{q:List PE} {t:Ty} {cs:List Value} {x:PV t} {k:IntKind},Scl t cs x->za7 q=true->getT q t=.int k->∃v,cs[xg q t]? =some v/\Scl (getT q t) [v] (Go.Dn.get q t x)
 |[],t,cs,x,k,h,_,hT=>by
  have hT':t=.int k:=hT;subst hT';have h':cs=[.int k x]:=h;subst h';exact⟨_,rfl,rfl⟩
 | .l::q,.pair a b,cs,x,k,h,hl,hT=>by
   obtain⟨c1,c2,rfl,_,h1,_⟩:=h;obtain⟨v,e1,e2⟩:=Scl.get (q:=q) (t:=a) h1 hl hT;refine⟨v,?_,e2⟩;show(c1++c2)[xg q a]? =some v
   rw[yz1 (yf2.1 e1).1];exact e1
 | .r::q,.pair a b,cs,x,k,h,hl,hT=>by
   obtain⟨c1,c2,rfl,hc,_,h1⟩:=h;obtain⟨v,e1,e2⟩:=Scl.get (q:=q) (t:=b) h1 hl hT;refine⟨v,?_,e2⟩;show(c1++c2)[a.size+xg q b]? =some v
   rw[ya2 (by omega),hc,yy2];exact e1
 | .ix _::_,_,_,_,_,_,hl,_=>by simp[za7] at hl
 | .l::_,.int _,_,_,_,_,_,hT| .l::_,.bool,_,_,_,_,_,hT| .l::_,.str,_,_,_,_,_,hT| .l::_,.unit,_,_,_,_,_,hT| .l::_,.slice _ _,_,_,_,_,_,hT=>by simp[getT] at hT
 | .r::_,.int _,_,_,_,_,_,hT| .r::_,.bool,_,_,_,_,_,hT| .r::_,.str,_,_,_,_,_,hT| .r::_,.unit,_,_,_,_,_,hT| .r::_,.slice _ _,_,_,_,_,_,hT=>by simp[getT] at hT
theorem q7a {w:World}{Pr:Nat->Prop}{T:Ty}{k:IntKind}(hT:T=.int k){v:Value}{y:PV T}(h:Scl T [v] y):Rep w Pr T .b [v] y []:=by
 subst hT;exact⟨h,rfl⟩
theorem qoe (htab:ji P cx.tab){o:Oper}{tid:TypeId}{x:Operand}{al:Al}{t':Ty}{ow:Ow}{z:PV t'}{k:IntKind}(hop:o.op=.load tid x)(h:StB w0 Pr0 M E V w Pr B)
 (hN:∀k,E.length<=k->B k=[])(hf:Fr off V a)(hl:lookup cx.tab tid=some (getT al.p t'))(hp:place E (opd E off x)=some al)
 (hs:(E.at al.j).s=.hole true t' ow z [])(hlr:za7 al.p=true)(hne:al.p≠[])(hT:getT al.p t'=.int k):
 jk w0 Pr0 M P E V w a o (.val (getT al.p t') .b (Go.Dn.get al.p t' z),[]):=by
 obtain⟨hA,hok⟩:=zik h (qx h hf x) hp;obtain⟨e,vj,hlv,hv,hk⟩:=hA;have he:=jq hlv.1;rw[he] at hs;have hso:=h.slots al.j e vj hlv.1 hv;rw[hs] at hso;obtain⟨b',off',cs',h1,h2,h3,h4,h5,h6,h7,h8⟩:=hso;simp only[Al.okA,he,yh0,yy0,yq1] at hok;obtain⟨k1,k2⟩:=hk hok.1
 have hcv:e.cv=al.cv:=by
  rcases hok.2 with hc|hn
  ·exact hc
  ·cases hap:al.p with
   |nil=>exact absurd hap hne
   |cons _ _=>rw[hap] at hn;simp[isNil] at hn
 have hA:=k2 hne hcv;rw[hs] at hA;obtain⟨loc,r1,r2⟩:=hA.2 rfl rfl hlr;obtain⟨v,e1,e2⟩:=Scl.get (h8.2 rfl) hlr hT
 have hloc:loc=(b',off'+xg al.p t'):=by
  have:=zjh w true t' vj [] al.p (.inl rfl);rw[yp1,r1,h1,ya0] at this;exact zmm w al.p t' b' off' loc hlr this.symm
 have hho:zaj w loc.1 loc.2 [v]:=by
  obtain⟨cur,T,g1,g2⟩:=h2;rw[hloc];refine⟨cur,T,g1,λi u hu=> ?_⟩;cases i with
  |zero=>
   simp only[ym2,yn0] at hu;subst hu;exact g2 _ _ e1
  |succ i=>simp at hu
 have hsz:[v].length=(getT al.p t').size:=by rw[hT];rfl
 refine⟨.value (pack (getT al.p t') [v]),w,_,?_,.inl rfl,rfl,za5 h hN λN hB=> ?_⟩
 ·have:=zt6 (P:=P) (jr htab hl) (Cells.zvf hho) hsz
  simp[execOp,hop,r2,ptr,this]
 ·show zx w Pr _ _ .b _ (B N)
  rw[hB];exact⟨[v],rfl,q7a hT e2⟩
theorem qof {o:Oper}{x:Operand}{n:Nat}{t:Ty}{y:PV t}(hrun:∀ad,a.eval x=.pointer (some ad)->(execOp a.eval o).run P w=.ok (.value (.pointer (some (ad.add (xg (qc n) t))))) w)(h:StB w0 Pr0 M E V w Pr B)(hN:∀k,E.length<=k->B k=[])(hf:Fr off V a)
 (hn:getT (qc n) t≠.unit)(hs:(opd E off x).s=.bad t y):
 jk w0 Pr0 M P E V w a o (.bad (getT (qc n) t) (get (qc n) t y),[]):=by
 obtain⟨ad,cs,h1,h2,h3,h4⟩:=qev h hf hs;obtain⟨c0,c,c2,rfl,g1,g2⟩:=zuq hn h4;refine⟨.value (.pointer (some (ad.add (xg (qc n) t)))),w,_,?_,.inl rfl,rfl,za5 h hN λN hB=> ?_⟩
 ·exact hrun ad h1
 ·exact⟨_,c,rfl,by rw[add_block];exact h2,by rw[<-g1];exact h3.sub,g2⟩
theorem z7m {d:TypeDesc}{e:TypeId}{t:Ty}{tab:List (TypeId×Ty)}(h:fits tab d (.slice e t)=true):d=.slice e/\lookup tab e=some t/\t.size≠0:=by
 cases d<;>first|(simp[fits,Ty.agg] at h;done)|skip
 simp only[fits,yh0,yy0,yj1,yo0] at h;exact⟨by rw[h.1.1],by rw[<-h.1.1];exact h.1.2,h.2⟩
def SlTy (P:Program)(cx:Cx)(tid:TypeId)(t:Ty):Prop:=∃e,P.underlying tid=some (.slice e)/\TyFact P cx.tab e t
theorem run_indexAt {tid:TypeId}{t:Ty}(hs:SlTy P cx tid t){k:IntKind}{n:Int}{A:Option Addr}{len c:Nat}{ad:Addr}(hA:A=some ad)(h0:0<=n)(h1:n<len):
 (Instr.indexAt tid (.slice A len c) (.int k n)).run P w=.ok (.pointer (some (ad.add (n.toNat*t.size)))) w:=by
 obtain⟨e,hu,hf⟩:=hs;subst hA;simp[Instr.indexAt,asIntOf,run_underlying hu,h0,h1,run_sizeOf hf]
theorem zqo {n:Int}{l:Nat}(h:inB n l=true):0<=n/\n<(l:Int)/\n.toNat<l:=by
 simp only[inB,yh0,yr0] at h;omega
theorem qog {o:Oper}{tid:TypeId}{x i:Operand}{e:TypeId}{t:Ty}{xs:List (PV t)}{k:IntKind}{n:Int}(hop:o.op=.indexAddr tid x i)(h:StB w0 Pr0 M E V w Pr B)
 (hN:∀k,E.length<=k->B k=[])(hf:Fr off V a)(hst:SlTy P cx tid t)(hi:rd E (opd E off i).s=some ⟨.int k,n⟩)(hx:∃o',alias E (opd E off x)=.val (.slice e t) o' xs/\owns (.slice e t) o'=false)
 (hn:inB n xs.length=true):jk w0 Pr0 M P E V w a o (.bad t (xs.getD n.toNat (dflt t)),[]):=by
 obtain⟨o',hx,hown⟩:=hx;obtain⟨h0,h1,h2⟩:=zqo hn;have hal:=zd2 h (qx h hf x) (N:=E.length) (hN _ (ym0 _));rw[hx] at hal;have hal:zx w Pr (a.eval x) (.slice e t) o' xs (B E.length):=hal;obtain⟨cs,hv,hr⟩:=zx.zax hown hal;obtain⟨_,A,c,rfl,hc,hb⟩:=za0.1 hr;rcases hb with rfl|⟨ad,ys,hA,hpa,hcl,hl⟩
 ·simp at h2
 ·obtain⟨c0,c1,c2,b,b2,rfl,s2,s3,s4,s5⟩:=hl.split n.toNat h2
  have hb0:b=[]:=by have:b++b2=[]:=yt2.1 s2.symm;simp only[List.append_eq_nil_iff] at this;exact this.1
  subst hb0;have hc0:c0.length=n.toNat*t.size:=s4 t.size (λ_ _ _ h=>h.length);refine⟨.value (.pointer (some (ad.add (n.toNat*t.size)))),w,_,?_,.inl rfl,rfl,za5 h hN λN hB=> ?_⟩
  ·have:=run_indexAt (w:=w) (k:=k) (len:=xs.length) (c:=c) hst hA h0 h1
   simp[execOp,hop,zbo h (qx h hf i) hi,hv,pack,Ty.agg,this]
  ·refine⟨_,c1,rfl,by rw[add_block];exact hpa,by rw[<-hc0];exact hcl.sub,?_⟩
   have:xs.getD n.toNat (dflt t)=xs[n.toNat]:=by simp[List.getD,h2]
   rw[this];exact s3
theorem qoh {o:Oper}{tid:TypeId}{x i:Operand}{e:TypeId}{t:Ty}{xs:List (PV t)}{k:IntKind}{n:Int}{al:Al}(hop:o.op=.indexAddr tid x i)(h:StB w0 Pr0 M E V w Pr B)
 (hN:∀k,E.length<=k->B k=[])(hf:Fr off V a)(hst:SlTy P cx tid t)(hi:rd E (opd E off i).s=some ⟨.int k,n⟩)(hx:alias E (opd E off x)=.sub al)
 (hrd:rd E (.sub al)=some ⟨.slice e t,xs⟩)(hn:inB n xs.length=true)(hown:∀t' o' x',((E.at al.j).s=.val t' o' x'\/(E.at al.j).s=.var t' o' x')->owns (getT al.p t') (getO al.p o')=true):
 jk w0 Pr0 M P E V w a o (.addr ⟨al.j,al.p++[.ix n.toNat],al.iv,(E.at al.j).cv⟩,[]):=by
 obtain⟨h0,h1,h2⟩:=zqo hn;have hal:=zd2 h (qx h hf x) (N:=E.length) (hN _ (ym0 _));rw[hx] at hal;have hal:zc2 w E V al (a.eval x):=hal;simp only[rd] at hrd;cases hok:al.okS E with
 |false=>rw[hok] at hrd;simp at hrd
 |true=>
  rw[hok] at hrd;simp only[yb0] at hrd
  have go:∀(iV:Bool) (t':Ty) (o':Ow) (x':PV t'),(E.at al.j).s=(if iV then .var t' o' x' else .val t' o' x')->(⟨getT al.p t',get al.p t' x'⟩:SV)=⟨.slice e t,xs⟩->
   jk w0 Pr0 M P E V w a o (.addr ⟨al.j,al.p++[.ix n.toNat],al.iv,(E.at al.j).cv⟩,[]):=by
   intro iV t' o' x' hroot hx2;have hw:=hown t' o' x' (by cases iV<;>simp_all);obtain⟨vj,g1,g2,g3,g4⟩:=zh8 h hal hok hroot;have hiv:(E.at al.j).iv=al.iv:=by simp only[Al.okS,yh0,yy0] at hok;exact hok.1
   have key:∀(T:Ty) (O:Ow) (X:PV T),T=getT al.p t'->HEq X (get al.p t' x')->O=getO al.p o'->∀bs,zx w Pr (a.eval x) T O X bs->∃oe g c,O=.row oe/\a.eval x=.slice (some ⟨g,0,none⟩) xs.length c:=by
    intro T O X hT hX hO bs hv
    have hsig:(⟨T,X⟩:SV)=⟨.slice e t,xs⟩:=by
     subst hT;obtain rfl:=eq_of_heq hX;exact hx2
    obtain⟨rfl,hX'⟩:=Sigma.mk.inj hsig;obtain rfl:=eq_of_heq hX';rw[<-hT,<-hO] at hw;cases O with
    |b=>simp[owns] at hw
    |pr _ _=>simp[owns] at hw
    |row oe=>
     obtain⟨cs,hv1,hv2⟩:=hv;obtain⟨v,ys,b',rfl,h5,_⟩:=jy.1 hv2;rcases ownsRow_form h5 with⟨rfl,hz,_⟩|⟨g,c,rfl,_,_⟩
     ·omega
     ·exact⟨oe,g,c,rfl,hv1⟩
   have fin:∀(oe:Ow) (g c:Nat),getO al.p o'=.row oe->a.eval x=.slice (some ⟨g,0,none⟩) xs.length c->qw al.p t' o' x'->
    (∀q:Ty,q=getT al.p t'->jl w iV t' vj (al.p++[.ix n.toNat])=some (g,n.toNat*t.size))->jk w0 Pr0 M P E V w a o (.addr ⟨al.j,al.p++[.ix n.toNat],al.iv,(E.at al.j).cv⟩,[]):=by
    intro oe g c hO hv hpath hloc
    have hpath2:qw (al.p++[.ix n.toNat]) t' o' x':=by
     refine zlp hpath ?_
     have aux:∀(T:Ty) (O:Ow) (X:PV T),(⟨T,X⟩:SV)=⟨.slice e t,xs⟩->O=.row oe->qw [.ix n.toNat] T O X:=by
      intro T O X hs hO;obtain⟨rfl,hX⟩:=Sigma.mk.inj hs;obtain rfl:=eq_of_heq hX;subst hO;exact⟨h2,trivial⟩
     exact aux _ _ _ hx2 hO
    refine⟨.value (ptr (g,n.toNat*t.size)),w,_,?_,.inl rfl,rfl,za5 h hN λN hB=> ?_⟩
    ·have:=run_indexAt (w:=w) (k:=k) (A:=some ⟨g,0,none⟩) (len:=xs.length) (c:=c) hst rfl h0 h1
     rw[zm7,Nat.zero_add] at this;simp[execOp,hop,zbo h (qx h hf i) hi,hv,ptr,this]
    ·refine⟨E.at al.j,vj,⟨g2,by show al.iv<=_;omega,λ_=>ym0 _⟩,g1,λ_=>⟨λhpn=> ?_,λ_ _=> ?_⟩⟩
     ·have hpn':al.p++[.ix n.toNat]=[]:=hpn
      simp at hpn'
     ·rw[hroot]
      cases iV with
      |true=>exact⟨hpath2,_,hloc _ rfl,rfl⟩
      |false=>exact⟨hpath2,_,hloc _ rfl,rfl⟩
   rcases g4 with⟨rfl,hp,hvj⟩|⟨hnn,hpath,hfo,loc,hl,hv⟩
   ·
    have g3:zx w Pr vj t' o' x' (B al.j):=g3;obtain⟨alj,alp,aliv,alcv⟩:=al;simp only at hp;subst hp;rw[<-hvj] at g3;obtain⟨oe,g,c,hO,hv⟩:=key t' o' x' rfl HEq.rfl rfl _ g3;obtain⟨ht',_⟩:=Sigma.mk.inj hx2;refine fin oe g c hO hv trivial (λ_ _=> ?_);rw[<-hvj,hv];have:t'=.slice e t:=ht';subst this;rfl
   ·obtain⟨bs',bsR,p1,p2⟩:=hfo.val hl hv
    obtain⟨oe,g,c,hO,hv'⟩:=key _ _ _ rfl HEq.rfl rfl _ p2;refine fin oe g c hO hv' hpath (λ_ _=> ?_);obtain⟨ht',_⟩:=Sigma.mk.inj hx2;rw[zjh _ _ _ _ _ _ (by rcases hnn with q|q;exact .inr q;exact .inl q),hl];simp only[ya0];obtain⟨b',off',cs',bs2,bsR2,f1,f2,f3,f4,f5,fL,f6⟩:=hfo;rw[hl] at f1;obtain rfl:=yl0 f1
    have hcs:cs'=[.slice (some ⟨g,0,none⟩) xs.length c]:=by
     have hl1:=f3.length;have hv2:a.eval x=pack (getT al.p t') cs':=by rw[hv];simp only;rw[<-f3.length,f2.read]
     rw[ht'] at hl1 hv2;simp only[Ty.size] at hl1;obtain⟨u,rfl⟩:=yc3.1 hl1;simp only[pack,Ty.agg,Bool.false_eq_true,if_false,List.headD_cons] at hv2;rw[<-hv2,hv']
    subst hcs;rw[ht'];simp only[locate,f2.cell]
  split at hrd
  ·rename_i t' o' x' hroot
   exact go false t' o' x' hroot (yl0 hrd)
  ·rename_i t' o' x' hroot
   exact go true t' o' x' hroot (yl0 hrd)
  ·cases hrd
theorem qmj {o:Oper}{tid:TypeId}{x i:Operand}{e:TypeId}{t:Ty}{ow:Ow}{xs:List (PV t)}{k:IntKind}{n:Int}{al:Al}{m:Nat}{p:List PE}(hop:o.op=.indexAddr tid x i)(h:StB w0 Pr0 M E V w Pr B)
 (hN:∀k,E.length<=k->B k=[])(hf:Fr off V a)(hst:SlTy P cx tid t)(hi:rd E (opd E off i).s=some ⟨.int k,n⟩)(hx:alias E (opd E off x)=.sub al)
 (hok:al.okS E=true)(hnil:al.p=[])(hroot:(E.at al.j).s=.hole false (.slice e t) ow xs (.ix m::p))(h0:0<=n)(hnm:n.toNat=m):
 jk w0 Pr0 M P E V w a o (.addr ⟨al.j,[.ix n.toNat],al.iv,(E.at al.j).cv⟩,[]):=by
 have hal:=zd2 h (qx h hf x) (N:=E.length) (hN _ (ym0 _));rw[hx] at hal;have hal:zc2 w E V al (a.eval x):=hal;obtain⟨e',vj,hl,hv,hk⟩:=hal;have he:=jq hl.1;have hso:=h.slots al.j e' vj hl.1 hv;rw[<-he,hroot] at hso;obtain⟨b',off',cs',h1,h2,h3,h4,h5,h6,h7,h8⟩:=hso;obtain⟨g,c,rfl⟩:=h8.1 rfl;have hiv:(E.at al.j).iv=al.iv:=by simp only[Al.okS,yh0,yy0] at hok;exact hok.1
 have hev:=(hk (by rw[<-he];exact hiv)).1 hnil (by rw[<-he,hroot];rfl);cases ow with
 |b=>simp[qw] at h5
 |pr _ _=>simp[qw] at h5
 |row oe=>
  have hm:m<List.length (α:=PV t) xs:=h5.1;have h1':n<(List.length (α:=PV t) xs:Int):=by omega
  refine⟨.value (ptr (g,n.toNat*t.size)),w,_,?_,.inl rfl,rfl,za5 h hN λN hB=> ?_⟩
  ·have:=run_indexAt (w:=w) (k:=k) (A:=some ⟨g,0,none⟩) (len:=List.length (α:=PV t) xs) (c:=c) hst rfl h0 h1'
   rw[zm7,Nat.zero_add] at this;have hev':a.eval x=.slice (some ⟨g,0,none⟩) (List.length (α:=PV t) xs) c:=hev;simp[execOp,hop,zbo h (qx h hf i) hi,hev',ptr,this]
  ·refine⟨E.at al.j,_,⟨by rw[he];exact hl.1,by show al.iv<=_;omega,λ_=>ym0 _⟩,hv,λ_=>⟨λhpn=>absurd hpn (List.cons_ne_nil _ _),λ_ _=> ?_⟩⟩
   rw[hroot];exact⟨λs hs hlr=>⟨(g,n.toNat*t.size),rfl,rfl⟩,λ_ h=>by cases h⟩
theorem jat {T:Ty}{O:Ow}{X:PV T}{m:Nat}{s:List PE}(hp:qw (.ix m::s) T O X):m<lenOf T X:=by
 cases T with
 |slice e t=>
  cases O with
  |b=>simp[qw] at hp
  |pr _ _=>simp[qw] at hp
  |row oe=>exact hp.1
 |_=>simp[qw] at hp
theorem qkn {o:Oper}{tid:TypeId}{x i:Operand}{iV:Bool}{t t':Ty}{ow:Ow}{X:PV t}{p s:List PE}{k:IntKind}{n:Int}{al:Al}{e:TypeId}(hop:o.op=.indexAddr tid x i)(h:StB w0 Pr0 M E V w Pr B)
 (hN:∀k,E.length<=k->B k=[])(hf:Fr off V a)(hst:SlTy P cx tid t')(hi:rd E (opd E off i).s=some ⟨.int k,n⟩)(hx:alias E (opd E off x)=.sub al)
 (hok:al.okC E=true)(hroot:(E.at al.j).s=.hole iV t ow X p)(hq:iV=true\/al.p≠[])(hps:p=(al.p++[.ix n.toNat])++s)(hlr:za7 s=true)(hT:getT al.p t=.slice e t')(h0:0<=n):
 jk w0 Pr0 M P E V w a o (.addr ⟨al.j,al.p++[.ix n.toNat],al.iv,(E.at al.j).cv⟩,[]):=by
 have hal:=zd2 h (qx h hf x) (N:=E.length) (hN _ (ym0 _));rw[hx] at hal;have hal:zc2 w E V al (a.eval x):=hal;obtain⟨e',vj,hl,hv,hk⟩:=hal;have he:=jq hl.1;have hso:=h.slots al.j e' vj hl.1 hv;rw[<-he,hroot] at hso;obtain⟨b',off',cs',h1,h2,h3,h4,h5,_⟩:=hso;simp only[Al.okC,yh0,yy0] at hok
 have hA:=(hk (by rw[<-he];exact hok.1)).2 (by rw[<-he];exact hok.2) (by
  rcases hq with hq|hq
  ·right;rw[<-he,hroot,hq];rfl
  ·exact .inl hq)
 rw[<-he,hroot] at hA;obtain⟨g,c,ev,hloc⟩:=hA n.toNat s (by rw[hps];simp) hlr;rw[hps] at h5;have h6:=jat (zhk (zhk h5).1).2;have h7:n<(lenOf (getT al.p t) (get al.p t X):Int):=by omega
 have hsz:elSz (getT al.p t)=t'.size:=by rw[hT];rfl
 rw[hsz] at hloc;refine⟨.value (ptr (g,n.toNat*t'.size)),w,_,?_,.inl rfl,rfl,za5 h hN λN hB=> ?_⟩
 ·have:=run_indexAt (w:=w) (k:=k) (A:=some ⟨g,0,none⟩) (len:=lenOf (getT al.p t) (get al.p t X)) (c:=c) hst rfl h0 h7
  rw[zm7,Nat.zero_add] at this;simp[execOp,hop,zbo h (qx h hf i) hi,ev,ptr,this]
 ·refine⟨E.at al.j,vj,⟨by rw[he];exact hl.1,by show al.iv<=_;omega,λ_=>ym0 _⟩,hv,λ_=>⟨λhpn=> ?_,λ_ _=> ?_⟩⟩
  ·have hpn':al.p++[.ix n.toNat]=[]:=hpn
   simp at hpn'
  ·rw[hroot]
   exact⟨λs' _ _=>⟨(g,n.toNat*t'.size),hloc,rfl⟩,λhp0=>by rw[hp0] at hps;simp at hps⟩
end
end Go.Dn
end

section
/- Operations, sixth part: cuts, lengths, conversions, functions, new slices. -/
namespace Go.Dn
section
variable {w0 : World} {Pr0 M : Nat → Prop}
variable {P : Program} {cx : Cx} {E : Env} {V : List Value} {w w' : World} {Pr : Nat → Prop} {B : Nat → List Nat} {off : Nat} {a : Act}
theorem zvi {x y:Int}{n:Nat}(h:cutB x y n=true):0<=x/\x<=y/\y<=(n:Int):=by
 simp only[cutB,yh0,yr0] at h;exact⟨h.1,h.2.1,h.2.2⟩
theorem zmx (h:StB w0 Pr0 M E V w Pr B)(hf:Fr off V a){d:Int}{x:Option Operand}{n:Int}(hb:bound E off d x=some n):
 (x=none/\n=d)\/∃y k,x=some y/\a.eval y=.int k n:=by
 cases x with
 |none=>simp only[bound,yn0] at hb;exact .inl ⟨rfl,hb.symm⟩
 |some y=>
  simp only[bound] at hb;split at hb
  ·rename_i k m hr
   obtain rfl:=yl0 hb;exact .inr ⟨y,k,rfl,zbo h (qx h hf y) hr⟩
  ·cases hb
theorem zpg {s:Bool}{len cap:Nat}{lo hi:Option Value}{x y:Int}(hl:(lo=none/\x=0)\/∃k,lo=some (.int k x))(hh:(hi=none/\y=(len:Int))\/∃k,hi=some (.int k y))
 (h0:0<=x)(h1:x<=y)(h2:y<=(cap:Int)):(Instr.sliceBounds s len cap lo hi none).run P w=.ok (x.toNat,y.toNat,cap) w:=by
 have hxy:x<=(y.toNat:Int):=by omega
 have hy0:0<=y:=by omega
 rcases hl with⟨rfl,rfl⟩|⟨k,rfl⟩<;>rcases hh with⟨rfl,rfl⟩|⟨k',rfl⟩<;>
  simp[Instr.sliceBounds,Instr.sliceBound,asIntOf,h0,h1,h2,hy0]<;>(intro _;omega)
theorem qth (htab:ji P cx.tab){o:Oper}{tid:TypeId}{x:Operand}{lo hi:Option Operand}{l:List UInt8}{m n:Int}(hop:o.op=.slice tid x lo hi none)(h:StB w0 Pr0 M E V w Pr B)
 (hN:∀k,E.length<=k->B k=[])(hf:Fr off V a)(hl:lookup cx.tab tid=some .str)(hx:rd E (opd E off x).s=some ⟨.str,l⟩)(h1:bound E off 0 lo=some m)(h2:bound E off (l.length:Int) hi=some n)
 (hc:cutB m n l.length=true):jk w0 Pr0 M P E V w a o (sv .str (cutL m n l),[]):=by
 obtain⟨d,hd,hfit⟩:=(jr htab hl).und;have hd':d=.string:=by cases d<;>first|rfl|(simp[fits,Ty.agg] at hfit;done)
 subst hd';obtain⟨c0,c1,c2⟩:=zvi hc;have hv:=zww h (qx h hf x) hx
 have hlo:(lo.map a.eval=none/\m=0)\/∃k,lo.map a.eval=some (.int k m):=by
  rcases zmx h hf h1 with⟨rfl,rfl⟩|⟨y,k,rfl,hy⟩
  ·exact .inl ⟨rfl,rfl⟩
  ·exact .inr ⟨k,by simp[hy]⟩
 have hhi:(hi.map a.eval=none/\n=(l.length:Int))\/∃k,hi.map a.eval=some (.int k n):=by
  rcases zmx h hf h2 with⟨rfl,rfl⟩|⟨y,k,rfl,hy⟩
  ·exact .inl ⟨rfl,rfl⟩
  ·exact .inr ⟨k,by simp[hy]⟩
 have hsz:(⟨⟨l⟩⟩:ByteArray).size=l.length:=rfl;have hb:=zpg (P:=P) (w:=w) (s:=false) (len:=l.length) (cap:=l.length) hlo hhi c0 c1 c2
 have hex:((⟨⟨l⟩⟩:ByteArray).extract m.toNat n.toNat)=⟨⟨cutL m n l⟩⟩:=by
  apply ByteArray.ext;rw[ByteArray.data_extract];simp only[cutL];apply Array.ext';simp[List.extract_eq_drop_take']
 refine zcf h hN (.str _) ?_;simp[execOp,hop,hv,strV,Instr.sliceAt,Instr.slice,run_underlying hd,hsz,hb,hex]
theorem zd5 (htab:ji P cx.tab){tid:TypeId}{e:TypeId}{t:Ty}(hl:lookup cx.tab tid=some (.slice e t)):SlTy P cx tid t/\P.underlying tid=some (.slice e)/\TyFact P cx.tab e t/\t.size≠0:=by
 obtain⟨d,hd,hfit⟩:=(jr htab hl).und;obtain⟨rfl,h1,h2⟩:=z7m hfit;exact⟨⟨e,hd,jr htab h1⟩,hd,jr htab h1,h2⟩
theorem q7b {Q:Nat->Prop}{t:Ty}{A:Option Addr}{c:Nat}{xs:List (PV t)}{m n:Nat}(hb:xs=[]\/∃ad ys,A=some ad/\Q ad.block/\Cells w ad ys/\RepL (Rep w Q t .b) ys xs [])
 (h1:m<=n)(h2:n<=xs.length)(hc:xs.length<=c):
 Bor w Q t [.slice (if c=m then A else A.map (·.add (m*t.size))) (n -m) (c -m)] ((xs.take n).drop m):=by
 have hlen:((xs.take n).drop m).length=n -m:=by simp;omega
 refine⟨_,_,by rw[hlen],by rw[hlen];omega,?_⟩;by_cases he:(xs.take n).drop m=[]
 ·exact .inl he
 ·right
  rcases hb with rfl|⟨ad,ys,rfl,g1,g2,g3⟩
  ·simp at he
  ·have hmn:m<n:=by
    rcases Nat.lt_or_ge m n with h|h
    ·exact h
    ·exfalso;apply he;apply yt0;rw[hlen];omega
   have hcm:¬c=m:=by omega
   obtain⟨b1,b2,e1,k1,k2⟩:=g3.take (m:=t.size) (λ_ _ _ h=>h.length) n;have:b1++b2=[]:=yt2.1 e1.symm;simp only[List.append_eq_nil_iff] at this;obtain⟨rfl,rfl⟩:=this;obtain⟨b3,b4,e2,k3,k4⟩:=k1.take (m:=t.size) (λ_ _ _ h=>h.length) m;have:b3++b4=[]:=yt2.1 e2.symm;simp only[List.append_eq_nil_iff] at this;obtain⟨rfl,rfl⟩:=this
   have hl0:((ys.take (n*t.size)).take (m*t.size)).length=m*t.size:=by
    have:=k3.length (n:=t.size) (λ_ _ _ h=>h.length);rw[this];congr 1;simp;omega
   refine⟨ad.add (m*t.size),(ys.take (n*t.size)).drop (m*t.size),by rw[yw0 hcm];rfl,by rw[add_block];exact g1,?_,k4⟩
   have:=Cells.sub (w:=w) (ad:=ad) (c0:=(ys.take (n*t.size)).take (m*t.size)) (c:=(ys.take (n*t.size)).drop (m*t.size)) (c2:=ys.drop (n*t.size)) (by
    rw[yp2,yp2];exact g2)
   rwa [hl0] at this
theorem zso (htab:ji P cx.tab){o:Oper}{tid:TypeId}{x:Operand}{lo hi:Option Operand}{e:TypeId}{t:Ty}{l:List (PV t)}{m n:Int}{s:Slot}(hop:o.op=.slice tid x lo hi none)(h:StB w0 Pr0 M E V w Pr B)
 (hN:∀k,E.length<=k->B k=[])(hf:Fr off V a)(hl:lookup cx.tab tid=some (.slice e t))(h1:bound E off 0 lo=some m)(h2:bound E off (l.length:Int) hi=some n)
 (hc:cutB m n l.length=true){Q:Nat->Prop}(hv:∃cs,a.eval x=pack (.slice e t) cs/\Rep w Q (.slice e t) .b cs l [])
 (hs:∀N v cs,B N=[]->v=pack (.slice e t) cs->Rep w Q (.slice e t) .b cs (cutL m n l) []->jd w Pr E V B N s v):jk w0 Pr0 M P E V w a o (s,[]):=by
 obtain⟨_,hd,hfe,_⟩:=zd5 htab hl;obtain⟨c0,c1,c2⟩:=zvi hc;obtain⟨cs,hv1,hv2⟩:=hv;obtain⟨_,A,c,rfl,hcc,hb⟩:=za0.1 hv2
 have hlo:(lo.map a.eval=none/\m=0)\/∃k,lo.map a.eval=some (.int k m):=by
  rcases zmx h hf h1 with⟨rfl,rfl⟩|⟨y,k,rfl,hy⟩
  ·exact .inl ⟨rfl,rfl⟩
  ·exact .inr ⟨k,by simp[hy]⟩
 have hhi:(hi.map a.eval=none/\n=(l.length:Int))\/∃k,hi.map a.eval=some (.int k n):=by
  rcases zmx h hf h2 with⟨rfl,rfl⟩|⟨y,k,rfl,hy⟩
  ·exact .inl ⟨rfl,rfl⟩
  ·exact .inr ⟨k,by simp[hy]⟩
 have hrb:=zpg (P:=P) (w:=w) (s:=true) (len:=l.length) (cap:=c) hlo hhi c0 c1 (by omega);have hcut:=q7b (w:=w) (Q:=Q) (t:=t) (A:=A) (c:=c) (xs:=l) (m:=m.toNat) (n:=n.toNat) hb (by omega) (by omega) hcc;refine⟨.value (.slice (if c=m.toNat then A else A.map (·.add (m.toNat*t.size))) (n.toNat -m.toNat) (c -m.toNat)),w,_,?_,.inl rfl,rfl,za5 h hN λN hB=> ?_⟩
 ·simp[execOp,hop,hv1,pack,Ty.agg,Instr.sliceAt,Instr.slice,run_underlying hd,hrb,run_sizeOf hfe]
 ·exact hs N _ _ hB (by rfl) (za0.2 ⟨rfl,hcut⟩)
theorem zvj {w:World}{Pr:Nat->Prop}:∀{t:Ty} {o:Ow} {cs:List Value} {x:PV t} {bs:List Nat},noSl t=true->Rep w Pr t o cs x bs->bs=[]
 | .int _,_,_,_,_,_,h=>h.2
 | .bool,_,_,_,_,_,h=>h.2
 | .str,_,_,_,_,_,h=>h.2
 | .unit,_,_,_,_,_,h=>h.2
 | .pair a b,_,_,_,_,hn,h=>by
   obtain⟨c1,c2,b1,b2,_,hp,h1,h2⟩:=qbk.1 h;simp only[noSl,yh0] at hn;rw[zvj hn.1 h1,zvj hn.2 h2] at hp;exact yt2.1 hp
 | .slice _ _,_,_,_,_,hn,_=>by simp[noSl] at hn
theorem z9o {w:World}{Pr:Nat->Prop}{t:Ty}{o:Ow}(hn:noSl t=true):∀{xs:List (PV t)} {ys:List Value} {bs:List Nat},RepL (Rep w Pr t o) ys xs bs->bs=[]
 |[],_,_,h=>h.2
 |_::_,_,_,h=>by
  obtain⟨c1,c2,b1,b2,_,hp,h1,h2⟩:=h;rw[zvj hn h1,z9o hn h2] at hp;exact yt2.1 hp
theorem qqn (htab:ji P cx.tab){o:Oper}{tid:TypeId}{x:Operand}{y:Operand}{e:TypeId}{t:Ty}{oe:Ow}{z:List (PV t)}{n:Int}{us:List U}{d0:Int}(hop:o.op=.slice tid x none (some y) none)(h:StB w0 Pr0 M E V w Pr B)
 (hN:∀k,E.length<=k->B k=[])(hf:Fr off V a)(hl:lookup cx.tab tid=some (.slice e t))(h2:bound E off d0 (some y)=some n)
 (hc:cutB 0 n z.length=true)(hns:noSl t=true)(ht:take E (opd E off x)=some (⟨.slice e t,.row oe,z⟩,us)):jk w0 Pr0 M P E V w a o (.val (.slice e t) (.row oe) (cutL 0 n z),us):=by
 obtain⟨_,hd,hfe,_⟩:=zd5 htab hl;obtain⟨c0,c1,c2⟩:=zvi hc;have hlo:((none:Option Value)=none/\(0:Int)=0)\/∃k,(none:Option Value)=some (.int k 0):=.inl ⟨rfl,rfl⟩
 have hhi:((some (a.eval y))=none/\n=(z.length:Int))\/∃k,some (a.eval y)=some (.int k n):=by
  rcases zmx h hf h2 with⟨q,_⟩|⟨y',k,q,hy⟩
  ·cases q
  ·cases q;exact .inr ⟨k,by rw[hy]⟩
 obtain⟨hh,hlen⟩:=z9l h hN (qx h hf x) ht;obtain⟨Pr1,B1,g1,g2,g3⟩:=hh;have g2:zx w Pr1 (a.eval x) (.slice e t) (.row oe) z (B1 (appU E us).length):=g2;obtain⟨cs,hv,hr⟩:=g2;obtain⟨v,ys,b',rfl,e4,e5,e6⟩:=jy.1 hr;have hv:a.eval x=v:=hv;have hb':b'=[]:=z9o hns e6;subst hb';obtain⟨b1,b2,q1,q2,q3⟩:=e6.take (m:=t.size) (λ_ _ _ h=>h.length) n.toNat;have hbb:b1++b2=[]:=yt2.1 q1.symm;simp only[List.append_eq_nil_iff] at hbb;obtain⟨rfl,rfl⟩:=hbb;have hcut:cutL 0 n z=z.take n.toNat:=by simp[cutL]
 have hlen2:(z.take n.toNat).length=n.toNat:=by simp;omega
 obtain⟨hys,hform⟩:=e4
 have key:∃v',(execOp a.eval o).run P w=.ok (.value v') w/\w.ownsRow 0 e t.size v' n.toNat (ys.take (n.toNat*t.size))/\v'.ownBlock=v.ownBlock:=by
  rcases hform with⟨rfl,hz⟩|⟨g,c,cur,rfl,f1,f2,f3,f4,f5,f6⟩
  ·have hn0:n=0:=by omega
   have hrb:=zpg (P:=P) (w:=w) (s:=true) (len:=0) (cap:=0) hlo (by rw[hz] at hhi;exact hhi) c0 c1 (by omega);refine⟨.slice none 0 0,?_,?_,rfl⟩
   ·simp[execOp,hop,hv,Instr.sliceAt,Instr.slice,run_underlying hd,hrb,run_sizeOf hfe,hn0]
   ·refine⟨by simp[hn0],.inl ⟨rfl,by omega⟩⟩
  ·have hrb:=zpg (P:=P) (w:=w) (s:=true) (len:=z.length) (cap:=c) hlo hhi c0 c1 (by omega)
   refine⟨.slice (some ⟨g,0,none⟩) n.toNat c,?_,?_,rfl⟩
   ·simp[execOp,hop,hv,Instr.sliceAt,Instr.slice,run_underlying hd,hrb,run_sizeOf hfe,Addr.add]
   ·have hle:n.toNat*t.size<=z.length*t.size:=Nat.mul_le_mul_right _ (by omega)
    refine⟨by rw[yr1,hys];omega,.inr ⟨g,c,cur,rfl,f1,f2,by omega,f4,f5,?_⟩⟩;rw[<-f6,List.take_take,Nat.min_eq_left hle]
 obtain⟨v',k1,k2,k3⟩:=key;refine⟨.value v',w,v',k1,.inl rfl,hlen,Pr1,B1,g1,?_,g3⟩;refine⟨[v'],rfl,jy.2 ⟨v',ys.take (n.toNat*t.size),[],rfl,?_,?_,?_⟩⟩
 ·rw[hcut,hlen2];exact k2
 ·rw[k3];exact e5
 ·rw[hcut];exact q2
theorem qbr (htab:ji P cx.tab){o:Oper}{c:Call}{x:Operand}(hop:o.op=.call c)(hc:c.callee=.builtin .len)(hargs:c.args= #[x])(h:StB w0 Pr0 M E V w Pr B)
 (hN:∀k,E.length<=k->B k=[])(hf:Fr off V a){n:Nat}(ht:∃tid,c.argTypes[0]? =some tid/\
   ((lookup cx.tab tid=some .str/\∃l:List UInt8,rd E (opdT cx E off tid x).s=some ⟨.str,l⟩/\l.length=n)\/
    (∃e t e' t',lookup cx.tab tid=some (.slice e t)/\∃l:List (PV t'),rd E (opdT cx E off tid x).s=some ⟨.slice e' t',l⟩/\l.length=n))):
 jk w0 Pr0 M P E V w a o (sv (.int .i64) (n:Int),[]):=by
 obtain⟨tid,h0,ht⟩:=ht;refine zcf h hN (.int _ _) ?_;rcases ht with⟨hl,l,hr,rfl⟩|⟨e,t,e',t',hl,l,hr,rfl⟩
 ·obtain⟨d,hd,hfit⟩:=(jr htab hl).und
  have hd':d=.string:=by cases d<;>first|rfl|(simp[fits,Ty.agg] at hfit;done)
  subst hd';have hv:=zww h (zb1 h hf tid x) hr;have hsz:(⟨⟨l⟩⟩:ByteArray).size=l.length:=rfl;simp[execOp,hop,resolve,hc,hargs,invoke,builtin,Builtin.len_,h0,run_underlying hd,hv,strV,hsz,goInt]
 ·obtain⟨_,hd,_⟩:=zd5 htab hl
  obtain⟨A,c',hv,_⟩:=zvg h (zb1 h hf tid x) hr;simp[execOp,hop,resolve,hc,hargs,invoke,builtin,Builtin.len_,h0,run_underlying hd,hv,goInt]
theorem q4x {o:Oper}{c:Call}{x y:Operand}{k:IntKind}{m n:Int}(hop:o.op=.call c)(hc:c.callee=.builtin .max)(hargs:c.args= #[x,y])(h:StB w0 Pr0 M E V w Pr B)
 (hN:∀k,E.length<=k->B k=[])(hf:Fr off V a)(hx:rd E (opd E off x).s=some ⟨.int k,m⟩)(hy:rd E (opd E off y).s=some ⟨.int k,n⟩):
 jk w0 Pr0 M P E V w a o (sv (.int k) (bif decide (n>m) then n else m),[]):=by
 have h1:=zbo h (qx h hf x) hx;have h2:=zbo h (qx h hf y) hy;refine zcf h hN (.int _ _) ?_;simp only[execOp,hop,resolve,hc,hargs,List.map_toArray,List.map_cons,List.map_nil,h1,h2];simp[invoke,builtin,Builtin.max_,Builtin.max2,cond_eq_ite]
theorem q4y {o:Oper}{c:Call}{x y:Operand}{k:IntKind}{m n:Int}(hop:o.op=.call c)(hc:c.callee=.builtin .min)(hargs:c.args= #[x,y])(h:StB w0 Pr0 M E V w Pr B)
 (hN:∀k,E.length<=k->B k=[])(hf:Fr off V a)(hx:rd E (opd E off x).s=some ⟨.int k,m⟩)(hy:rd E (opd E off y).s=some ⟨.int k,n⟩):
 jk w0 Pr0 M P E V w a o (sv (.int k) (bif decide (n<m) then n else m),[]):=by
 have h1:=zbo h (qx h hf x) hx;have h2:=zbo h (qx h hf y) hy;refine zcf h hN (.int _ _) ?_;simp only[execOp,hop,resolve,hc,hargs,List.map_toArray,List.map_cons,List.map_nil,h1,h2];simp[invoke,builtin,Builtin.min_,Builtin.min2,cond_eq_ite]
theorem qoi (htab:ji P cx.tab){o:Oper}{tid:TypeId}{x i:Operand}{l:List UInt8}{k:IntKind}{n:Int}(hop:o.op=.index tid x i)(h:StB w0 Pr0 M E V w Pr B)
 (hN:∀k,E.length<=k->B k=[])(hf:Fr off V a)(hl:lookup cx.tab tid=some .str)(hx:rd E (opd E off x).s=some ⟨.str,l⟩)(hi:rd E (opd E off i).s=some ⟨.int k,n⟩)(hn:inB n l.length=true):
 jk w0 Pr0 M P E V w a o (sv (.int .u8) ((l.getD n.toNat 0).toNat:Int),[]):=by
 obtain⟨d,hd,hfit⟩:=(jr htab hl).und;have hd':d=.string:=by cases d<;>first|rfl|(simp[fits,Ty.agg] at hfit;done)
 subst hd';obtain⟨h0,h1,h2⟩:=zqo hn;have hv:=zww h (qx h hf x) hx;have hw:=zbo h (qx h hf i) hi
 have hg:(⟨⟨l⟩⟩:ByteArray)[n.toNat]? =some (l.getD n.toNat 0):=by
  have hsz:n.toNat<(⟨⟨l⟩⟩:ByteArray).size:=h2;rw[getElem?_pos (⟨⟨l⟩⟩:ByteArray) n.toNat hsz];congr 1;show l[n.toNat]=_;simp[List.getD,h2]
 refine zcf h hN (.int _ _) ?_;simp[execOp,hop,hv,hw,strV,Instr.index,asIntOf,run_underlying hd,h0,hg]
end
end Go.Dn
end

section
/- Operations, seventh part: tuples, functions, new slices, conversions, appends. -/
namespace Go.Dn
section
variable {w0 : World} {Pr0 M : Nat → Prop}
variable {P : Program} {cx : Cx} {E : Env} {V : List Value} {w w' : World} {Pr : Nat → Prop} {B : Nat → List Nat} {off : Nat} {a : Act}
theorem zv9:∀{l:List TV} {vs:List Value} {bs:List Nat} {i:Nat} {tv:TV},zat w Pr l vs bs->l[i]? =some tv->tv.t≠.unit->
 ∃v b1 b2,vs[i]? =some v/\bs.Perm (b1++b2)/\zx w Pr v tv.t tv.o tv.x b1/\zat w Pr (l.set i ⟨.unit,.b,()⟩) vs b2
 |x::l,v::vs,bs,0,tv,h,hi,hn=>by
  obtain⟨b1,b2,h1,h2,h3⟩:=h;simp only[ym2,yn0] at hi;subst hi;exact⟨v,b1,b2,rfl,h1,h2.resolve_left hn,[],b2,by simp,.inl rfl,h3⟩
 |x::l,v::vs,bs,i+1,tv,h,hi,hn=>by
  obtain⟨b1,b2,h1,h2,h3⟩:=h;obtain⟨u,c1,c2,g1,g2,g3,g4⟩:=zv9 (i:=i) h3 (by simpa using hi) hn;refine⟨u,c1,b1++c2,by simpa using g1,?_,g3,b1,c2,yh1 _,h2,g4⟩;refine h1.trans ((g2.append_left _).trans ?_);rw[<-yj0,<-yj0];exact List.perm_append_comm.append_right _
 |[],[],_,_,_,_,hi,_=>by simp at hi
 |[],_::_,_,_,_,h,_,_=>h.elim
 |_::_,[],_,_,_,h,_,_=>h.elim
theorem qti {o:Oper}{x:Operand}{i k:Nat}{l:List TV}{tv:TV}(hop:o.op=.extract x i)(h:StB w0 Pr0 M E V w Pr B)(hN:∀k,E.length<=k->B k=[])(hf:Fr off V a)
 (hx:opd E off x=⟨some k,.tup l⟩)(hi:l[i]? =some tv)(hn:tv.t≠.unit):jk w0 Pr0 M P E V w a o (.val tv.t tv.o tv.x,[.cont k (.tup (l.set i ⟨.unit,.b,()⟩))]):=by
 have ho:=qx h hf x;rw[hx] at ho;rcases ho with h0|⟨e,h1,h2,h3⟩
 ·cases h0
 have hso:=h.slots k e _ h1 h2;rw[<-h3] at hso;obtain⟨vs,q1,q2⟩:=hso;obtain⟨v,b1,b2,g1,g2,g3,g4⟩:=zv9 q2 hi hn;have hk:=(yf2.1 h1).1;have hkN:k≠E.length:=by omega
 refine⟨.value v,w,v,?_,.inl rfl,by simp[appU,U.app],Pr,swap B E.length k b1 b2,?_,?_,?_⟩
 ·have g1':vs.toArray[i]? =some v:=by simpa using g1
  simp[execOp,hop,q1,Instr.extract,g1']
 ·show StB w0 Pr0 M (E.set k _) V w Pr _
  refine h.part (ym0 _) (hN _ (ym0 _)) h1 h2 g2 ?_ ?_
  ·rw[jq h1]
   refine .inr (.inl ⟨rfl,rfl,Nat.lt_succ_self _,?_⟩);show Slot.zay (.tup _)=e.s.zay;rw[<-h3];rfl
  ·exact⟨vs,q1,by rw[qeu hkN];exact g4⟩
 ·show zx _ _ _ _ _ _ _
  rw[show(appU E [.cont k (.tup (l.set i ⟨.unit,.b,()⟩))]).length=E.length by simp[appU,U.app],zgo];exact g3
 ·intro j hj
  rw[show(appU E [.cont k (.tup (l.set i ⟨.unit,.b,()⟩))]).length=E.length by simp[appU,U.app]] at hj;rw[zgi (by omega) (by omega)];exact hN j (by omega)
theorem qoj {o:Oper}{x:Operand}{i k:Nat}{l:List TV}{tv:TV}(hop:o.op=.extract x i)(h:StB w0 Pr0 M E V w Pr B)(hN:∀k,E.length<=k->B k=[])(hf:Fr off V a)
 (hx:opd E off x=⟨some k,.tup l⟩)(hi:l[i]? =some tv)(hn:tv.t≠.unit)(hw:owns tv.t tv.o=false):jk w0 Pr0 M P E V w a o (.val tv.t .b tv.x,[]):=by
 have ho:=qx h hf x;rw[hx] at ho;rcases ho with h0|⟨e,h1,h2,h3⟩
 ·cases h0
 have hso:=h.slots k e _ h1 h2;rw[<-h3] at hso;obtain⟨vs,q1,q2⟩:=hso;obtain⟨v,b1,b2,g1,g2,g3,g4⟩:=zv9 q2 hi hn;refine⟨.value v,w,v,?_,.inl rfl,rfl,Pr,B,h,?_,λj hj=>hN j (Nat.le_of_lt hj)⟩
 ·have g1':vs.toArray[i]? =some v:=by simpa using g1
  simp[execOp,hop,q1,Instr.extract,g1']
 ·show zx _ _ _ _ _ _ (B E.length)
  rw[hN _ (ym0 _)];exact zx.zax hw g3
theorem z5t (h:StB w0 Pr0 M E V w Pr B)(hf:Fr off V a):∀{xs:List Operand} {aL:List Al},placesOf E off xs=some aL->AllL (zbb w E V) aL (xs.map a.eval)
 |[],aL,hp=>by simp only[placesOf,yn0] at hp;subst hp;trivial
 |x::xs,aL,hp=>by
  simp only[placesOf] at hp;split at hp
  ·rename_i al as' h1 h2
   cases hn:isNil al.p with
   |false=>rw[hn] at hp;cases hp
   |true=>
    rw[hn] at hp;simp only[yb0,yn0] at hp;subst hp;exact⟨(zik h (qx h hf x) h1).1,z5t h hf h2⟩
  ·cases hp
theorem qqo {o:Oper}{f:FuncId}{first captured:Array Operand}{aL:List Al}(hop:o.op=.makeFunc (.func f) first captured)(h:StB w0 Pr0 M E V w Pr B)(hN:∀k,E.length<=k->B k=[])
 (hf:Fr off V a)(he:first.isEmpty=true)(hp:placesOf E off captured.toList=some aL):jk w0 Pr0 M P E V w a o (.fn f aL,[]):=by
 have:first= #[]:=by simpa using he
 subst this;refine⟨.value (.func (.func f) #[] (captured.map a.eval)),w,_,by simp[execOp,hop,Instr.makeFunc],.inl rfl,rfl,za5 h hN λN hB=> ?_⟩;refine⟨(captured.toList.map a.eval),?_,z5t h hf hp⟩;have:captured.map a.eval=(captured.toList.map a.eval).toArray:=by apply Array.ext';simp
 rw[this]
theorem z7n {t:Ty}{c:List Value}(hc:∀Pr,Rep w Pr t (top t) c (dflt t) []):∀(n:Nat),RepL (Rep w Pr t (top t)) ((List.replicate n c).flatten) (List.replicate n (dflt t)) []
 |0=>⟨rfl,rfl⟩
 |n+1=>⟨c,(List.replicate n c).flatten,[],[],by simp[List.replicate_succ],by simp,hc Pr,z7n hc n⟩
theorem q2n (c:List Value)(hc:c≠[]):∀(n:Nat),(madeCells c.toArray (n*c.length)).toList=(List.replicate n c).flatten:=by
 intro n;have hpos:0<c.length:=yq2.2 hc;apply List.ext_getElem?;intro i;have hlen:((List.replicate n c).flatten).length=n*c.length:=by simp
 by_cases hi:i<n*c.length
 ·have h1:(madeCells c.toArray (n*c.length)).toList[i]? =c[i%c.length]? :=by
   have hm:i%c.length<c.length:=Nat.mod_lt _ hpos;simp[madeCells,hi,hm]
  rw[h1];clear h1 hlen
  induction n generalizing i with
  |zero=>simp at hi
  |succ n ih=>
   rw[List.replicate_succ,yd1];by_cases hlt:i<c.length
   ·rw[yz1 hlt,Nat.mod_eq_of_lt hlt]
   ·rw[ya2 (by omega),<-ih (i -c.length) (by rw[Nat.succ_mul] at hi;omega)]
    congr 1;exact Nat.mod_eq_sub_mod (by omega)
 ·rw[yh2 (by simp[madeCells];omega),yh2 (by rw[hlen];omega)]
theorem q2o (c:List Value)(n m:Nat)(h:n<=m):((List.replicate m c).flatten).take (n*c.length)=(List.replicate n c).flatten:=by
 induction n generalizing m with
 |zero=>simp
 |succ n ih=>
  cases m with
  |zero=>omega
  |succ m=>
   rw[List.replicate_succ,yd1,List.replicate_succ,yd1,Nat.succ_mul,Nat.add_comm,List.take_append,yv2 (by omega),yy2,ih m (by omega)]
theorem qbs (h:StB w0 Pr0 M E V w Pr B){N:Nat}(hN:E.length<=N){cur:List Value}{e:TypeId}{t:Ty}{oe:Ow}{xs:List (PV t)}{ys:List Value}{cap:Nat}
 (hcap:xs.length<=cap)(hm:cap<=maxLen)(hsz:cur.length=cap*t.size)(htk:cur.take (xs.length*t.size)=ys)(hl:RepL (Rep w Pr t oe) ys xs (B N)):
 StB w0 Pr0 M E V (w.alloc (.cells cur.toArray e)) Pr (upd B N (w.heap.size::B N))/\
  zx (w.alloc (.cells cur.toArray e)) Pr (.slice (some ⟨w.heap.size,0,none⟩) xs.length cap) (.slice e t) (.row oe) xs (w.heap.size::B N):=by
 have hlt:∀b∈B N,b<w.heap.size:=λb hb=>(h.free _ _ hb).2.2;have hs:(w.alloc (.cells cur.toArray e)).heap.size=w.heap.size+1:=by show(w.heap.push _).size=_;simp
 refine⟨h.fresh hN (λb hb=> ?_) (List.nodup_cons.2 ⟨λm=>Nat.lt_irrefl _ (hlt _ m),h.nodup N⟩) (λb hb _=>zje w _ b hb) rfl rfl rfl (by omega),?_⟩
 ·rcases yg1.1 hb with rfl|hb
  ·exact⟨.inr (ym0 _),by omega⟩
  ·exact⟨.inl hb,by have:=hlt b hb;omega⟩
 ·refine⟨_,rfl,jy.2 ⟨_,ys,B N,rfl,⟨?_,.inr ⟨w.heap.size,cap,cur.toArray,rfl,ye1 _,zz8 w _,hcap,hm,by simpa using hsz,by simpa using htk⟩⟩,by simp[Value.ownBlock],?_⟩⟩
  ·rw[hl.length (λ_ _ _ h=>h.length)]
  ·exact hl.agree (λ_ h=>h) (λb hb=>zje w _ b (hb.elim (h.prlt b) (hlt b)))
theorem zur {n:Nat}(h:qm n=true):n<=1099511627776:=of_decide_eq_true h
theorem qok (htab:ji P cx.tab){o:Oper}{tid:TypeId}{x y:Operand}{e:TypeId}{t:Ty}{k k':IntKind}{n m:Int}(hop:o.op=.makeSlice tid x y)(h:StB w0 Pr0 M E V w Pr B)
 (hN:∀k,E.length<=k->B k=[])(hf:Fr off V a)(hl:lookup cx.tab tid=some (.slice e t))(hx:rd E (opd E off x).s=some ⟨.int k,n⟩)(hy:rd E (opd E off y).s=some ⟨.int k',m⟩)
 (h0:0<=n)(h1:n<=m)(h2:qm m.toNat=true):jk w0 Pr0 M P E V w a o (.val (.slice e t) (.row (top t)) (List.replicate n.toNat (dflt t)),[]):=by
 obtain⟨_,hd,hfe,hsz⟩:=zd5 htab hl;obtain⟨i,z,i1,i2,i3,i4,i5⟩:=hfe.info;have hm:=zur h2;obtain⟨c,hc,_⟩:=zgj (w:=w) (Pr:=Pr) i4;simp only[yz0] at hc
 have hcr:∀Q,Rep w Q t (top t) c (dflt t) []:=by
  intro Q;obtain⟨c',hc',hr⟩:=zgj (w:=w) (Pr:=Q) i4;simp only[yz0] at hc';have:c'=c:=hc'.symm.trans hc;rw[<-this];exact hr
 have hcl:c.length=t.size:=(hcr Pr).length;have hcn:c≠[]:=by rintro rfl;simp at hcl;exact hsz hcl.symm
 have hzc:z.cells=c.toArray:=by rw[<-hc]
 have hrun:=run_make (P:=P) w tid e i z hd i1 i3 k k' n m h0 h1 (by
  have:(i.bytes:Int)*m<=128*m:=by
   apply Int.mul_le_mul_of_nonneg_right<;>omega
  omega) (by omega)
 have hB:=hN E.length (ym0 _)
 have hrow:=qbs (w:=w) (e:=e) (t:=t) (oe:=top t) h (ym0 E.length) (cur:=(List.replicate m.toNat c).flatten) (cap:=m.toNat) (xs:=List.replicate n.toNat (dflt t)) (ys:=(List.replicate n.toNat c).flatten)
  (by simp;omega) (by simp only[maxLen];omega) (by simp[hcl]) (by rw[List.length_replicate,<-hcl];exact q2o c _ _ (by omega)) (by rw[hB];exact z7n hcr _)
 rw[hB] at hrow
 have hcells:madeCells z.cells (m.toNat*i.size)=((List.replicate m.toNat c).flatten).toArray:=by
  rw[hzc,i2,<-hcl];apply Array.ext';simpa using q2n c hcn m.toNat
 rw[hcells] at hrun;refine⟨.value (.slice (some ⟨w.heap.size,0,none⟩) n.toNat m.toNat),_,.slice (some ⟨w.heap.size,0,none⟩) n.toNat m.toNat,?_,.inl rfl,rfl,Pr,upd B E.length [w.heap.size],hrow.1,?_,λj hj=> ?_⟩
 ·simp[execOp,hop,zbo h (qx h hf x) hx,zbo h (qx h hf y) hy,hrun]
 ·show zx _ _ _ _ _ _ _
  simp only[appU];rw[zi0];have:=hrow.2;rw[List.length_replicate] at this;exact this
 ·simp only[appU] at hj
  rw[upd_ne (by omega)];exact hN j (by omega)
end
end Go.Dn
end

section
/- Operations, eighth part: appends, literals of slices. -/
namespace Go.Dn
section
variable {w0 : World} {Pr0 M : Nat → Prop}
variable {P : Program} {cx : Cx} {E : Env} {V : List Value} {w w' : World} {Pr : Nat → Prop} {B : Nat → List Nat} {off : Nat} {a : Act}
theorem zz9 (t ty e:TypeId)(i:TypeInfo)(z:Value)(size:Nat)(ht:P.underlying t=some (.slice e))(hi:P.info? e=some i)(hz:i.zero=some z)
 (hsize:i.size=size)(hby:i.bytes<=128)(hzs:z.cells.size=size)(hsz:0<size)
 (v:Value)(n:Nat)(xs:List Value)(hown:w.ownsRow 0 e size v n xs)
 (A:Option Addr)(m c:Nat)(news:List Value)(hl:news.length=m*size)(hA:(news=[])\/∃ad,A=some ad/\Cells w ad news)(h1:∀u∈news,u.oneCell'=true)
 (h40:n+m<=1099511627776):
 ∃v' w',(Builtin.append_ #[t,t] ty #[v,.slice A m c]).run P w=.ok v' w'/\w'.ownsRow 0 e size v' (n+m) (xs++news)/\w.grownBy w' v.ownBlock/\
  (v'.ownBlock=v.ownBlock\/v'.ownBlock=some w.heap.size):=by
 have hmax:n+m<=maxLen:=by simp only[maxLen];omega
 have hbytes:(n+m)*i.bytes<=140737488355328:=by
  calc (n+m)*i.bytes<=1099511627776*128:=Nat.mul_le_mul h40 hby
   _=140737488355328:=by decide
 have hm0:news=[]->m=0:=by
  intro h;rw[h] at hl;rcases Nat.eq_zero_or_pos m with h|h
  ·exact h
  ·have:=Nat.mul_pos h hsz;simp at hl;omega
 by_cases hAn:A=none
 ·subst hAn
  have hn:news=[]:=hA.resolve_right (by rintro⟨ad,h,_⟩;cases h);have hm:=hm0 hn;subst hn;subst hm;refine⟨v,w,?_,by simpa using hown,⟨rfl,rfl,rfl,ym0 _,λ_ _ _=>rfl⟩,.inl rfl⟩;rcases ownsRow_form hown with⟨rfl,rfl,_⟩|⟨g,cap,rfl,_,hc⟩
  ·simp[Builtin.append_,run_underlying ht,Go.sizeOf,typeInfo,hi,Builtin.lenOf,Builtin.firstCells,go_sem]
  ·simp[Builtin.append_,run_underlying ht,Go.sizeOf,typeInfo,hi,Builtin.lenOf,Builtin.firstCells,hc,go_sem]
 ·obtain⟨ad,rfl⟩:∃ad,A=some ad:=by cases A with|none=>exact absurd rfl hAn|some ad=>exact⟨ad,rfl⟩
  have hnews:∀(j:Nat) (u:Value),news[j]? =some u->w.cell? (ad.add j)=some u:=by
   rcases hA with rfl|⟨ad',h,hc⟩
   ·intro j u hu;simp at hu
   ·injection h with h;subst h;exact hc
  obtain⟨v',w',r1,r2,r3,r4⟩:=run_append_own (P:=P) w 0 t ty e i z size i.bytes ht hi hz hsize rfl hzs hsz v n xs hown ad m c news hl hnews h1 hmax hbytes (ye1 _);refine⟨v',w',r1,r2,r3,?_⟩;rcases hown.2 with⟨rfl,rfl⟩|⟨g,cap,cur,rfl,hbg,hg,hnc,hcm,hcs,htake⟩
  ·by_cases hm:m=0
   ·left;rw[r4.2 ⟨rfl,hm⟩]
   ·have hr:=run_append_nil (P:=P) w t ty e i z ht hi hz ad m c news (by rw[hsize];exact hl) hnews (by omega) (by omega) (by have hb:=hbytes;simp only[Nat.zero_add] at hb;omega)
    rw[r1] at hr;injection hr with hr1 hr2;right;rw[hr1];rfl
  ·by_cases hroom:n+m<=cap
   ·have hr:=run_append_room (P:=P) w t ty e i ht hi g n cap cur hg ad m c news (by rw[hsize];exact hl) hnews h1 hroom (by rw[hsize,hl,hcs,<-Nat.add_mul];exact Nat.mul_le_mul_right _ hroom)
    rw[r1] at hr;injection hr with hr1 hr2;left;rw[hr1];rfl
   ·have hr:=run_append_grow (P:=P) w t ty e i z ht hi hz ⟨g,0,none⟩ n cap xs (by rw[hsize];exact hown.1) (hown.cells (g:=g) rfl) ad m c news (by rw[hsize];exact hl) hnews (by omega) (by omega) (growslice_fits (by omega) hbytes)
    rw[r1] at hr;injection hr with hr1 hr2;right;rw[hr1];rfl
theorem z9p {t:Ty}{z:Value}(h4:zOk t z.cells.toList=some []):z.cells.size=t.size:=by
 obtain⟨c,hc,hr⟩:=zgj (w:=default) (Pr:=λ_=>False) h4;simp only[yz0] at hc;rw[<-hr.length,<-hc];simp
theorem z0a {o:Oper}{c:Call}{x y:Operand}{tid:TypeId}(hop:o.op=.call c)(hc:c.callee=.builtin .append)(hargs:c.args= #[x,y])(hty:c.argTypes= #[tid,tid]){v':Value}
 (hr:(Builtin.append_ #[tid,tid] o.type #[a.eval x,a.eval y]).run P w=.ok v' w'):(execOp a.eval o).run P w=.ok (.value v') w':=by
 simp[execOp,hop,resolve,hc,hargs,hty,invoke,builtin,hr]
theorem qwz (htab:ji P cx.tab){o:Oper}{c:Call}{x y:Operand}{tid e:TypeId}{t:Ty}{ow:Ow}{xs ys:List (PV t)}{us:List U}
 (hop:o.op=.call c)(hc:c.callee=.builtin .append)(hargs:c.args= #[x,y])(hty:c.argTypes= #[tid,tid])(h:StB w0 Pr0 M E V w Pr B)(hN:∀k,E.length<=k->B k=[])(hf:Fr off V a)
 (hl:lookup cx.tab tid=some (.slice e t))(hns:noSl t=true)(htk:take E (opdT cx E off tid x)=some (⟨.slice e t,.row ow,xs⟩,us))
 (hy:rd (appU E us) (opdT cx (appU E us) off tid y).s=some ⟨.slice e t,ys⟩)(hroom:qm (xs.length+ys.length)=true):
 jk w0 Pr0 M P E V w a o (.val (.slice e t) (.row ow) (xs++ys),us):=by
 obtain⟨_,hd,hfe,hsz⟩:=zd5 htab hl;obtain⟨i,z,i1,i2,i3,i4,i5⟩:=hfe.info;obtain⟨B1,g1,⟨cs,g2,g3⟩,g4,g5⟩:=zd4 h (N:=E.length) (ym0 _) (hN _ (ym0 _)) (zb1 h hf tid x) htk;obtain⟨v,xc,b',rfl,r1,r2,r3⟩:=jy.1 g3;obtain⟨A,cy,y1,y2,A',c',y3,y4,y5⟩:=zvg g1 (zb1 g1 hf tid y) hy;rw[y1] at y3;simp only[List.cons.injEq,Value.slice.injEq,and_true,true_and] at y3;obtain⟨rfl,rfl⟩:=y3
 have hnewsEx:∃news,news.length=ys.length*t.size/\((news=[])\/∃ad,A=some ad/\Cells w ad news)/\RepL (Rep w (All Pr B1) t .b) news ys []:=by
  rcases y5 with rfl|⟨ad,nc,rfl,q1,q2,q3⟩
  ·exact⟨[],by simp,.inl rfl,rfl,rfl⟩
  ·exact⟨nc,q3.length (λ_ _ _ h=>h.length),.inr ⟨ad,rfl,q2⟩,q3⟩
 obtain⟨news,n1,n2,n3⟩:=hnewsEx;have hv:a.eval x=v:=g2;obtain⟨v',w',s1,s2,s3,s4⟩:=zz9 (P:=P) tid o.type e i z t.size hd i1 i3 i2 i5 (z9p i4) (by omega) v xs.length xc r1 A ys.length cy news n1 n2 n3.one (zur hroom);have hnd:=r2.nodup_iff.1 (g1.nodup E.length);have hmem:∀k,k∈v.ownBlock.toList->k∈B1 E.length:=λk hk=>r2.mem_iff.2 (yv0 _ hk);have hmem':∀k,k∈b'->k∈B1 E.length:=λk hk=>r2.mem_iff.2 (yq0 _ hk)
 have hlt':∀k∈v'.ownBlock.toList,(k∈B1 E.length\/w.heap.size<=k)/\k<w'.heap.size:=by
  intro k hk;have hk':v'.ownBlock=some k:=by simpa using hk
  refine⟨?_,(s2.lt k hk').2⟩;rcases s4 with q|q
  ·left;exact hmem k (by rw[<-q];exact hk)
  ·right;rw[q] at hk';injection hk' with hk';omega
 have hB2:(v'.ownBlock.toList++b').Nodup:=by
  rcases s4 with q|q
  ·rw[q];exact hnd
  ·rw[q]
   refine yf1.2 ⟨by simp,(yf1.1 hnd).2.1,λx hx y hy=> ?_⟩;have hx':x=w.heap.size:=by simpa using hx
   have:=(g1.free _ _ (hmem' y hy)).2.2;omega
 have hgrow:∀b,b<w.heap.size->b∉v.ownBlock.toList->w'.heap[b]? =w.heap[b]? :=λb hb hnb=>s3.block b hb (λq=>hnb (by rw[<-q];simp))
 have hst:=g1.fresh (N:=E.length) (w':=w') (bs:=v'.ownBlock.toList++b') (by rw[g5];exact ym0 _) (λb hb=>by
  rcases yu0.1 hb with hb|hb
  ·exact hlt' b hb
  ·exact⟨.inl (hmem' b hb),yy1 (g1.free _ _ (hmem' b hb)).2.2 s3.size⟩) hB2 (λb hb hnb=>hgrow b hb (λq=>hnb (hmem b q))) s3.os s3.tape s3.output s3.size
 refine⟨.value v',w',v',?_,.inl rfl,g5,Pr,_,hst,?_,λj hj=> ?_⟩
 ·exact z0a hop hc hargs hty (by rw[hv,y1];exact s1)
 ·show zx _ _ _ _ _ _ _
  rw[g5,zi0];refine⟨[v'],rfl,jy.2 ⟨v',xc++news,b',rfl,by rw[ye0];exact s2,yh1 _,?_⟩⟩
  have hx2:RepL (Rep w' Pr t ow) xc xs b':=r3.agree (λ_ h=>h) (λk hk=>by
   rcases hk with hk|hk
   ·exact hgrow k (g1.prlt k hk) (λm=>(g1.free _ _ (hmem k m)).2.1 hk)
   ·exact hgrow k (g1.free _ _ (hmem' k hk)).2.2 (λm=>zcu hnd m hk))
  have hy2:RepL (Rep w' Pr t ow) news ys []:=n3.imp (bsA:=[]) (λc x b hb hr=>by
   have:b=[]:=List.eq_nil_iff_forall_not_mem.2 (λk hk=>by simpa using hb k hk);subst this;exact hr.plain hns) (λ_ h=>h)
  have:=hx2.append hy2
  rwa [yz0] at this
 ·rw[g5] at hj
  rw[upd_ne (by omega),g4 j (by omega) (by omega)];exact hN j (by omega)
theorem zo0 (t:Ty)(o1 o2:Ow):weaken t o1 (meet t o1 o2)=true/\weaken t o2 (meet t o1 o2)=true:=by
 have wk:∀(t:Ty) (o:Ow),weaken t o o=true:=by
  intro t
  induction t with
  |pair a b iha ihb=>intro o;simp[weaken,iha,ihb]
  |slice e t ih=>intro o;cases o<;>simp[weaken,ih]
  |_=>intro o;rfl
 unfold meet;cases h1:weaken t o1 o2 with
 |true=>exact⟨h1,wk t o2⟩
 |false=>
  cases h2:weaken t o2 o1 with
  |true=>exact⟨wk t o1,h2⟩
  |false=>exact⟨zij t o1,zij t o2⟩
theorem qw0 {v:Value}{e:TypeId}{t:Ty}{oy:Ow}{ys:List (PV t)}{bs:List Nat}(h:zx w Pr v (.slice e t) oy ys bs)(hlt:∀b∈bs,¬Pr b):
 ∃A c news b'',v=.slice A ys.length c/\news.length=ys.length*t.size/\((news=[])\/∃ad,A=some ad/\Cells w ad news/\(Pr ad.block\/ad.block∈bs))/\RepL (Rep w Pr t oy.elem) news ys b''/\
  (∀k∈b'',k∈bs)/\(bs.Nodup->b''.Nodup):=by
 obtain⟨cs,rfl,hr⟩:=h
 have bor:∀oe,bs=[]/\Bor w Pr t cs ys->oe=Ow.b->∃A c news b'',pack (.slice e t) cs=.slice A ys.length c/\news.length=ys.length*t.size/\((news=[])\/∃ad,A=some ad/\Cells w ad news/\(Pr ad.block\/ad.block∈bs))/\RepL (Rep w Pr t oe) news ys b''/\
  (∀k∈b'',k∈bs)/\(bs.Nodup->b''.Nodup):=by
  rintro oe ⟨rfl,A,c,rfl,hc,hb⟩ rfl;rcases hb with rfl|⟨ad,nc,rfl,q1,q2,q3⟩
  ·exact⟨A,c,[],[],rfl,by simp,.inl rfl,⟨rfl,rfl⟩,λ_ h=>h,λh=>h⟩
  ·exact⟨_,c,nc,[],rfl,q3.length (λ_ _ _ h=>h.length),.inr ⟨ad,rfl,q2,.inl q1⟩,q3,λ_ h=>h,λh=>h⟩
 cases oy with
 |b=>exact bor .b (za0.1 hr) rfl
 |pr p q=>exact bor .b (zby.1 hr) rfl
 |row oe=>
  obtain⟨v,yc,b',rfl,r1,r2,r3⟩:=jy.1 hr;have hm:∀k∈b',k∈bs:=λk hk=>r2.mem_iff.2 (yq0 _ hk);have hnd:bs.Nodup->b'.Nodup:=λh=>(yf1.1 (r2.nodup_iff.1 h)).2.1;rcases ownsRow_form r1 with⟨rfl,h0,rfl⟩|⟨g,c,rfl,hg,hc⟩
  ·have:ys=[]:=yt0 h0
   subst this;exact⟨none,0,[],b',rfl,by simp,.inl rfl,r3,hm,hnd⟩
  ·exact⟨_,c,yc,b',rfl,r1.1,.inr ⟨⟨g,0,none⟩,rfl,z2e r1 rfl rfl,.inr (r2.mem_iff.2 (by simp[Value.ownBlock]))⟩,r3,hm,hnd⟩
theorem qmk (htab:ji P cx.tab){o:Oper}{c:Call}{x y:Operand}{tid e:TypeId}{t:Ty}{ow oy:Ow}{xs ys:List (PV t)}{us us':List U}
 (hop:o.op=.call c)(hc:c.callee=.builtin .append)(hargs:c.args= #[x,y])(hty:c.argTypes= #[tid,tid])(h:StB w0 Pr0 M E V w Pr B)(hN:∀k,E.length<=k->B k=[])(hf:Fr off V a)
 (hl:lookup cx.tab tid=some (.slice e t))(htk:take E (opdT cx E off tid x)=some (⟨.slice e t,.row ow,xs⟩,us))
 (hy:take (appU E us) (opdT cx (appU E us) off tid y)=some (⟨.slice e t,oy,ys⟩,us'))(hroom:qm (xs.length+ys.length)=true):
 jk w0 Pr0 M P E V w a o (.val (.slice e t) (.row (meet t ow oy.elem)) (xs++ys),us++us'):=by
 obtain⟨_,hd,hfe,hsz⟩:=zd5 htab hl;obtain⟨i,z,i1,i2,i3,i4,i5⟩:=hfe.info;obtain⟨B1,g1,g23,g4,g5⟩:=zd4 h (N:=E.length) (ym0 _) (hN _ (ym0 _)) (zb1 h hf tid x) htk;have hB1:B1 (E.length+1)=[]:=by rw[g4 _ (by omega) (by omega)];exact hN _ (by omega)
 obtain⟨B2,k1,k2,k4,k5⟩:=zd4 g1 (N:=E.length+1) (by rw[g5];omega) hB1 (zb1 g1 hf tid y) hy;have hB2:B2 E.length=B1 E.length:=k4 _ (by rw[g5];exact ym0 _) (by omega);have hlen:(appU E (us++us')).length=E.length:=by rw[ze3,k5,g5]
 obtain⟨cs,g2,g3⟩:=g23;obtain⟨v,xc,b',rfl,r1,r2,r3⟩:=jy.1 g3;have hv:a.eval x=v:=g2;have hfr1:∀b∈B2 E.length,b<w.heap.size:=λb hb=>(k1.free _ _ hb).2.2;obtain⟨A,cy,news,b'',y1,n1,n2,n3,n4,n5⟩:=qw0 k2 (λb hb=>(k1.free _ _ hb).2.1);obtain⟨p1,q1,e1,w1⟩:=zjm (o2:=meet t ow oy.elem) (λ_ _ _ hr=>hr.weaken (zo0 t ow oy.elem).1) r3;obtain⟨p2,q2,e2,w2⟩:=zjm (o2:=meet t ow oy.elem) (λ_ _ _ hr=>hr.weaken (zo0 t ow oy.elem).2) n3
 obtain⟨v',w',s1,s2,s3,s4⟩:=zz9 (P:=P) tid o.type e i z t.size hd i1 i3 i2 i5 (z9p i4) (by omega) v xs.length xc r1 A ys.length cy news n1
  (n2.imp id (λ⟨ad,q1,q2,_⟩=>⟨ad,q1,q2⟩)) n3.one (zur hroom)
 rw[<-hB2] at r2;have hnd:=r2.nodup_iff.1 (k1.nodup E.length);have mv:∀k,k∈v.ownBlock.toList->k∈B2 E.length:=λk hk=>r2.mem_iff.2 (yv0 _ hk);have mb:∀k,k∈b'->k∈B2 E.length:=λk hk=>r2.mem_iff.2 (yq0 _ hk);have m1:∀k,k∈p1->k∈B2 E.length:=λk hk=>mb k (e1.mem_iff.2 (yv0 _ hk));have m1':∀k,k∈q1->k∈B2 E.length:=λk hk=>mb k (e1.mem_iff.2 (yq0 _ hk));have m2:∀k,k∈p2->k∈B2 (E.length+1):=λk hk=>n4 k (e2.mem_iff.2 (yv0 _ hk));have m2':∀k,k∈q2->k∈B2 (E.length+1):=λk hk=>n4 k (e2.mem_iff.2 (yq0 _ hk));have hdis:∀k,k∈B2 E.length->k∉B2 (E.length+1):=λk=>k1.disj _ _ (by omega) k;have hnd1:=e1.nodup_iff.1 (yf1.1 hnd).2.1;have hnd2:=e2.nodup_iff.1 (n5 (k1.nodup _));have hgrow:∀b,b<w.heap.size->b∉v.ownBlock.toList->w'.heap[b]? =w.heap[b]? :=λb hb hnb=>s3.block b hb (λq=>hnb (by rw[<-q];simp))
 have hown':∀k∈v'.ownBlock.toList,(k∈v.ownBlock.toList\/k=w.heap.size)/\k<w'.heap.size:=by
  intro k hk;have hk':v'.ownBlock=some k:=by simpa using hk
  refine⟨?_,(s2.lt k hk').2⟩;rcases s4 with q|q
  ·left;rw[<-q];exact hk
  ·right;rw[q] at hk';injection hk' with hk';exact hk'.symm
 have hvb:∀k,k∈v.ownBlock.toList->k∉b':=λk hk=>zcu hnd hk;have lenE:(appU (appU E us) us').length=E.length:=by rw[k5,g5]
 let B3:Nat->List Nat:=λj=>if j=E.length then v'.ownBlock.toList++(p1++p2) else if E.length<=j then[] else B2 j
 have hB3N:B3 E.length=v'.ownBlock.toList++(p1++p2):=by simp[B3]
 have hB3o:∀j,E.length<=j->j≠E.length->B3 j=[]:=λj h1 h2=>by simp[B3,h1,h2]
 have pool:∀b,b∈v'.ownBlock.toList++(p1++p2)->((b∈B2 E.length\/b∈B2 (E.length+1))\/w.heap.size<=b)/\b<w'.heap.size:=by
  intro b hb;rcases yu0.1 hb with hb|hb
  ·obtain⟨hb1,hb2⟩:=hown' b hb
   exact⟨hb1.elim (λq=>.inl (.inl (mv b q))) (λq=>.inr (by omega)),hb2⟩
  ·rcases yu0.1 hb with hb|hb
   ·exact⟨.inl (.inl (m1 b hb)),yy1 (k1.free _ _ (m1 b hb)).2.2 s3.size⟩
   ·exact⟨.inl (.inr (m2 b hb)),yy1 (k1.free _ _ (m2 b hb)).2.2 s3.size⟩
 have hst:=k1.hand (w':=w') (Pr':=λk=>Pr k\/k∈q1\/k∈q2) (B':=B3) (λk hk=>by rw[lenE] at hk;have:k≠E.length:=by omega
                                                                            have:¬E.length<=k:=by omega
                                                                            simp[B3, *]) (λk hk b hb=>by
  rw[lenE] at hk;by_cases hkN:k=E.length
  ·subst hkN
   rw[hB3N] at hb;obtain⟨c1,c2⟩:=pool b hb;refine⟨c1.imp (λq=> ?_) id,c2⟩;rcases q with q|q
   ·exact⟨_,by rw[lenE];exact ym0 _,q⟩
   ·exact⟨_,by rw[lenE];omega,q⟩
  ·rw[hB3o k hk hkN] at hb;cases hb) (λ_ h=>.inl h) (λb hb=>by
  rcases hb with hb|hb
  ·exact .inl hb
  ·right
   have hpool:∃k',(appU (appU E us) us').length<=k'/\b∈B2 k':=by
    rcases hb with hb|hb
    ·exact⟨_,by rw[lenE];exact ym0 _,m1' b hb⟩
    ·exact⟨_,by rw[lenE];omega,m2' b hb⟩
   obtain⟨k',hk',hbk'⟩:=hpool;have hbl:=(k1.free _ _ hbk').2.2;refine⟨.inl ⟨k',hk',hbk'⟩,yy1 hbl s3.size,λk hk hm=> ?_⟩;rw[lenE] at hk;by_cases hkN:k=E.length
   ·subst hkN
    rw[hB3N] at hm;rcases yu0.1 hm with hm|hm
    ·rcases(hown' b hm).1 with q|q
     ·rcases hb with hb|hb
      ·exact hvb b q (e1.mem_iff.2 (yq0 _ hb))
      ·exact hdis b (mv b q) (m2' b hb)
     ·omega
    ·rcases yu0.1 hm with hm|hm
     ·rcases hb with hb|hb
      ·exact zcu hnd1 hm hb
      ·exact hdis b (m1 b hm) (m2' b hb)
     ·rcases hb with hb|hb
      ·exact hdis b (m1' b hb) (m2 b hm)
      ·exact zcu hnd2 hm hb
   ·rw[hB3o k hk hkN] at hm;cases hm) (λk hk=>by
  rw[lenE] at hk;by_cases hkN:k=E.length
  ·subst hkN
   rw[hB3N];refine yf1.2 ⟨by cases v'.ownBlock<;>simp,yf1.2 ⟨(yf1.1 hnd1).1,(yf1.1 hnd2).1,λx hx y hy hxy=>hdis x (m1 x hx) (hxy▸m2 y hy)⟩,λx hx y hy hxy=> ?_⟩;subst hxy;rcases(hown' x hx).1 with q|q
   ·rcases yu0.1 hy with hy|hy
    ·exact hvb x q (e1.mem_iff.2 (yv0 _ hy))
    ·exact hdis x (mv x q) (m2 x hy)
   ·rcases yu0.1 hy with hy|hy
    ·have:=(k1.free _ _ (m1 x hy)).2.2;omega
    ·have:=(k1.free _ _ (m2 x hy)).2.2;omega
  ·rw[hB3o k hk hkN];exact List.nodup_nil) (λj k hj hk hne b hb hbk=>by
  rw[lenE] at hj hk;by_cases hjN:j=E.length
  ·by_cases hkN:k=E.length
   ·exact hne (hjN.trans hkN.symm)
   ·rw[hB3o k hk hkN] at hbk;cases hbk
  ·rw[hB3o j hj hjN] at hb;cases hb) (λb hb hnb=>hgrow b hb (λq=>hnb E.length (by rw[lenE];exact ym0 _) (mv b q))) s3.os s3.tape s3.output s3.size
 have hag:∀k,(Pr k\/k∈q1\/k∈q2)\/k∈p1\/k∈p2->w'.heap[k]? =w.heap[k]? :=by
  intro k hk
  have:k<w.heap.size/\k∉v.ownBlock.toList:=by
   rcases hk with(hk|hk|hk)|hk|hk
   ·exact⟨k1.prlt k hk,λq=>(k1.free _ _ (mv k q)).2.1 hk⟩
   ·exact⟨(k1.free _ _ (m1' k hk)).2.2,λq=>hvb k q (e1.mem_iff.2 (yq0 _ hk))⟩
   ·exact⟨(k1.free _ _ (m2' k hk)).2.2,λq=>hdis k (mv k q) (m2' k hk)⟩
   ·exact⟨(k1.free _ _ (m1 k hk)).2.2,λq=>hvb k q (e1.mem_iff.2 (yv0 _ hk))⟩
   ·exact⟨(k1.free _ _ (m2 k hk)).2.2,λq=>hdis k (mv k q) (m2 k hk)⟩
  exact hgrow k this.1 this.2
 refine⟨.value v',w',v',z0a hop hc hargs hty (by rw[hv,y1];exact s1),.inl rfl,hlen,λk=>Pr k\/k∈q1\/k∈q2,B3,by rw[ze3];exact hst,?_,λj hj=> ?_⟩
 ·show zx _ _ _ _ _ _ _
  rw[hlen,hB3N];refine⟨[v'],rfl,jy.2 ⟨v',xc++news,p1++p2,rfl,by rw[ye0];exact s2,yh1 _,?_⟩⟩;refine RepL.append ?_ ?_
  ·exact w1.agree (Pr':=λk=>Pr k\/k∈q1\/k∈q2) (λk hk=>hk.imp id .inl) (λk hk=>hag k (by
    rcases hk with(hk|hk)|hk
    ·exact .inl (.inl hk)
    ·exact .inl (.inr (.inl hk))
    ·exact .inr (.inl hk)))
  ·exact w2.agree (Pr':=λk=>Pr k\/k∈q1\/k∈q2) (λk hk=>hk.imp id .inr) (λk hk=>hag k (by
    rcases hk with(hk|hk)|hk
    ·exact .inl (.inl hk)
    ·exact .inl (.inr (.inr hk))
    ·exact .inr (.inr hk)))
 ·rw[hlen] at hj
  exact hB3o j (by omega) (by omega)
end
end Go.Dn
end

section
/- Operations, ninth part: literals. -/
namespace Go.Dn
section
variable {w0 : World} {Pr0 M : Nat → Prop}
variable {P : Program} {cx : Cx} {E : Env} {V : List Value} {w w' : World} {Pr : Nat → Prop} {B : Nat → List Nat} {off : Nat} {a : Act}
theorem zwa (h:StB w0 Pr0 M E V w Pr B)(hf:Fr off V a)(t:Ty)(x:Operand):jv w Pr E V (opdY E off t x) (a.eval x):=by
 unfold opdY;split
 ·split
  ·exact⟨[.slice none 0 0],rfl,jy.2 ⟨.slice none 0 0,[],[],rfl,World.ownsRow_nil _ _ _ _,by simp[Value.ownBlock],rfl,rfl⟩⟩
  ·trivial
 ·exact qx h hf x
def AllH (w:World)(Pr:Nat->Prop)(B:Nat->List Nat):Nat->List TV->List Value->Prop
 |_,[],[]=>True
 |N,tv::tvs,v::vs=>zx w Pr v tv.t tv.o tv.x (B N)/\AllH w Pr B (N+1) tvs vs
 |_,_,_=>False
theorem AllH.congr {B':Nat->List Nat}:∀{N:Nat} {tvs:List TV} {vs:List Value},(∀k,N<=k->B' k=B k)->AllH w Pr B N tvs vs->AllH w Pr B' N tvs vs
 |_,[],[],_,h=>h
 |N,tv::tvs,v::vs,hB,h=>⟨by rw[hB N (ym0 _)];exact h.1,AllH.congr (λk hk=>hB k (by omega)) h.2⟩
 |_,[],_::_,_,h=>h.elim
 |_,_::_,[],_,h=>h.elim
theorem AllH.length:∀{N:Nat} {tvs:List TV} {vs:List Value},AllH w Pr B N tvs vs->tvs.length=vs.length
 |_,[],[],_=>rfl
 |_,_::_,_::_,h=>by simp[AllH.length h.2]
 |_,[],_::_,h=>h.elim
 |_,_::_,[],h=>h.elim
theorem zvk (hf:Fr off V a):∀{l:List (Ty×Operand)} {E:Env} {B:Nat->List Nat} {N:Nat} {tvs:List TV} {us:List U},StB w0 Pr0 M E V w Pr B->E.length<=N->(∀k,N<=k->B k=[])->
 zce off E l=some (tvs,us)->∃B1,StB w0 Pr0 M (appU E us) V w Pr B1/\(appU E us).length=E.length/\AllH w Pr B1 N tvs (l.map λq=>a.eval q.2)/\
  (∀k,E.length<=k->k<N->B1 k=B k)/\(∀k,N+tvs.length<=k->B1 k=[])
 |[],E,B,N,tvs,us,h,hN,hB,ht=>by
  simp only[zce,yn0,ya1] at ht;obtain⟨rfl,rfl⟩:=ht;exact⟨B,h,rfl,trivial,λ_ _ _=>rfl,λk hk=>hB k (by simpa using hk)⟩
 |(t,x)::l,E,B,N,tvs,us,h,hN,hB,ht=>by
  simp only[zce] at ht;split at ht
  ·cases ht
  ·rename_i tv us1 ht1
   split at ht
   ·cases ht
   ·rename_i tvs' us2 ht2
    simp only[yn0,ya1] at ht;obtain⟨rfl,rfl⟩:=ht;obtain⟨B1,g1,g2,g3,g4⟩:=zd4 h hN (hB N (ym0 _)) (zwa h hf t x) ht1;obtain⟨B2,k1,k2,k3,k4,k5⟩:=zvk hf (N:=N+1) g1 (by omega) (λk hk=>by rw[g3 k (by omega) (by omega)];exact hB k (by omega)) ht2;refine⟨B2,by rw[ze3];exact k1,by rw[ze3,k2,g4],⟨?_,k3⟩,λk hk hkN=> ?_,λk hk=>k5 k (by simp at hk;omega)⟩
    ·rw[k4 N (by omega) (by omega)];exact g2
    ·rw[k4 k (by omega) (by omega),g3 k hk (by omega)]
theorem StB.merge (h:StB w0 Pr0 M E V w Pr B){bs q:List Nat}(hm:∀b∈bs++q,∃k,E.length<=k/\b∈B k)(hn:(bs++q).Nodup):
 StB w0 Pr0 M E V w (λk=>Pr k\/k∈q) (λj=>if j=E.length then bs else if E.length<=j then[] else B j):=by
 refine h.hand (λk hk=> ?_) (λk hk b hb=> ?_) (λ_ h=>.inl h) (λb hb=> ?_) (λk hk=> ?_) (λj k hj hk hne b hb hbk=> ?_) (λ_ _ _=>rfl) rfl rfl rfl (ym0 _)
 ·have h1:k≠E.length:=by omega
  have h2:¬E.length<=k:=by omega
  simp[h1,h2]
 ·by_cases hkN:k=E.length
  ·subst hkN
   simp only[if_true] at hb;obtain⟨k',h1,h2⟩:=hm b (yv0 _ hb);exact⟨.inl ⟨k',h1,h2⟩,(h.free _ _ h2).2.2⟩
  ·simp[hkN,hk] at hb
 ·rcases hb with hb|hb
  ·exact .inl hb
  ·obtain⟨k',h1,h2⟩:=hm b (yq0 _ hb)
   refine .inr ⟨.inl ⟨k',h1,h2⟩,(h.free _ _ h2).2.2,λk hk hbk=> ?_⟩;by_cases hkN:k=E.length
   ·subst hkN
    simp only[if_true] at hbk;exact zcu hn hbk hb
   ·simp[hkN,hk] at hbk
 ·by_cases hkN:k=E.length
  ·subst hkN;simp only[if_true];exact(yf1.1 hn).1
  ·simp[hkN,hk]
 ·by_cases hjN:j=E.length
  ·by_cases hkN:k=E.length
   ·exact hne (hjN.trans hkN.symm)
   ·simp[hkN,hk] at hbk
  ·simp[hjN,hj] at hb
theorem zx.cells {v:Value}{t:Ty}{o:Ow}{x:PV t}{bs:List Nat}(h:zx w Pr v t o x bs):v.cells.toList.length=t.size/\Rep w Pr t o v.cells.toList x bs:=by
 obtain⟨cs,rfl,hr⟩:=h;rw[pack_cells hr];exact⟨hr.length,hr⟩
theorem q9j {p1 q1 p2 q2 b1:List Nat}(e1:b1.Perm (p1++q1))(h1:b1.Nodup)(h2:(p2++q2).Nodup)(hd:∀k,k∈b1->k∉p2++q2):((p1++p2)++(q1++q2)).Nodup:=by
 have e:((p1++p2)++(q1++q2)).Perm ((p1++q1)++(p2++q2)):=by
  rw[yj0,yj0];refine List.Perm.append_left _ ?_;rw[<-yj0,<-yj0];exact List.perm_append_comm.append_right _
 refine e.nodup_iff.2 (yf1.2 ⟨e1.nodup_iff.1 h1,h2,λx hx y hy hxy=> ?_⟩);exact hd x (e1.mem_iff.2 hx) (hxy▸hy)
theorem qbt (h:StB w0 Pr0 M E V w Pr B){t:Ty}:∀{tvs:List TV} {vs:List Value} {N:Nat} {o:Ow} {xs:List (PV t)},AllH w Pr B N tvs vs->elems t tvs=some (o,xs)->
 ∃bs q,RepL (Rep w (λk=>Pr k\/k∈q) t o) (vs.flatMap λv=>v.cells.toList) xs bs/\(∀b∈bs++q,∃k,N<=k/\b∈B k)/\(bs++q).Nodup/\(∀v∈vs,v.cells.size=t.size)/\xs.length=vs.length
 |[],[],N,o,xs,_,he=>by
  simp only[elems,yn0,ya1] at he;obtain⟨rfl,rfl⟩:=he;exact⟨[],[],⟨rfl,rfl⟩,by simp,by simp,by simp,rfl⟩
 |tv::tvs,v::vs,N,o,xs,ha,he=>by
  simp only[elems] at he;split at he
  ·rename_i x o2 xs2 hc he2
   simp only[yn0,ya1] at he;obtain⟨rfl,rfl⟩:=he;obtain⟨bs,q,g1,g2,g3,g4,g5⟩:=qbt h ha.2 he2;obtain⟨ht,hx⟩:=zas hc;obtain⟨T,O,X⟩:=tv;simp only at ht hx;subst ht;subst hx;obtain⟨hl,hr⟩:=zx.cells ha.1;obtain⟨p1,q1,e1,w1⟩:=hr.weaken (zo0 T O o2).1;obtain⟨p2,q2,e2,w2⟩:=zjm (o2:=meet T O o2) (λ_ _ _ hr=>hr.weaken (zo0 T O o2).2) g1
   have hdis:∀k,k∈B N->k∉bs++q:=λk hk hkb=>by
    obtain⟨k',h1,h2⟩:=g2 k hkb;exact h.disj N k' (by omega) k hk h2
   have e2':(bs++q).Perm (p2++(q2++q)):=by rw[<-yj0];exact e2.append_right _
   have hnd2:(p2++(q2++q)).Nodup:=e2'.nodup_iff.1 g3;refine⟨p1++p2,q1++(q2++q),⟨v.cells.toList,vs.flatMap λv=>v.cells.toList,p1,p2,by simp,yh1 _,?_,?_⟩,?_,?_,?_,by simp[g5]⟩
   ·exact w1.more (λk hk=>hk.imp id λm=>yv0 _ m)
   ·exact w2.more (λk hk=>by
     rcases hk with(hk|hk)|hk
     ·exact .inl hk
     ·exact .inr (yq0 _ (yq0 _ hk))
     ·exact .inr (yq0 _ (yv0 _ hk)))
   ·intro b hb
    have:b∈B N\/b∈bs++q:=by
     rcases yu0.1 hb with hb|hb
     ·rcases yu0.1 hb with hb|hb
      ·exact .inl (e1.mem_iff.2 (yv0 _ hb))
      ·exact .inr (e2'.mem_iff.2 (yv0 _ hb))
     ·rcases yu0.1 hb with hb|hb
      ·exact .inl (e1.mem_iff.2 (yq0 _ hb))
      ·exact .inr (e2'.mem_iff.2 (yq0 _ hb))
    rcases this with hb|hb
    ·exact⟨N,ym0 _,hb⟩
    ·obtain⟨k,h1,h2⟩:=g2 b hb;exact⟨k,by omega,h2⟩
   ·exact q9j e1 (h.nodup N) hnd2 (λk hk hkp=>hdis k hk (e2'.mem_iff.2 hkp))
   ·intro u hu
    rcases yg1.1 hu with rfl|hu
    ·have:=hl;simpa using this
    ·exact g4 u hu
  ·cases he
 |[],_::_,_,_,_,h,_=>h.elim
 |_::_,[],_,_,_,h,_=>h.elim
theorem z9q {α:Type}:∀(l:List α) (s:Nat),(List.range' s l.length).zip l=(l.zipIdx s).map λx=>(x.2,x.1)
 |[],_=>rfl
 |x::l,s=>by simp[List.range'_succ,z9q l (s+1)]
theorem qml (htab:ji P cx.tab){o:Oper}{tid e:TypeId}{t:Ty}{n:Nat}{ps:Array (Nat×Operand)}{tvs:List TV}{us:List U}{ow:Ow}{xs:List (PV t)}(hop:o.op=.buildSlice tid n ps)(h:StB w0 Pr0 M E V w Pr B)
 (hN:∀k,E.length<=k->B k=[])(hf:Fr off V a)(hl:lookup cx.tab tid=some (.slice e t))(h1:ps.size=n)(h2:List.range n=ps.toList.map (·.1))(h3:n*t.size<=65536)
 (ht:zce off E (ps.toList.map λq=>(t,q.2))=some (tvs,us))(he:elems t tvs=some (ow,xs)):jk w0 Pr0 M P E V w a o (.val (.slice e t) (.row ow) xs,us):=by
 obtain⟨_,hd,hfe,hsz⟩:=zd5 htab hl;obtain⟨i,z,i1,i2,i3,i4,i5⟩:=hfe.info;obtain⟨B1,g1,g2,g3,_,g5⟩:=zvk hf h (ym0 _) hN ht;obtain⟨bs,q,k1,k2,k3,k4,k5⟩:=qbt g1 g3 he;have hvl:(ps.toList.map (λq=>(t,q.2)) |>.map λq=>a.eval q.2)=ps.toList.map λq=>a.eval q.2:=by rw[List.map_map];rfl
 rw[hvl] at k1 k4 k5;have hm:=g1.merge (bs:=bs) (q:=q) (λb hb=>by rw[g2];exact k2 b hb) k3;rw[g2] at hm;have hlen:xs.length=n:=by rw[k5];simp[h1]
 have hrowcells:∀(c:List Value) (x:PV t) (b:List Nat),Rep w (λk=>Pr k\/k∈q) t ow c x b->c.length=t.size:=λ_ _ _ h=>h.length
 have hrow:=qbs (w:=w) (e:=e) (t:=t) (oe:=ow) hm (N:=E.length) (by rw[g2];exact ym0 _) (cur:=(ps.toList.map λq=>a.eval q.2).flatMap λv=>v.cells.toList) (cap:=n) (xs:=xs)
  (ys:=(ps.toList.map λq=>a.eval q.2).flatMap λv=>v.cells.toList) (by omega) (by
    have:n*1<=n*t.size:=Nat.mul_le_mul_left _ (by omega);simp only[maxLen];omega) (by rw[k1.length hrowcells,hlen]) (by rw[yv2];rw[k1.length hrowcells];exact ym0 _) (by simpa using k1)
 simp only[if_true] at hrow;rw[hlen] at hrow;refine⟨.value (.slice (some ⟨w.heap.size,0,none⟩) n n),w.alloc (.cells ((ps.toList.map λq=>a.eval q.2).flatMap λv=>v.cells.toList).toArray e),.slice (some ⟨w.heap.size,0,none⟩) n n,?_,.inl rfl,g2,_,_,hrow.1,?_,λj hj=> ?_⟩
 ·
  have hrun:(Instr.buildSlice tid n (ps.map λ(i,x)=>(i,a.eval x))).run P w=.ok (.slice (some ⟨w.heap.size,0,none⟩) n n) (w.alloc (.cells ((ps.toList.map λq=>a.eval q.2).flatMap λv=>v.cells.toList).toArray e)):=by
   by_cases hn0:n=0
   ·subst hn0
    have hps:ps= #[]:=Array.eq_empty_of_size_eq_zero h1;subst hps;simp[Instr.buildSlice,run_underlying hd,run_sizeOf hfe,Instr.fill,newRow,go_sem]
   ·refine run_buildSlice w tid e n _ _ i z hd i1 i3 (by rw[i2];omega) (by
     rw[i2];intro hz;rcases Nat.mul_eq_zero.1 hz with hz|hz
     ·exact hn0 hz
     ·exact hsz hz) ?_
    have hparts:(ps.map λ(i,x)=>(i,a.eval x)).toList=((ps.toList.map λq=>a.eval q.2).zipIdx 0).map λx=>(x.2,x.1):=by
     rw[<-z9q];rw[show(ps.toList.map λq=>a.eval q.2).length=n by simp[h1],<-List.range_eq_range',h2];rw[Array.toList_map,List.zip_map',]
    rw[hparts,i2];refine Great.fill_whole (by omega) _ _ (λv hv=> ?_) ?_
    ·exact k4 v hv
    ·simp[h1]
  simp only[execOp,hop,Sem.run_bind,hrun,Result.andThen_ok];rfl
 ·show zx _ _ _ _ _ _ _
  rw[g2,zi0];exact hrow.2
 ·rw[g2] at hj
  rw[upd_ne (by omega)];have h1:j≠E.length:=by omega
  have h2:E.length<=j:=by omega
  simp[h1,h2]
end
end Go.Dn
end

section
/- Operations, tenth part: structs and arrays; conversions. -/
namespace Go.Dn
section
variable {w0 : World} {Pr0 M : Nat → Prop}
variable {P : Program} {cx : Cx} {E : Env} {V : List Value} {w w' : World} {Pr : Nat → Prop} {B : Nat → List Nat} {off : Nat} {a : Act}
theorem q2p {place:Nat->Option (Nat×Nat)}{cells:Array Value}{n o s:Nat}{v:Value}{rest:List (Nat×Value)}(hp:place n=some (o,s))(hv:v.cells.size=s){pre mid post:List Value}
 (hc:cells.toList=pre++mid++post)(hpre:pre.length=o)(hmid:mid.length=s):
 Instr.fill place cells ((n,v)::rest)=Instr.fill place (pre++v.cells.toList++post).toArray rest:=by
 have hsz:cells.size=o+s+post.length:=by rw[<-Array.length_toList,hc];simp[hpre,hmid];omega
 conv=>lhs;unfold Instr.fill
 simp only[hp];rw[yw0 (by simp only[yq1,yr0];omega)];congr 1;obtain⟨g1,g2⟩:=Great.foldl_set o v.cells.toList 0 cells
 have:(v.cells.zipIdx.foldl (λcs (x:Value×Nat)=>cs.setIfInBounds (o+x.2) x.1) cells)=((v.cells.toList.zipIdx 0).foldl (λcs (x:Value×Nat)=>cs.setIfInBounds (o+x.2) x.1) cells):=by
  rw[<-Array.foldl_toList];congr 1;simp
 rw[this];apply Array.ext_getElem?;intro k;rw[g2 k];have hvl:v.cells.toList.length=s:=by simpa using hv
 simp only[Nat.add_zero,List.getElem?_toArray];by_cases h1:k<o
 ·rw[yw0 (by omega),yj0,yz1 (by omega),<-yl2,hc,yj0,yz1 (by omega)]
 ·by_cases h2:k<o+s
  ·rw[yx0 (by omega),yj0,ya2 (by omega),yz1 (by omega),hpre]
  ·rw[yw0 (by omega),ya2 (by simp;omega),<-yl2,hc,ya2 (by simp;omega)]
   congr 1;simp only[ye0,hmid,hvl]
theorem zq7 (h:StB w0 Pr0 M E V w Pr B){place:Nat->Option (Nat×Nat)}:∀{t:Ty} {n N o0:Nat} {ps:List (Nat×TV)} {vs:List Value} {o:Ow} {x:PV t} {cells:Array Value} {pre zc:List Value},
 (∀j,getT (qc j) t≠.unit->place (n+j)=some (o0+xg (qc j) t,(getT (qc j) t).size))->(∀a b,t=.pair a b->a≠.unit)->(∀j a b,getT (List.replicate j .r) t=.pair a b->a≠.unit)->
 AllH w Pr B N (ps.map (·.2)) vs->asm t n ps=some (o,x)->cells.toList=pre++zc->pre.length=o0->zOk t zc=some []->
 ∃new bs q,Instr.fill place cells ((ps.map (·.1)).zip vs)=some (pre++new).toArray/\Rep w (λk=>Pr k\/k∈q) t o new x bs/\(∀b∈bs++q,∃k,N<=k/\b∈B k)/\(bs++q).Nodup
 | .unit,n,N,o0,[],[],o,x,cells,pre,zc,hp,_,_,ha,hs,hc,hpre,hz=>by
   simp only[asm,yn0,ya1] at hs;obtain⟨rfl,_⟩:=hs;simp only[zOk,yn0] at hz;subst hz;refine⟨[],[],[],?_,⟨rfl,rfl⟩,by simp,by simp⟩;show Instr.fill place cells []=_;unfold Instr.fill;rw[<-hc]
 | .pair ta tb,n,N,o0,(i,tv)::ps,v::vs,o,x,cells,pre,zc,hp,hu,hu2,ha,hs,hc,hpre,hz=>by
   simp only[zOk,yo2] at hz;obtain⟨r1,z1,z2⟩:=hz;obtain⟨za,rfl,ra⟩:=zgj (w:=w) (Pr:=Pr) z1;have hau:=hu ta tb rfl;have hub:∀a b,tb=.pair a b->a≠.unit:=λa b hab=>hu2 1 a b (by show getT [] tb=_;exact hab);have hub2:∀j a b,getT (List.replicate j .r) tb=.pair a b->a≠.unit:=λj a b hab=>hu2 (j+1) a b (by rw[List.replicate_succ];exact hab)
   have hpb:∀j,getT (qc j) tb≠.unit->place (n+1+j)=some (o0+ta.size+xg (qc j) tb,(getT (qc j) tb).size):=λj hj=>by
    have:=hp (j+1) hj;rw[show n+1+j=n+(j+1) by omega,this];congr 2;show o0+(ta.size+_)=_;omega
   simp only[asm] at hs;cases hin:(i==n) with
   |true=>
    rw[hin] at hs;simp only[yb0] at hs;obtain rfl:=yy0.1 hin;split at hs
    ·rename_i y o2 z hcast hrest
     simp only[yn0,ya1] at hs;obtain⟨rfl,rfl⟩:=hs;obtain⟨ht,hx⟩:=zas hcast;obtain⟨T,O,X⟩:=tv;simp only at ht hx;subst ht;subst hx;obtain⟨hl,hr⟩:=zx.cells ha.1;have hl':v.cells.size=T.size:=by simpa using hl
     have hf:=q2p (rest:=(ps.map (·.1)).zip vs) (place:=place) (cells:=cells) (n:=i) (o:=o0) (s:=T.size) (v:=v) (pre:=pre) (mid:=za) (post:=r1) (by
      have:=hp 0 (by exact hau);simpa[qc,xg,getT] using this) hl' (by rw[hc,yj0]) hpre ra.length
     obtain⟨new,bs,q,k1,k2,k3,k4⟩:=zq7 h (t:=tb) (n:=i+1) (N:=N+1) (o0:=o0+T.size) (ps:=ps) (vs:=vs) (cells:=(pre++v.cells.toList++r1).toArray) (pre:=pre++v.cells.toList) (zc:=r1)
      hpb hub hub2 ha.2 hrest (by simp) (by simp[hpre,hl']) z2
     have hdis:∀k,k∈B N->k∉bs++q:=λk hk hkb=>by
      obtain⟨k',h1,h2⟩:=k3 k hkb;exact h.disj N k' (by omega) k hk h2
     refine⟨v.cells.toList++new,B N++bs,q,?_,⟨v.cells.toList,new,B N,bs,rfl,yh1 _,hr.more (λk hk=>.inl hk),k2⟩,?_,?_⟩
     ·show Instr.fill place cells ((i,v)::(ps.map (·.1)).zip vs)=_
      rw[hf,k1,yj0]
     ·intro b hb
      rw[yj0] at hb;rcases yu0.1 hb with hb|hb
      ·exact⟨N,ym0 _,hb⟩
      ·obtain⟨k,h1,h2⟩:=k3 b hb;exact⟨k,by omega,h2⟩
     ·rw[yj0]
      exact yf1.2 ⟨h.nodup N,k4,λx hx y hy hxy=>hdis x hx (hxy▸hy)⟩
    ·cases hs
   |false=>
    rw[hin] at hs;simp only[yd0] at hs;split at hs
    ·rename_i o2 z hrest
     simp only[yn0,ya1] at hs;obtain⟨rfl,rfl⟩:=hs
     obtain⟨new,bs,q,k1,k2,k3,k4⟩:=zq7 h (t:=tb) (n:=n+1) (N:=N) (o0:=o0+ta.size) (ps:=(i,tv)::ps) (vs:=v::vs) (cells:=cells) (pre:=pre++za) (zc:=r1)
      hpb hub hub2 ha hrest (by rw[hc,yj0]) (by rw[ye0,hpre,ra.length]) z2
     exact⟨za++new,bs,q,by rw[k1,yj0],⟨za,new,[],bs,rfl,by simp,ra.more (λk hk=>.inl hk),k2⟩,k3,k4⟩
    ·cases hs
 | .pair ta tb,n,N,o0,[],[],o,x,cells,pre,zc,hp,hu,hu2,ha,hs,hc,hpre,hz=>by
   simp only[zOk,yo2] at hz;obtain⟨r1,z1,z2⟩:=hz;obtain⟨za,rfl,ra⟩:=zgj (w:=w) (Pr:=Pr) z1;have hub:∀a b,tb=.pair a b->a≠.unit:=λa b hab=>hu2 1 a b (by show getT [] tb=_;exact hab);have hub2:∀j a b,getT (List.replicate j .r) tb=.pair a b->a≠.unit:=λj a b hab=>hu2 (j+1) a b (by rw[List.replicate_succ];exact hab)
   have hpb:∀j,getT (qc j) tb≠.unit->place (n+1+j)=some (o0+ta.size+xg (qc j) tb,(getT (qc j) tb).size):=λj hj=>by
    have:=hp (j+1) hj;rw[show n+1+j=n+(j+1) by omega,this];congr 2;show o0+(ta.size+_)=_;omega
   simp only[asm] at hs;split at hs
   ·rename_i o2 z hrest
    simp only[yn0,ya1] at hs;obtain⟨rfl,rfl⟩:=hs
    obtain⟨new,bs,q,k1,k2,k3,k4⟩:=zq7 h (t:=tb) (n:=n+1) (N:=N) (o0:=o0+ta.size) (ps:=[]) (vs:=[]) (cells:=cells) (pre:=pre++za) (zc:=r1)
     hpb hub hub2 ha hrest (by rw[hc,yj0]) (by rw[ye0,hpre,ra.length]) z2
    exact⟨za++new,bs,q,by rw[k1,yj0],⟨za,new,[],bs,rfl,by simp,ra.more (λk hk=>.inl hk),k2⟩,k3,k4⟩
   ·cases hs
 | .unit,_,_,_,_::_,_,_,_,_,_,_,_,_,_,_,hs,_,_,_=>by simp[asm] at hs
 | .unit,_,_,_,[],_::_,_,_,_,_,_,_,_,_,ha,_,_,_,_=>ha.elim
 | .pair _ _,_,_,_,_::_,[],_,_,_,_,_,_,_,_,ha,_,_,_,_=>ha.elim
 | .pair _ _,_,_,_,[],_::_,_,_,_,_,_,_,_,_,ha,_,_,_,_=>ha.elim
 | .int _,_,_,_,_,_,_,_,_,_,_,_,_,_,_,hs,_,_,_| .bool,_,_,_,_,_,_,_,_,_,_,_,_,_,_,hs,_,_,_| .str,_,_,_,_,_,_,_,_,_,_,_,_,_,_,hs,_,_,_
 | .slice _ _,_,_,_,_,_,_,_,_,_,_,_,_,_,_,hs,_,_,_=>by simp[asm] at hs
theorem z9r (htab:ji P cx.tab):∀{fs:List Field} {o:Nat} {t:Ty},zbs cx.tab fs o t=true->
 ∃places:List (Nat×Nat),fs.mapM (λf=>(P.info? f.type).map λi=>(f.offset,i.size))=some places/\(∀j,getT (qc j) t≠.unit->places[j]? =some (o+xg (qc j) t,(getT (qc j) t).size))/\
  ∀j a b,getT (List.replicate j .r) t=.pair a b->a≠.unit
 |[],o,.unit,_=>⟨[],rfl,λj h=>by cases j<;>exact absurd rfl h,λj a b h=>by cases j<;>cases h⟩
 |f::fs,o,.pair a b,h=>by
  simp only[zbs,yh0,yy0,yj1,yo0] at h;obtain⟨⟨⟨h1,h2⟩,h3⟩,h4⟩:=h;obtain⟨i,z,i1,i2,_⟩:=(jr htab h1).info;obtain⟨places,p1,p2,p3⟩:=z9r htab h4;refine⟨(f.offset,i.size)::places,?_,λj hj=> ?_,λj a' b' hj=> ?_⟩
  ·simp[List.mapM_cons,i1,p1]
  ·cases j with
   |zero=>simp[qc,xg,getT,h2,i2]
   |succ j=>
    have:=p2 j hj;simp only[yn2,this,yn0,ya1];exact⟨by show _=o+(a.size+_);omega,rfl⟩
  ·cases j with
   |zero=>
    have:Ty.pair a b=.pair a' b':=hj;injection this with e1 _;subst e1;rintro rfl;exact h3 rfl
   |succ j=>exact p3 j a' b' (by rw[List.replicate_succ] at hj;exact hj)
 |[],_,.pair _ _,h|[],_,.int _,h|[],_,.bool,h|[],_,.str,h|[],_,.slice _ _,h=>by simp[zbs] at h
 |_::_,_,.unit,h|_::_,_,.int _,h|_::_,_,.bool,h|_::_,_,.str,h|_::_,_,.slice _ _,h=>by simp[zbs] at h
theorem zq8 {a:Ty}(ha:a.size≠0):∀{n:Nat} {t:Ty},vk a n t=true->(∀j,getT (qc j) t≠.unit->getT (qc j) t=a/\xg (qc j) t=j*a.size/\j<n)/\
 ∀j b c,getT (List.replicate j .r) t=.pair b c->b≠.unit
 |0,.unit,_=>⟨λj h=>by cases j<;>exact absurd rfl h,λj a b h=>by cases j<;>cases h⟩
 |n+1,.pair b c,h=>by
  simp only[vk,yh0,yy0] at h;obtain⟨rfl,h2⟩:=h;obtain⟨g1,g2⟩:=zq8 ha h2;refine⟨λj hj=> ?_,λj b' c' hj=> ?_⟩
  ·cases j with
   |zero=>exact⟨rfl,by simp[qc,xg],by omega⟩
   |succ j=>
    obtain⟨k1,k2,k3⟩:=g1 j hj;exact⟨k1,by show b.size+_=_;rw[k2,Nat.succ_mul,Nat.add_comm],by omega⟩
  ·cases j with
   |zero=>
    have:Ty.pair b c=.pair b' c':=hj;injection this with e1 _;subst e1;rintro rfl;exact ha rfl
   |succ j=>exact g2 j b' c' (by rw[List.replicate_succ] at hj;exact hj)
 |0,.pair _ _,h|0,.int _,h|0,.bool,h|0,.str,h|0,.slice _ _,h=>by simp[vk] at h
 |_+1,.unit,h|_+1,.int _,h|_+1,.bool,h|_+1,.str,h|_+1,.slice _ _,h=>by simp[vk] at h
theorem qtj (ps:Array (Nat×Operand))(ev:Operand->Value):(ps.map λ(i,x)=>(i,ev x)).toList=(ps.toList.map (·.1)).zip (ps.toList.map λq=>ev q.2):=by
 rw[Array.toList_map,List.zip_map']
theorem qzv (htab:ji P cx.tab){o:Oper}{tid:TypeId}{t:Ty}{ps:Array (Nat×Operand)}{tvs:List TV}{us:List U}{ow:Ow}{x:PV t}(hop:o.op=.build tid ps)(h:StB w0 Pr0 M E V w Pr B)
 (hN:∀k,E.length<=k->B k=[])(hf:Fr off V a)(hl:lookup cx.tab tid=some t)(hag:t.agg=true)
 (ht:zce off E (ps.toList.map λq=>(getT (qc q.1) t,q.2))=some (tvs,us))(he:asm t 0 ((ps.toList.map (·.1)).zip tvs)=some (ow,x)):jk w0 Pr0 M P E V w a o (.val t ow x,us):=by
 obtain⟨d,hd,hfit⟩:=(jr htab hl).und;obtain⟨i,z,i1,i2,i3,i4,i5⟩:=(jr htab hl).info;obtain⟨B1,g1,g2,g3,_,g5⟩:=zvk hf h (ym0 _) hN ht;have hvl:((ps.toList.map λq=>(getT (qc q.1) t,q.2)).map λq=>a.eval q.2)=ps.toList.map λq=>a.eval q.2:=by rw[List.map_map];rfl
 rw[hvl] at g3;have hlen:tvs.length=ps.toList.length:=by have:=g3.length;simpa using this
 have hz2:((ps.toList.map (·.1)).zip tvs).map (·.2)=tvs:=List.map_snd_zip (by simp[hlen]);have hz1:((ps.toList.map (·.1)).zip tvs).map (·.1)=ps.toList.map (·.1):=List.map_fst_zip (by simp[hlen])
 have main:∀place:Nat->Option (Nat×Nat),(∀j,getT (qc j) t≠.unit->place (0+j)=some (0+xg (qc j) t,(getT (qc j) t).size))->(∀j a b,getT (List.replicate j .r) t=.pair a b->a≠.unit)->
  (∀cells,Instr.fill place z.cells (ps.map λ(i,x)=>(i,a.eval x)).toList=some cells->(Instr.build tid (ps.map λ(i,x)=>(i,a.eval x))).run P w=.ok (.agg cells) w)->jk w0 Pr0 M P E V w a o (.val t ow x,us):=by
  intro place hpl hu hrun
  obtain⟨new,bs,q,k1,k2,k3,k4⟩:=zq7 g1 (place:=place) (t:=t) (n:=0) (N:=E.length) (o0:=0) (ps:=(ps.toList.map (·.1)).zip tvs) (vs:=ps.toList.map λq=>a.eval q.2) (cells:=z.cells) (pre:=[]) (zc:=z.cells.toList)
   hpl (λa b hab=>hu 0 a b (by exact hab)) hu (by rw[hz2];exact g3) he rfl rfl i4
  rw[hz1,<-qtj ps a.eval,yp1] at k1;have hm:=g1.merge (bs:=bs) (q:=q) (λb hb=>by rw[g2];exact k3 b hb) k4;rw[g2] at hm;have hpk:pack t new=.agg new.toArray:=by simp[pack,hag]
  refine⟨.value (.agg new.toArray),w,.agg new.toArray,?_,.inl rfl,g2,_,_,hm,?_,λj hj=> ?_⟩
  ·simp only[execOp,hop,Sem.run_bind,hrun _ k1,Result.andThen_ok];rfl
  ·show zx _ _ _ _ _ _ _
   rw[g2];simp only[if_true];exact⟨new,hpk.symm,k2⟩
  ·rw[g2] at hj
   have h1:j≠E.length:=by omega
   have h2:E.length<=j:=by omega
   simp[h1,h2]
 cases d with
 |struct fs=>
  have hfo:zbs cx.tab fs.toList 0 t=true:=by cases t<;>simp[fits,Ty.agg] at hfit ⊢<;>exact hfit
  obtain⟨places,p1,p2,p3⟩:=z9r htab hfo;refine main (places.toArray[·]?) (λj hj=>by rw[Nat.zero_add];simpa using p2 j hj) p3 (λcells hc=>run_build w tid _ cells ?_);unfold Program.built;simp only[i1,hd,i3,p1];exact hc
 |array n e=>
  have hfo:∃a',lookup cx.tab e=some a'/\a'.size≠0/\vk a' n t=true:=by
   simp only[fits,yh0] at hfit;split at hfit
   ·rename_i a' ha'
    simp only[yh0,yj1,yo0] at hfit;exact⟨a',ha',hfit.2.1,hfit.2.2⟩
   ·simp at hfit
  obtain⟨a',f1,f2,f3⟩:=hfo;obtain⟨q1,q2⟩:=zq8 f2 f3;obtain⟨ie,ze,e1,e2,_⟩:=(jr htab f1).info;refine main (λi=>some (i*ie.size,ie.size)) (λj hj=> ?_) q2 (λcells hc=>run_build w tid _ cells ?_)
  ·obtain⟨r1,r2,r3⟩:=q1 j hj
   rw[Nat.zero_add,Nat.zero_add,r1,r2,e2]
  ·unfold Program.built
   simp only[i1,hd,i3,e1];exact hc
 |_=>cases t<;>simp[fits,Ty.agg] at hfit hag
theorem qqp (htab:ji P cx.tab){o:Oper}{s d:TypeId}{x:Operand}{k k':IntKind}{n:Int}(hop:o.op=.convert s d x)(h:StB w0 Pr0 M E V w Pr B)(hN:∀k,E.length<=k->B k=[])(hf:Fr off V a)
 (hs:lookup cx.tab s=some (.int k))(hd:lookup cx.tab d=some (.int k'))(hx:rd E (opd E off x).s=some ⟨.int k,n⟩):jk w0 Pr0 M P E V w a o (sv (.int k') (k'.wrap n),[]):=by
 have int:∀{tid:TypeId} {k:IntKind},lookup cx.tab tid=some (.int k)->P.underlying tid=some (.int k):=by
  intro tid k hl;obtain⟨d,hd,hfit⟩:=(jr htab hl).und;cases d<;>first|(simp[fits,Ty.agg] at hfit;done)|skip
  simp only[fits,yy0] at hfit;rw[hd,hfit]
 refine zcf h hN (.int _ _) ?_;simp[execOp,hop,zbo h (qx h hf x) hx,convert,run_underlying (int hs),run_underlying (int hd),Conv.intToInt]
theorem q7c (htab:ji P cx.tab){tid:TypeId}(hl:lookup cx.tab tid=some .str):P.underlying tid=some .string:=by
 obtain⟨d,hd,hfit⟩:=(jr htab hl).und;cases d<;>first|exact hd|(simp[fits,Ty.agg] at hfit;done)
theorem q7d (htab:ji P cx.tab){tid:TypeId}{k:IntKind}(hl:lookup cx.tab tid=some (.int k)):P.underlying tid=some (.int k):=by
 obtain⟨d,hd,hfit⟩:=(jr htab hl).und;cases d<;>first|(simp[fits,Ty.agg] at hfit;done)|skip
 simp only[fits,yy0] at hfit;rw[hd,hfit]
theorem q2q (htab:ji P cx.tab){tid e:TypeId}{t:Ty}(hl:lookup cx.tab tid=some (.slice e t)):P.underlying tid=some (.slice e)/\lookup cx.tab e=some t:=by
 obtain⟨d,hd,hfit⟩:=(jr htab hl).und;obtain⟨rfl,h1,h2⟩:=z7m hfit;exact⟨hd,h1⟩
theorem z9s {Q:Nat->Prop}{k:IntKind}{o:Ow}:∀{xs:List Int} {cs:List Value} {bs:List Nat},RepL (Rep w Q (.int k) o) cs xs bs->cs=xs.map (Value.int k)
 |[],_,_,h=>h.1
 |x::xs,_,_,h=>by
  obtain⟨c1,c2,b1,b2,rfl,_,h1,h2⟩:=h;rw[h1.1,z9s h2];rfl
theorem qmm (htab:ji P cx.tab){o:Oper}{s d e e':TypeId}{x:Operand}{l:List Int}(hop:o.op=.convert s d x)(h:StB w0 Pr0 M E V w Pr B)(hN:∀k,E.length<=k->B k=[])(hf:Fr off V a)
 (hs:lookup cx.tab s=some (.slice e (.int .u8)))(hd:lookup cx.tab d=some .str)(hx:rd E (opd E off x).s=some ⟨.slice e' (.int .u8),l⟩):jk w0 Pr0 M P E V w a o (sv .str (zdu l),[]):=by
 obtain⟨hu,hl⟩:=q2q htab hs;have hue:=q7d htab hl;obtain⟨A,c,h1,h2,A',c',h3,h4,h5⟩:=zvg h (qx h hf x) hx;refine zcf h hN (.str _) ?_;rw[h1] at h3;simp only[List.cons.injEq,Value.slice.injEq,and_true,true_and] at h3;obtain⟨rfl,rfl⟩:=h3
 have key:(convert s d (.slice A l.length c)).run P w=.ok (strV (zdu l)) w:=by
  rw[run_convert_bytes_string w s d e A l.length c hu hue (q7c htab hd)]
  have nilc:l=[]->A=none->(Conv.bytesToString (.slice A l.length c)).run P w=.ok (strV (zdu l)) w:=by
   rintro rfl rfl;rfl
  have some:∀ad,A=.some ad->Cells w ad (l.map (Value.int .u8))->(Conv.bytesToString (.slice A l.length c)).run P w=.ok (strV (zdu l)) w:=by
   rintro ad rfl hc;have hload:=run_loadCells_list (P:=P) w ad (l.map (Value.int .u8)) hc;rw[yu1] at hload;rw[run_bytesToString w ad l.length c l hload,foldl_push_bytes];congr 2;simp only[zdu];rw[show ByteArray.empty.data= #[] from rfl];simp
  cases A with
  |none=>
   rcases h5 with hl|⟨ad,ys,hA,_⟩
   ·exact nilc hl rfl
   ·cases hA
  |some ad=>
   rcases h5 with hl|⟨ad',ys,hA,_,hc,hr⟩
   ·exact some ad rfl (by rw[hl];intro j u hu;simp at hu)
   ·injection hA with hA;subst hA
    exact some _ rfl (by rw[<-z9s hr];exact hc)
 simp[execOp,hop,h1,key]
end
end Go.Dn
end
