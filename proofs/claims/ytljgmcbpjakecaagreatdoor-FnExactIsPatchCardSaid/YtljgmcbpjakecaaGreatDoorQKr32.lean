/- Parts of the proof: Kf4 Kg2 Kg3 Kh1 Kh2 Kh3 Kh4 Kh5 Kl1 Ki1 Ki2 Ki3 Ki4 Ki5 Ki6 Ki7 Ki8 Ki9 Kj1 Kj2 Kj3 Kk1. -/
import Derived.Test.YtljgmcbpjakecaaGreatDoorQKr31
import Derived.Test.YtljgmcbpjakecaaGreatDoorL3
import Derived.Lib.ItoaLen
set_option linter.unusedVariables false
section
/- Groups, as the reference reads them. -/
open Go Go.Dn
namespace R.U
theorem zrq (a m:Nat):zak a m=Go.Dn.zak a m:=by
 unfold zak Go.Dn.zak numb;by_cases h:m=1
 ·rw[yx0 h,yx0 h,yz0]
 ·rw[yw0 h,yw0 h];rfl
theorem q5g {a m:Nat}:∀c∈zak a m,isDg c=true\/c=44:=by
 intro c hc;rw[zrq] at hc;unfold Go.Dn.zak at hc;rcases List.mem_append.1 hc with h|h
 ·exact .inl (List.all_eq_true.1 (zko _).1 c h)
 ·split at h
  ·cases h
  ·rcases List.mem_cons.1 h with h|h
   ·exact .inr h
   ·exact .inl (List.all_eq_true.1 (zko _).1 c h)
theorem zgv {a m:Nat}{d:UInt8}(h1:isDg d=false)(h2:d≠44):d∉zak a m:=λh=>by
 rcases q5g d h with h|h
 ·rw[h1] at h;cases h
 ·exact h2 h
theorem q1s {a m:Nat}(ha:a<=999)(hm:999<m)(hm2:m<=9999):countP (zak a m)=none:=by
 have h44:∀u,(44:UInt8)∉Lib.decDigits u:=λu hu=>by
  have:=List.all_eq_true.1 (zko u).1 44 hu;cases this
 rw[zrq];unfold Go.Dn.zak;rw[yw0 (by omega:¬m=1),yx0 (by omega:0<m)];unfold countP;rw[zdz _ (h44 _)];dsimp only;obtain⟨d1,d2⟩:=zbs (n:=m) (by omega);obtain⟨c1,c2⟩:=zbs (n:=a+1) (by omega);rw[yx0 ⟨c1,d1⟩,c2,d2];unfold rngP;rw[yw0 (by omega)]
theorem z9y {a m m':Nat}(ha:a<=999)(hm:m<=999)(hm':m'<=9999)(h:zak a m=zak a m'):m=m':=by
 have h1:countP (zak a m)=some ((a:Int),(m:Int)):=by rw[zrq];exact qdh ha hm
 by_cases h9:m'<=999
 ·have h2:countP (zak a m')=some ((a:Int),(m':Int)):=by rw[zrq];exact qdh ha h9
  rw[h,h2] at h1;have:=(yj1 (yl0 h1)).2;omega
 ·rw[h,q1s ha (by omega) hm'] at h1;cases h1
theorem zx1 {o f:List UInt8}(h1:(10:UInt8)∉o)(h2:(10:UInt8)∉f):isL (hdP o f):=by
 refine⟨hdQ o f,zlv o f,?_⟩;unfold hdQ;simp[h1,h2]
def hdC (a m b k:Int):List UInt8:=hdP (zak a.toNat m.toNat) (zak b.toNat k.toNat)
theorem qdx (x:PV zh):zau x=hdP (zak x.1.toNat (zy x.2.2.1 3).length) (zak x.2.1.toNat (zy x.2.2.1 2).length):=rfl
theorem q9z (a m b k:Int):isL (hdC a m b k):=zx1 (zgv (by decide) (by decide)) (zgv (by decide) (by decide))
theorem qb7 (x:PV zh):isL (zau x):=zx1 (zgv (by decide) (by decide)) (zgv (by decide) (by decide))
theorem jaa {a m b k:Int}{rows:RW}(h:((zy rows 3).length:Int)=m/\((zy rows 2).length:Int)=k):zau (a,(b,(rows,())))=hdC a m b k:=by
 rw[qdx];unfold hdC;rw[<-h.1,<-h.2,toNat_cast,toNat_cast]
theorem jab {a m b k:Int}{rows:RW}(hr:rows.length<=3000)(ha:0<=a/\a<=999/\0<=m/\m<=999)(hb:0<=b/\b<=999/\0<=k/\k<=999)(h:¬(((zy rows 3).length:Int)=m/\((zy rows 2).length:Int)=k)):hdC a m b k≠zau (a,(b,(rows,()))):=by
 intro e;rw[qdx] at e;unfold hdC at e;obtain⟨e1,e2⟩:=qe7 e (zgv (by decide) (by decide)) (zgv (by decide) (by decide)) (zgv (by decide) (by decide)) (zgv (by decide) (by decide));have l1:=zgz (rows:=rows) (c:=3);have l2:=zgz (rows:=rows) (c:=2);have q1:=z9y (by omega) (by omega) (by show(zy rows 3).length<=9999;omega) e1;have q2:=z9y (by omega) (by omega) (by show(zy rows 2).length<=9999;omega) e2;refine h ⟨?_,?_⟩
 ·have:m.toNat=(zy rows 3).length:=q1
  omega
 ·have:k.toNat=(zy rows 2).length:=q2
  omega
theorem jac (l:TX)(hl:l.length<=3000)(h:∀s∈l,s.length<=3000):zin l=some ((l.flatten,()),())/\l.flatten.length<=3000*l.length:=by
 have hF:=zb2 (B:=λd=>zc6 d.1 d.2.1 d.2.2.1 d.2.2.2.1) l (λ(o:List UInt8) s=>o++s) (λo i=>(o,l,(l.length:Int),(i:Int),())) (λo=>(o,())) (λi o=>o.length<=3000*i)
  (λi hi o hI=>by
    have h0:=h _ (yk1 hi);refine⟨by rw[ye0];omega,?_⟩;show zc6 o l l.length i=_;unfold zc6;rw[yc0 (by omega:(i:Int)<(l.length:Int)),yb0,zq hi,yb0,toNat_cast,qo hi,yc0 (by omega),yb0,wrap64 (by omega) (by omega)];rfl)
  (λo hI=>by
    show zc6 o l l.length l.length=_;unfold zc6;rw[yi0 (yh1 _),yd0]) [] (ye1 _)
 have hm:∀(l:TX) (o:List UInt8),l.foldl (λ(o:List UInt8) s=>o++s) o=o++l.flatten:=by
  intro l
  induction l with
  |nil=>intro o;simp
  |cons s l ih=>intro o;rw[List.foldl_cons,ih,yd1,yj0]
 have h2:=hF.2;rw[hm,yn1] at h2;refine⟨?_,h2⟩;unfold zin;rw[show zuy ([],l,(l.length:Int),0,())=_ from hF.1,ya0];dsimp only;rw[hm,yn1]
theorem q7s {l:List UInt8}(h:endP l=true):l=qm l++[10]:=by
 unfold qm;rw[h,yb0];unfold endP at h;have:=List.take_append_drop (l.length -1) l;rw[beq_iff_eq.1 h] at this;exact this.symm
theorem jad (l:List UInt8)(rest:TX)(out:GR)(want:List UInt8)(hr:rest.length<=2999)(hLN:LN (l::rest))(h3:∀x∈l::rest,x.length<=3000)(ho:out.length<=3000)(hw:want.length<=10000000*out.length):
 (∃(o f:List UInt8) (a m b k:Int) (rows:RW) (u r:TX),zes l o f a m b k/\rest=u++r/\Rw rows 3000/\((vk rest.length rest m k=some (rows,r))\/(vk rest.length rest m k=none/\¬(((zy rows 3).length:Int)=m/\((zy rows 2).length:Int)=k)))/\
   u.flatten.length<=9000000/\zhk (l::rest) out want=some (.inl (r,out++[(a,(b,(rows,())))],want++(hdC a m b k++u.flatten),())))\/
 ((∀o f a m b k,¬zes l o f a m b k)/\zhk (l::rest) out want=some (.inr (.inr ([],1,false,())))):=by
 have hl:=h3 l (yk0 ..);have hl1:1<=l.length:=List.length_pos_iff.2 hLN.1;have hpl:=z9l l;have hpos:decide ((((l::rest:TX)).length:Int)>0)=true:=yc0 (by simp);have e0:inB 0 (l::rest:TX).length=true:=zq (i:=0) (by simp);have eg:(l::rest:TX).getD ((0:Int).toNat) []=l:=rfl
 have hqp:∀{o f:List UInt8},endP l=true->(l=hdP o f↔qm l=hdQ o f):=by
  intro o f he;have:=q7s he;constructor
  ·intro h
   rw[h,zlv] at this;rw[h,zlv];exact(List.append_cancel_right this).symm
  ·intro h
   rw[this,h,<-zlv]
 rcases zoe (qm l) (by omega) with⟨o,f,a,m,b,k,hp,c1,c2,hT⟩|⟨hno,g,m,k,hT⟩
 ·have g1:=zee c1
  have g2:=zee c2;obtain⟨rows,u,r,j1,j2,j3,j4⟩:=q9x rest.length rest [] rest [] m k rfl (ym0 _) (by omega) hLN.2.2 (λx hx=>h3 x (yg0 _ hx)) ⟨λr hr=>(by cases hr),ye1 _⟩ (by omega) (by omega);rw[yn1] at j2 j3;have hul:u.length+r.length=rest.length:=by rw[j1];simp
  obtain⟨t1,t2⟩:=jac u (by omega) (λx hx=>h3 x (yg0 _ (by rw[j1];simp[hx])))
  have hR:zqu rest m k=some ((rows,((u.length:Nat):Int),()),()):=by
   unfold zqu;rw[show zj1 (rest,m,k,[],0,())=some (rows,(((([]:TX).length+u.length:Nat)):Int),()) from j3,ya0];dsimp only;rw[show([]:TX).length+u.length=u.length by simp]
  have hC1:zfu a m=some ((zak a.toNat m.toNat,()),()):=by
   have:=zsr a.toNat m.toNat (by omega) (by omega)
   rwa [Int.toNat_of_nonneg g1.1,Int.toNat_of_nonneg g1.2.2.1] at this
  have hC2:zfu b k=some ((zak b.toNat k.toNat,()),()):=by
   have:=zsr b.toNat k.toNat (by omega) (by omega)
   rwa [Int.toNat_of_nonneg g2.1,Int.toNat_of_nonneg g2.2.2.1] at this
  have k1:=zgp (a:=a.toNat) (m:=m.toNat) (by omega) (by omega);have k2:=zgp (a:=b.toNat) (m:=k.toNat) (by omega) (by omega)
  have hcu:cutL 1 (((1+u.length:Nat)):Int) (l::rest:TX)=u:=by
   unfold cutL;rw[toNat_cast,j1,show((1:Int)).toNat=1 from rfl,Nat.add_comm,List.take_succ_cons,List.drop_succ_cons,List.drop_zero,List.take_left' rfl]
  have hcr:cutL (((1+u.length:Nat)):Int) ((l::rest:TX).length:Int) (l::rest:TX)=r:=by
   unfold cutL;rw[toNat_cast,toNat_cast,List.take_length,j1,Nat.add_comm,List.drop_succ_cons,List.drop_left' rfl]
  have hgo:zhk (l::rest) out want=bif !(endP l) then some (.inr (.inr ([],1,false,()))) else some (.inl (r,out++[(a,(b,(rows,())))],want++(hdC a m b k++u.flatten),())):=by
   unfold zhk;rw[hpos,yb0,e0,yb0,eg,zn7 l hl1 (by omega),ya0,hT,ya0];dsimp only;rw[ys0,yd0,zaj,yb0,drop_one,hR,ya0,hC1,ya0];dsimp only;rw[yc0 (by simp only[yf0,yp0];omega),yb0,yc0 (by simp only[ye0,yf0,yp0];omega),yb0,hC2,ya0];dsimp only;rw[yc0 (by simp only[ye0,yf0,yp0];omega),yb0,yc0 (by simp only[ye0,yf0,yp0];omega),yb0,wrap64 (by omega) (by omega),show(1:Int)+((u.length:Nat):Int)=((1+u.length:Nat):Int) by omega];rw[show cutB 1 (((1+u.length:Nat)):Int) (l::rest:TX).length=true from by unfold cutB;simp;omega,yb0,hcu,t1,ya0];dsimp only;rw[yc0 (by simp only[ye0,yf0,yp0];omega),yb0,yc0 (by simp only[ye0,yf0,yp0];omega),yb0,yb0,zg9 l hl1 (by omega),ya0];dsimp only;rw[hcr,show cutB (((1+u.length:Nat)):Int) ((l::rest:TX).length:Int) (l::rest:TX).length=true from by unfold cutB;simp;omega,yb0,jq (by simp;omega),yb0];rfl
  cases he:endP l with
  |true=>
   rw[he] at hgo;exact .inl ⟨o,f,a,m,b,k,rows,u,r,⟨(hqp he).2 hp,c1,c2⟩,j1,j2,j4,by omega,hgo⟩
  |false=>
   rw[he] at hgo;refine .inr ⟨λo f a m b k h=> ?_,hgo⟩;rw[h.1,zx0] at he;cases he
 ·refine .inr ⟨λo f a m b k h=> ?_,?_⟩
  ·have he:endP l=true:=by rw[h.1,zx0]
   exact hno o f a m b k ((hqp he).1 h.1) h.2.1 h.2.2
  ·unfold zhk
   rw[hpos,yb0,e0,yb0,eg,zn7 l hl1 (by omega),ya0,hT,ya0];rfl
def Bad (want:List UInt8)(out:GR):Prop:=∃A h1 h2 B C,isL h1/\isL h2/\h1≠h2/\want=A++(h1++B)/\zcm out=A++(h2++C)
theorem zqv (out:GR)(x:PV zh):zcm (out++[x])=zcm out++zha x:=by
 unfold zcm;rw[List.flatMap_append,List.flatMap_singleton]
theorem Bad.more {want:List UInt8}{out:GR}(h:Bad want out)(W:List UInt8)(x:PV zh):Bad (want++W) (out++[x]):=by
 obtain⟨A,h1,h2,B,C,q1,q2,q3,q4,q5⟩:=h;exact⟨A,h1,h2,B++W,C++zha x,q1,q2,q3,by rw[q4];simp,by rw[zqv,q5];simp⟩
theorem Bad.ne {want:List UInt8}{out:GR}(h:Bad want out):zcm out≠want:=by
 obtain⟨A,h1,h2,B,C,q1,q2,q3,q4,q5⟩:=h;rw[q4,q5];intro e;have:=congrArg cutP (List.append_cancel_left e);rw[zw8 q2,zw8 q1] at this;exact q3 (List.cons.inj this).1.symm
theorem q5h:∀(n:Nat) (ls:TX) (out:GR) (want:List UInt8),ls.length<=n->out.length+ls.length<=3000->LN ls->(∀x∈ls,x.length<=3000)->(∀x∈out,Rw x.2.2.1 3000)->want.length<=10000000*out.length->
 (zjk (ls,out,want,())=some (.inr ([],1,false,()))/\∀gs,¬GQ ls gs)\/
 ∃(out':GR) (want':List UInt8),zjk (ls,out,want,())=some (.inl (out',want',()))/\out'.length<=3000/\(∀x∈out',Rw x.2.2.1 3000)/\(Bad want out->Bad want' out')/\(ls≠[]\/out≠[]->out'≠[])/\((¬∀l∈ls,isL l)->endP want'=false)/\
  ((∃gs,GQ ls gs/\out'=out++gs/\(want=zcm out->(∀l∈ls,isL l)->want'=zcm out'))\/((∀gs,¬GQ ls gs)/\(want=zcm out->(∀l∈ls,isL l)->Bad want' out'))):=by
 intro n
 induction n with
 |zero=>
  intro ls out want hl h3 hn hx ho hw;obtain rfl:=yt0 (Nat.le_zero.1 hl);exact .inr ⟨out,want,jm rfl,by omega,ho,id,λh=>h.elim (λh=>absurd rfl h) id,λh=>absurd (λl hl=>by cases hl) h,.inl ⟨[],.nil,by simp,λh _=>h⟩⟩
 |succ n ih=>
  intro ls out want hl h3 hn hx ho hw;cases ls with
  |nil=>exact .inr ⟨out,want,jm rfl,by omega,ho,id,λh=>h.elim (λh=>absurd rfl h) id,λh=>absurd (λl hl=>by cases hl) h,.inl ⟨[],.nil,by simp,λh _=>h⟩⟩
  |cons l rest=>
   rw[yf0] at hl h3;rcases jad l rest out want (by omega) hn hx (by omega) hw with⟨o,f,a,m,b,k,rows,u,r,hH,j1,j2,j3,j4,j5⟩|⟨hno,hT⟩
   ·have hst:zjk (l::rest,out,want,())=zjk (r,out++[(a,(b,(rows,())))],want++(hdC a m b k++u.flatten),()):=zan j5
    rw[hst];have hrl:u.length+r.length=rest.length:=by rw[j1];simp
    have k1:=zgp (a:=a.toNat) (m:=m.toNat) (by have:=zee hH.2.1;omega) (by have:=zee hH.2.1;omega);have k2:=zgp (a:=b.toNat) (m:=k.toNat) (by have:=zee hH.2.2;omega) (by have:=zee hH.2.2;omega);have hhd:(hdC a m b k).length<=100:=by unfold hdC hdP;simp only[ye0,yf0,yp0];omega
    have hrn:LN r:=by have:=hn.2.2;rw[j1] at this;exact q9v this
    have hlL:isL l:=by rw[hH.1];exact zx1 (z9t hH.2.1) (z9t hH.2.2)
    have ih1:=ih r (out++[(a,(b,(rows,())))]) (want++(hdC a m b k++u.flatten)) (by omega) (by rw[ye0];simp;omega) hrn (λx hx'=>hx x (yg0 _ (by rw[j1];simp[hx'])))
     (λx hx'=>by
       rcases List.mem_append.1 hx' with hx'|hx'
       ·exact ho x hx'
       ·obtain rfl:=List.mem_singleton.1 hx';exact j2) (by simp only[ye0,yf0,yp0];omega)
    have hE:(∀x∈l::rest,isL x)->∀x∈r,isL x:=λh x hx'=>h x (yg0 _ (by rw[j1];simp[hx']))
    have hgood:vk rest.length rest m k=some (rows,r)->want=zcm out->(∀x∈l::rest,isL x)->want++(hdC a m b k++u.flatten)=zcm (out++[(a,(b,(rows,())))]):=by
     intro hq he hL;obtain⟨q1,_⟩:=zvw _ (λx hx'=>hL x (yg0 _ hx')) hq;rw[j1,List.flatten_append] at q1;rw[zqv,<-he,List.append_cancel_right q1,<-jaa (z9v _ hq)];rfl
    have hbad:¬(((zy rows 3).length:Int)=m/\((zy rows 2).length:Int)=k)->want=zcm out->Bad (want++(hdC a m b k++u.flatten)) (out++[(a,(b,(rows,())))]):=by
     intro hd he;exact⟨want,_,_,u.flatten,zbi rows,q9z a m b k,qb7 (a,(b,(rows,()))),jab j2.2 (zee hH.2.1) (zee hH.2.2) hd,rfl,by rw[zqv,<-he];rfl⟩
    have hGQ:∀gs,GQ (l::rest) gs->∃rs' r' gs',vk rest.length rest m k=some (rs',r')/\GQ r' gs'/\gs=(a,(b,(rs',())))::gs':=by
     intro gs hg;cases hg with
     |cons hd' hr' hg'=>
      obtain⟨rfl,rfl,rfl,rfl⟩:=zrp hH hd';exact⟨_,_,_,hr',hg',rfl⟩
    rcases ih1 with⟨i1,i2⟩|⟨out',want',i1,i2,i3,i4,i5,i6,i7⟩
    ·refine .inl ⟨i1,λgs hg=> ?_⟩
     obtain⟨rs',r',gs',q1,q2,_⟩:=hGQ gs hg;rcases j3 with j3|j3
     ·rw[j3] at q1
      obtain⟨rfl,rfl⟩:=yj1 (yl0 q1);exact i2 _ q2
     ·rw[j3.1] at q1;cases q1
    ·refine .inr ⟨out',want',i1,i2,i3,λh=>i4 (h.more _ _),λ_=>i5 (.inr (by simp)),λhU=> ?_,?_⟩
     ·by_cases hr:∀x∈r,isL x
      ·have hu:u.flatten≠[]/\endP u.flatten=false:=by
        rcases zof hn with h|h
        ·exact absurd h hU
        ·rcases zof hn.2.2 with h2|⟨h2,h4⟩
         ·exact absurd (λx hx'=>(List.mem_cons.1 hx').elim (λe=>e▸hlL) (h2 x)) hU
         ·rw[j1,List.flatten_append] at h2 h4
          by_cases hr0:r=[]
          ·subst hr0
           rw[List.flatten_nil,yz0] at h2 h4;exact⟨h2,h4⟩
          ·have hrf:r.flatten≠[]:=by
            obtain⟨y,ys,rfl⟩:=List.exists_cons_of_ne_nil hr0;rw[yd1];have:=hrn.1;simp[this]
           rcases zof hrn with h5|⟨_,h5⟩
           ·have h6:∀{q:TX},q≠[]->(∀x∈q,isL x)->endP q.flatten=true:=by
             intro q
             induction q with
             |nil=>intro h;exact absurd rfl h
             |cons y q ihq=>
              intro _ hq;rw[yd1];by_cases h0:q=[]
              ·subst h0;rw[List.flatten_nil,yz0];exact zr5 (hq y (yk0 ..))
              ·have:=ihq h0 λx hx'=>hq x (yg0 _ hx')
               rw[zch (zlc this),this]
            rw[zch hrf,h6 hr0 h5] at h4;cases h4
           ·exfalso
            have h6:∀{q:TX},q≠[]->(∀x∈q,isL x)->endP q.flatten=true:=by
             intro q
             induction q with
             |nil=>intro h;exact absurd rfl h
             |cons y q ihq=>
              intro _ hq;rw[yd1];by_cases h0:q=[]
              ·subst h0;rw[List.flatten_nil,yz0];exact zr5 (hq y (yk0 ..))
              ·have:=ihq h0 λx hx'=>hq x (yg0 _ hx')
               rw[zch (zlc this),this]
            rw[h6 hr0 hr] at h5;cases h5
       have hr0:r=[]:=by
        refine Classical.byContradiction λh0=> ?_
        have h7:∀{q p:TX},LN (q++p)->p≠[]->∀x∈q,isL x:=by
         intro q
         induction q with
         |nil=>intro p _ _ x hx';cases hx'
         |cons y q ihq=>
          intro p h hp x hx';rcases List.mem_cons.1 hx' with rfl|hx'
          ·exact h.2.1.resolve_right λq'=>hp (List.append_eq_nil_iff.1 q'.2).2
          ·exact ihq h.2.2 hp x hx'
        have h8:=hn.2.2;rw[j1] at h8
        exact hU λx hx'=>(List.mem_cons.1 hx').elim (λe=>e▸hlL) λhx'=>by
         rw[j1] at hx';rcases List.mem_append.1 hx' with hx'|hx'
         ·exact h7 h8 h0 x hx'
         ·exact hr x hx'
       subst hr0;have:zjk ([],out++[(a,(b,(rows,())))],want++(hdC a m b k++u.flatten),())=some (.inl (out++[(a,(b,(rows,())))],want++(hdC a m b k++u.flatten),())):=jm rfl;rw[this] at i1;have e:=Sum.inl.inj (yl0 i1);have e2:want++(hdC a m b k++u.flatten)=want':=congrArg (λz=>z.2.1) e;rw[<-e2,<-yj0,zch hu.1,hu.2]
      ·exact i6 hr
     ·rcases j3 with j3|j3
      ·rcases i7 with⟨gs,q1,q2,q3⟩|⟨q1,q2⟩
       ·exact .inl ⟨(a,(b,(rows,())))::gs,.cons hH j3 q1,by rw[q2];simp,λhe hL=>q3 (hgood j3 he hL) (hE hL)⟩
       ·refine .inr ⟨λgs hg=> ?_,λhe hL=>q2 (hgood j3 he hL) (hE hL)⟩
        obtain⟨rs',r',gs',q3,q4,_⟩:=hGQ gs hg;rw[j3] at q3;obtain⟨rfl,rfl⟩:=yj1 (yl0 q3);exact q1 _ q4
      ·refine .inr ⟨λgs hg=> ?_,λhe _=>i4 (hbad j3.2 he)⟩
       obtain⟨rs',r',gs',q3,_⟩:=hGQ gs hg;rw[j3.1] at q3;cases q3
   ·refine .inl ⟨jm hT,λgs hg=> ?_⟩
    cases hg with
    |cons hd _ _=>exact hno _ _ _ _ _ _ hd
theorem q5i {out:GR}(h:out≠[]):endP (zcm out)=true:=by
 rcases List.eq_nil_or_concat out with rfl|⟨q,x,rfl⟩
 ·exact absurd rfl h
 ·rw[List.concat_eq_append,zqv]
  have h2:endP (zha x)=true:=by unfold zha;exact zwp (zr5 (qb7 x))
  rw[zch (zlc h2),h2]
theorem zja (s:List UInt8):∃res,zl6 s=some (res,())/\
 ((∃gs,s.length<=3000/\GQ (cutP s) gs/\(∀l∈cutP s,isL l)/\zad gs=true/\res=(gs,0,true,()))\/
  ((∀gs,s.length<=3000->GQ (cutP s) gs->(∀l∈cutP s,isL l)->zad gs=true->False)/\res=([],1,false,()))):=by
 unfold zl6;by_cases hs:s.length<=3000
 ·rw[yi0 (by omega:¬(s.length:Int)>3000),yd0,zsp s (by omega),ya0]
  dsimp only;have hln:=zcv s;rcases q5h (cutP s).length (cutP s) [] [] (ym0 _) (by simp;omega) (zym s.length s (ym0 _)) (λx hx=>by have:=zdx hx;omega) (λx hx=>by cases hx) (ye1 _) with⟨i1,i2⟩|⟨out',want',i1,i2,i3,i4,i5,i6,i7⟩
  ·rw[i1,ya0]
   exact⟨([],1,false,()),rfl,.inr ⟨λgs _ h _ _=>i2 gs h,rfl⟩⟩
  ·rw[i1,ya0]
   dsimp only;have hS:SmG out':=qfv (by omega) i3;rw[qdj hS,ya0];dsimp only;cases hg:zad out'
   ·refine⟨([],1,false,()),rfl,.inr ⟨λgs _ h1 h2 h3=> ?_,rfl⟩⟩
    rcases i7 with⟨gs',q1,q2,_⟩|⟨q1,_⟩
    ·rw[q2,yn1,zxz q1 h1,h3] at hg;cases hg
    ·exact q1 gs h1
   ·rw[ys0,yd0,qq7 hS hg,ya0,ya0]
    dsimp only;by_cases hE:∀l∈cutP s,isL l
    ·rcases i7 with⟨gs,q1,q2,q3⟩|⟨q1,q2⟩
     ·rw[yn1] at q2
      subst q2;rw[q3 rfl hE,yl1,ys0,yd0];exact⟨(out',0,true,()),rfl,.inl ⟨out',hs,q1,hE,hg,rfl⟩⟩
     ·rw[beq_eq_false_iff_ne.2 (q2 rfl hE).ne,yb1,yb0]
      exact⟨([],1,false,()),rfl,.inr ⟨λgs _ h _ _=>q1 gs h,rfl⟩⟩
    ·have hne:cutP s≠[]:=λh=>hE (by rw[h];intro l hl;cases hl)
     have h1:=q5i (i5 (.inl hne));have h2:=i6 hE;have:zcm out'≠want':=λe=>by rw[e,h2] at h1;cases h1
     rw[beq_eq_false_iff_ne.2 this,yb1,yb0];exact⟨([],1,false,()),rfl,.inr ⟨λgs _ _ h _=>hE h,rfl⟩⟩
 ·rw[yc0 (by omega:(s.length:Int)>3000)]
  exact⟨([],1,false,()),rfl,.inr ⟨λgs h _ _ _=>hs h,rfl⟩⟩
end R.U
end

section
/- Good orders: both sides answer the same. -/
open Go Go.Dn
namespace R.O
def badO (s:List UInt8):Bool:= !jk s||(!endP s||s==[46,10])
def zdd (l:List (List UInt8)):Bool:=inI (l.length:Int) 1 40&& !(l.any badO)
def za6 (x:PV qh):Bool:=
 (inI x.2.1 0 1000&&inI x.2.2.1 x.2.1 1000)&&
   bif x.1==1 then(x.2.2.1==x.2.1)&&zdd x.2.2.2.1
   else bif x.1==2 then(x.2.2.1==x.2.1)&&(decide (x.2.1>=1)&&zdd x.2.2.2.1)
   else bif x.1==3 then decide (x.2.1>=1)&&zdd x.2.2.2.1
   else bif x.1==4 then decide (x.2.1>=1)&&((List.length x.2.2.2.1:Int)==0)
   else bif x.1==5 then decide (x.2.1>=1)&&((x.2.2.1==x.2.1)&&((List.length x.2.2.2.1:Int)==0))
   else false
def zbg (l:List (PV qh)):Bool:=decide (l.length<=60)&& !(l.any λx=> !za6 x)
theorem qgi (s:List UInt8)(hs:s.length<=4611686018427387904):zo6 s=some ((badO s,()),()):=by
 unfold zo6 badO;rw[zs7 s hs,zlh s hs,ya0,ya0];dsimp only;cases jk s<;>cases endP s<;>rfl
theorem jae (t0:List (List UInt8))(hs:Sm t0):zj6 t0=some ((zdd t0,()),()):=by
 have hl:=hs.len;unfold zj6
 have hr:∀i,i<t0.length->(((zgo (t0.getD i [])).bind λr4=>bif !r4.1.1 then some (t0,t0,(t0.length:Int),(i:Int),true,()) else
  (zef (t0.getD i [])).bind λr5=>bif !r5.1.1 then some (t0,t0,(t0.length:Int),(i:Int),true,()) else some (t0,t0,(t0.length:Int),(i:Int),(t0.getD i [])==[46,10],())):Option (PV zf×PV zf×Int×Int×Bool×Unit))=
  some (t0,t0,(t0.length:Int),(i:Int),badO (t0.getD i []),()):=by
  intro i hi;unfold badO;rw[qo hi,zyj _ (hs.mem hi),ya0];dsimp only;cases hL:jk t0[i]
  ·rfl
  ·rw[ys0,yd0,yc2,zg9 _ (zca hL).1 (hs.mem hi),ya0]
   dsimp only;cases endP t0[i]<;>rfl
 rw[show z3y (t0,t0,(t0.length:Int),0,())=_ from zgy (B:=λd=>zfi d.1 d.2.1 d.2.2.1 d.2.2.2.1) t0.length (λk=>badO (t0.getD k []))
    (λi=>(t0,t0,(t0.length:Int),(i:Int),())) (λ_=>.inr (false,())) (.inl (t0,()))
    (λi hi hq=>by
      show zfi t0 t0 t0.length i=_;unfold zfi;rw[yc0 (by omega:(i:Int)<(t0.length:Int)),yb0,zq hi,yb0,toNat_cast,hr i hi,hq,ya0];dsimp only;rw[yd0,wrap64 (by omega) (by omega)];rfl)
    (λi hi hq=>by
      show zfi t0 t0 t0.length i=_;unfold zfi;rw[yc0 (by omega:(i:Int)<(t0.length:Int)),yb0,zq hi,yb0,toNat_cast,hr i hi,hq,ya0];rfl)
    (by
      show zfi t0 t0 t0.length t0.length=_;unfold zfi;rw[yi0 (yh1 _),yd0])]
 rw[qbi (f:=badO)];unfold zdd;cases t0.any badO
 ·simp only[Bool.false_eq_true,if_false,ya0,in_S];simp[inI]
 ·simp
theorem qe8 (x:PV qh)(hs:Sm x.2.2.2.1):zp4 x=some ((za6 x,()),()):=by
 unfold zp4 za6;rw[in_S,in_S,ya0,ya0];dsimp only;unfold inI;cases decide (x.2.1>=0)&&decide (x.2.1<=1000)
 ·rfl
 ·rw[ys0,yd0,ya0]
  dsimp only;cases decide (x.2.2.1>=x.2.1)&&decide (x.2.2.1<=1000)
  ·rfl
  ·rw[ys0,yd0,jae _ hs]
   simp only[ya0,yu1];cases x.1==1<;>cases x.1==2<;>cases x.1==3<;>cases x.1==4<;>cases x.1==5<;>cases x.2.2.1==x.2.1<;>cases decide (x.2.1>=1)<;>rfl
theorem jbh (x:PV qh)(a:Bool)(l:List (List UInt8))(b:Bool)(hs:Sm l):
 zzy (x,a,l,(l.length:Int),b,true,l,l,false,l,l,(l.length:Int),0,())=some (if l.any badO then .inr (x,a,l,(l.length:Int),b,true,l,l,false,l,((l.findIdx badO:Nat):Int),()) else .inl (x,a,l,(l.length:Int),b,true,l,l,false,l,())):=by
 have hl:=hs.len
 exact zcj (B:=λd=>zez d.1 d.2.1 d.2.2.1 d.2.2.2.1 d.2.2.2.2.1 d.2.2.2.2.2.1 d.2.2.2.2.2.2.1 d.2.2.2.2.2.2.2.1 d.2.2.2.2.2.2.2.2.1 d.2.2.2.2.2.2.2.2.2.1 d.2.2.2.2.2.2.2.2.2.2.1 d.2.2.2.2.2.2.2.2.2.2.2.1 d.2.2.2.2.2.2.2.2.2.2.2.2.1) l badO
  (λi=>(x,a,l,(l.length:Int),b,true,l,l,false,l,l,(l.length:Int),(i:Int),())) (λi=>.inr (x,a,l,(l.length:Int),b,true,l,l,false,l,(i:Int),())) (.inl (x,a,l,(l.length:Int),b,true,l,l,false,l,()))
  (λi hi hq=>by
    show zez _ _ _ _ _ _ _ _ _ _ l l.length i=_;unfold zez;rw[yc0 (by omega:(i:Int)<(l.length:Int)),yb0,zq hi,yb0,toNat_cast,qo hi,qgi _ (hs.mem hi),ya0];dsimp only;rw[hq,yd0,wrap64 (by omega) (by omega)];rfl)
  (λi hi hq=>by
    show zez _ _ _ _ _ _ _ _ _ _ l l.length i=_;unfold zez;rw[yc0 (by omega:(i:Int)<(l.length:Int)),yb0,zq hi,yb0,toNat_cast,qo hi,qgi _ (hs.mem hi),ya0];dsimp only;rw[hq,yb0])
  (by
    show zez _ _ _ _ _ _ _ _ _ _ l l.length l.length=_;unfold zez;rw[yi0 (yh1 _),yd0])
theorem qe9 (x:PV qh)(hs:Sm x.2.2.2.1):zph x=some ((za6 x,()),()):=by
 unfold zph za6;rw[in_I,in_I,ya0,ya0];dsimp only;unfold inI;cases decide (x.2.1>=0)&&decide (x.2.1<=1000)
 ·rfl
 ·rw[ys0,yd0,ya0]
  dsimp only;cases decide (x.2.2.1>=x.2.1)&&decide (x.2.2.1<=1000)
  ·rfl
  ·rw[ys0,yd0,in_I,ya0]
   dsimp only;unfold zdd inI;generalize hb:(decide ((List.length x.2.2.2.1:Int)>=1)&&decide ((List.length x.2.2.2.1:Int)<=40))=b;cases b
   ·rw[yd0,ya0]
    dsimp only;simp only[yu1];cases x.1==1<;>cases x.1==2<;>cases x.1==3<;>cases x.1==4<;>cases x.1==5<;>cases x.2.2.1==x.2.1<;>cases decide (x.2.1>=1)<;>cases((List.length x.2.2.2.1:Int)==0)<;>rfl
   ·rw[yb0,jbh x _ _ _ hs]
    cases List.any x.2.2.2.1 badO
    ·rw[yw0 (by simp),ya0]
     dsimp only;rw[yb0,ya0];dsimp only;simp only[yu1];cases x.1==1<;>cases x.1==2<;>cases x.1==3<;>cases x.1==4<;>cases x.1==5<;>cases x.2.2.1==x.2.1<;>cases decide (x.2.1>=1)<;>cases((List.length x.2.2.2.1:Int)==0)<;>rfl
    ·rw[yx0 rfl,ya0]
     dsimp only;rw[yb0,yc0 (by omega:((List.findIdx badO x.2.2.2.1:Nat):Int)>=0),ya0];dsimp only;simp only[yu1];cases x.1==1<;>cases x.1==2<;>cases x.1==3<;>cases x.1==4<;>cases x.1==5<;>cases x.2.2.1==x.2.1<;>cases decide (x.2.1>=1)<;>cases((List.length x.2.2.2.1:Int)==0)<;>rfl
theorem Sm.order {l:List (PV qh)}(hs:tot zn l<=4611686018427387904){i:Nat}(hi:i<l.length):Sm l[i].2.2.2.1:=by
 have h:=ym1 (zn1 (e:=103) (t:=qh) hi) hs;refine Sm.of (n:=4611686018427387904) ?_ (ym0 _);simp only[tot] at h ⊢;omega
theorem q7t (t0:List (PV qh))(hs:tot zn t0<=4611686018427387904):zqw t0=some ((zbg t0,()),()):=by
 have hl:t0.length<=4611686018427387904:=ym1 (Nat.le_add_right _ _) (zgs (e:=103) (t:=qh)▸hs);unfold zqw
 rw[show z6c (t0,t0,(t0.length:Int),0,())=_ from zcj (B:=λd=>zfp d.1 d.2.1 d.2.2.1 d.2.2.2.1) t0 (λx=> !za6 x) (λi=>(t0,t0,(t0.length:Int),(i:Int),())) (λ_=>.inr (false,())) (.inl (t0,()))
  (λi hi hq=>by
    show zfp t0 t0 t0.length i=_;unfold zfp;rw[yc0 (by omega:(i:Int)<(t0.length:Int)),yb0,zq hi,yb0,toNat_cast,qo hi,qe8 _ (Sm.order hs hi),ya0];dsimp only;rw[hq,yd0,wrap64 (by omega) (by omega)];rfl)
  (λi hi hq=>by
    show zfp t0 t0 t0.length i=_;unfold zfp;rw[yc0 (by omega:(i:Int)<(t0.length:Int)),yb0,zq hi,yb0,toNat_cast,qo hi,qe8 _ (Sm.order hs hi),ya0];dsimp only;rw[hq,yb0])
  (by
    show zfp t0 t0 t0.length t0.length=_;unfold zfp;rw[yi0 (yh1 _),yd0])]
 unfold zbg;cases h:t0.any λx=> !za6 x
 ·simp;omega
 ·simp
theorem q7u (t0:List (PV qh))(hs:tot zn t0<=4611686018427387904):zo9 t0=some ((zbg t0,()),()):=by
 unfold zo9 zbg;by_cases hl:t0.length<=60
 ·rw[yc0 (by omega:(t0.length:Int)<=60),yb0,yc0 hl,yu1]
  rw[show zzo (t0,false,t0,(t0.length:Int),true,true,t0,t0,false,t0,t0,(t0.length:Int),0,())=_ from
   zcj (B:=λd=>zex d.1 d.2.1 d.2.2.1 d.2.2.2.1 d.2.2.2.2.1 d.2.2.2.2.2.1 d.2.2.2.2.2.2.1 d.2.2.2.2.2.2.2.1 d.2.2.2.2.2.2.2.2.1 d.2.2.2.2.2.2.2.2.2.1 d.2.2.2.2.2.2.2.2.2.2.1 d.2.2.2.2.2.2.2.2.2.2.2.1 d.2.2.2.2.2.2.2.2.2.2.2.2.1) t0 (λx=> !za6 x)
   (λi=>(t0,false,t0,(t0.length:Int),true,true,t0,t0,false,t0,t0,(t0.length:Int),(i:Int),())) (λi=>.inr (t0,false,t0,(t0.length:Int),true,true,t0,t0,false,t0,(i:Int),())) (.inl (t0,false,t0,(t0.length:Int),true,true,t0,t0,false,t0,()))
   (λi hi hq=>by
     show zex _ _ _ _ _ _ _ _ _ _ t0 t0.length i=_;unfold zex zo4;rw[yc0 (by omega:(i:Int)<(t0.length:Int)),yb0,zq hi,yb0,toNat_cast,qo hi,qe9 _ (Sm.order hs hi),ya0,ya0];dsimp only;rw[hq,yd0,wrap64 (by omega) (by omega)];rfl)
   (λi hi hq=>by
     show zex _ _ _ _ _ _ _ _ _ _ t0 t0.length i=_;unfold zex zo4;rw[yc0 (by omega:(i:Int)<(t0.length:Int)),yb0,zq hi,yb0,toNat_cast,qo hi,qe9 _ (Sm.order hs hi),ya0,ya0];dsimp only;rw[hq,yb0])
   (by
     show zex _ _ _ _ _ _ _ _ _ _ t0 t0.length t0.length=_;unfold zex;rw[yi0 (yh1 _),yd0])]
  cases h:t0.any λx=> !za6 x
  ·rfl
  ·simp
 ·rw[yi0 (by omega:¬(t0.length:Int)<=60),yd0,yi0 hl];rfl
end R.O
end

section
/- Orders as texts: both sides write the same. -/
open Go Go.Dn
namespace R.O
def pairT (a b:Nat):List UInt8:=if a=b then dec a else(dec a++[44])++dec b
theorem zb0 {a b:Nat}(ha:a<=10000)(hb:b<=10000):(pairT a b).length<=43:=by
 have:=zbu a (by omega);have:=zbu b (by omega);unfold pairT;split
 ·omega
 ·simp only[ye0,yf0,yp0];omega
theorem zlk {a b:Nat}(ha:a<=10000)(hb:b<=10000):zdu (a:Int) (b:Int)=some ((pairT a b,()),()):=by
 have h1:=zbu a (by omega);have h2:=zbu b (by omega);unfold zdu pairT;rw[ztk a (by omega),ztk b (by omega)];by_cases h:a=b
 ·rw[yx0 h,show((a:Int)==(b:Int))=true from by rw[h];exact yl1 _];rfl
 ·rw[yw0 h,show((a:Int)==(b:Int))=false from beq_eq_false_iff_ne.2 (by omega),yd0,ya0]
  dsimp only;rw[yc0 (by simp only[yf0,yp0];omega),yb0,ya0];dsimp only;rw[yc0 (by simp only[ye0,yf0,yp0];omega),yb0]
theorem zlj {a b:Nat}(ha:a<=10000)(hb:b<=10000):zju (a:Int) (b:Int)=some ((pairT a b,()),()):=by
 have h1:=zbu a (by omega);have h2:=zbu b (by omega);unfold zju pairT;rw[zlt a (by omega),zlt b (by omega)];by_cases h:a=b
 ·rw[yx0 h,show((a:Int)==(b:Int))=true from by rw[h];exact yl1 _];rfl
 ·rw[yw0 h,show((a:Int)==(b:Int))=false from beq_eq_false_iff_ne.2 (by omega),yd0,ya0]
  dsimp only;rw[yc0 (by simp only[yf0,yp0];omega),yb0,ya0];dsimp only;rw[yc0 (by simp only[ye0,yf0,yp0];omega),yb0]
theorem q1t:∀xs:TX,Go.Lib.join xs []=xs.flatten
 |[]=>rfl
 |x::r=>by
  rw[Go.Lib.join_cons]
  have:∀r:TX,Go.Lib.joinTail [] r=r.flatten:=λr=>by
   unfold Go.Lib.joinTail;rw[show(r.map λs=>([]:List UInt8)++s)=r from by rw[show(λs:List UInt8=>([]:List UInt8)++s)=id from funext λs=>rfl,List.map_id]]
  rw[this,yd1]
theorem znk:∀{l:TX},(∀s∈l,s.length<=30)->l.flatten.length<=30*l.length
 |[],_=>by simp
 |s::l,h=>by
  have h1:=h s (yk0 ..);have h2:=znk (l:=l) λy hy=>h y (yg0 _ hy);rw[yd1,ye0,yf0,Nat.mul_add];omega
theorem jbi (l:TX)(hl:l.length<=40)(h:∀s∈l,s.length<=30):zin l=some ((l.flatten,()),()):=by
 have hF:=zb2 (B:=λd=>zc6 d.1 d.2.1 d.2.2.1 d.2.2.2.1) l (λ(o:List UInt8) s=>o++s) (λo i=>(o,l,(l.length:Int),(i:Int),())) (λo=>(o,())) (λi o=>o.length<=30*i)
  (λi hi o hI=>by
    have h0:=h _ (yk1 hi);refine⟨by rw[ye0];omega,?_⟩;show zc6 o l l.length i=_;unfold zc6;rw[yc0 (by omega:(i:Int)<(l.length:Int)),yb0,zq hi,yb0,toNat_cast,qo hi,yc0 (by omega),yb0,wrap64 (by omega) (by omega)];rfl)
  (λo hI=>by
    show zc6 o l l.length l.length=_;unfold zc6;rw[yi0 (yh1 _),yd0]) [] (ye1 _)
 unfold zin;rw[show zuy ([],l,(l.length:Int),0,())=_ from hF.1,ya0];dsimp only
 have hm:∀(l:TX) (o:List UInt8),l.foldl (λ(o:List UInt8) s=>o++s) o=o++l.flatten:=by
  intro l
  induction l with
  |nil=>intro o;simp
  |cons s l ih=>intro o;rw[List.foldl_cons,ih,yd1,yj0]
 rw[hm,yn1]
theorem jbj (l:TX)(hl:l.length<=40)(h:∀s∈l,s.length<=30):zpa l []=some ((l.flatten,()),()):=by
 have:=znk h;unfold zpa zth;rw[q1t,yc0 (by omega),yc0 (by omega)];rfl
def zdl (k:Int):List UInt8:=gs0.getD k.toNat []
def newT (l:TX):List UInt8:=if 0<l.length then l.flatten++[46,10] else[]
def ordT (x:PV qh):List UInt8:=((pairT x.2.1.toNat x.2.2.1.toNat++zdl x.1)++[10])++newT x.2.2.2.1
theorem q7v {l:TX}(h:zdd l=true):l.length<=40/\∀s∈l,s.length<=30:=by
 unfold zdd inI at h;simp only[yh0,yr0,yi1] at h;refine⟨by omega,λs hs=> ?_⟩;have h1:=List.any_eq_false.1 h.2 s hs;unfold badO at h1;cases hl:jk s with
 |false=>rw[hl] at h1;exact absurd rfl h1
 |true=>exact(zca hl).2
theorem kinds {k:Int}{e g f z:Bool}(h:(bif k==1 then e&&f else bif k==2 then e&&(g&&f) else bif k==3 then g&&f else bif k==4 then g&&z else bif k==5 then g&&(e&&z) else false)=true):(1<=k/\k<=5)/\(f=true\/z=true):=by
 by_cases k1:k=1
 ·subst k1;cases e<;>cases g<;>cases f<;>cases z<;>simp_all
 by_cases k2:k=2
 ·subst k2;cases e<;>cases g<;>cases f<;>cases z<;>simp_all
 by_cases k3:k=3
 ·subst k3;cases e<;>cases g<;>cases f<;>cases z<;>simp_all
 by_cases k4:k=4
 ·subst k4;cases e<;>cases g<;>cases f<;>cases z<;>simp_all
 by_cases k5:k=5
 ·subst k5;cases e<;>cases g<;>cases f<;>cases z<;>simp_all
 ·simp[k1,k2,k3,k4,k5] at h
theorem zk4 {x:PV qh}(h:za6 x=true):(∃a:Nat,x.2.1=(a:Int)/\a<=1000)/\(∃b:Nat,x.2.2.1=(b:Int)/\b<=1000)/\(1<=x.1/\x.1<=5)/\List.length x.2.2.2.1<=40/\∀s∈(x.2.2.2.1:TX),s.length<=30:=by
 unfold za6 inI at h;rw[yh0] at h;obtain⟨h1,h2⟩:=h;simp only[yh0,yr0] at h1
 have hk:(1<=x.1/\x.1<=5)/\(zdd x.2.2.2.1=true\/(List.length x.2.2.2.1:Int)=0):=by
  obtain⟨k1,k2⟩:=kinds (k:=x.1) h2;exact⟨k1,k2.imp id λh=>beq_iff_eq.1 h⟩
 refine⟨⟨x.2.1.toNat,(Int.toNat_of_nonneg (by omega)).symm,by omega⟩,⟨x.2.2.1.toNat,(Int.toNat_of_nonneg (by omega)).symm,by omega⟩,hk.1,?_⟩;rcases hk.2 with hf|h0
 ·exact q7v hf
 ·have:List.length x.2.2.2.1=0:=by omega
  exact⟨by omega,λs hs=>by rw[yt0 this] at hs;cases hs⟩
theorem zxh {k:Int}(h:1<=k/\k<=5):(zdl k).length<=5:=by
 have:k=1\/k=2\/k=3\/k=4\/k=5:=by omega
 rcases this with rfl|rfl|rfl|rfl|rfl<;>decide
theorem q7w {l:TX}(hl:l.length<=40)(h:∀s∈l,s.length<=30):(newT l).length<=1202:=by
 have:=znk h;unfold newT;split
 ·simp only[ye0,yf0,yp0];omega
 ·exact ye1 _
theorem qdy {x:PV qh}(h:za6 x=true):(ordT x).length<=1300:=by
 obtain⟨⟨a,ea,ha⟩,⟨b,eb,hb⟩,hk,hl,hs⟩:=zk4 h;have h1:=zb0 (a:=a) (b:=b) (by omega) (by omega);have h2:=zxh hk;have h3:=q7w hl hs;unfold ordT;rw[ea,eb,toNat_cast,toNat_cast];simp only[ye0,yf0,yp0];omega
theorem in6 {k:Int}(h:1<=k/\k<=5):inB k 6=true:=by
 have:k=1\/k=2\/k=3\/k=4\/k=5:=by omega
 rcases this with rfl|rfl|rfl|rfl|rfl<;>decide
theorem zog {x:PV qh}(h:za6 x=true){l:List (PV qh)}{i:Nat}(hi:i<l.length)(hx:l[i]=x)(hll:l.length<=60){o:List UInt8}(ho:o.length<=1300*i):
 zhm o l (l.length:Int) (i:Int)=some (.inl (o++ordT x,l,(l.length:Int),((i+1:Nat):Int),())):=by
 obtain⟨⟨a,ea,ha⟩,⟨b,eb,hb⟩,hk,hl,hs⟩:=zk4 h;have h1:=zb0 (a:=a) (b:=b) (by omega) (by omega);have h2:=zxh hk;have h3:=znk hs;unfold zhm;rw[yc0 (by omega:(i:Int)<(l.length:Int)),yb0,zq hi,yb0,toNat_cast,qo hi,hx,ea,eb,zlk (by omega) (by omega),ya0];rw[show gs0.length=6 from rfl,in6 hk,yb0,show gs0.getD x.1.toNat []=zdl x.1 from rfl];dsimp only;rw[yc0 (by omega),yb0,yc0 (by simp only[ye0,yf0,yp0];omega),yb0,jbj _ hl hs,ya0];dsimp only;rw[yc0 (by simp only[ye0,yf0,yp0];omega),yb0,yc0 (by simp only[ye0,yf0,yp0];omega),yb0];unfold ordT newT;rw[ea,eb,toNat_cast,toNat_cast];by_cases h0:0<List.length x.2.2.2.1
 ·rw[yc0 (by omega:(List.length x.2.2.2.1:Int)>0),yb0,yc0 (by simp only[ye0,yf0,yp0];omega),yb0,yx0 h0,ya0]
  dsimp only;rw[wrap64 (by omega) (by omega)];simp only[yj0,Int.natCast_add];rfl
 ·rw[yi0 (by omega:¬(List.length x.2.2.2.1:Int)>0),yd0,yw0 h0,ya0]
  dsimp only;rw[wrap64 (by omega) (by omega)];rw[yt0 (l:=x.2.2.2.1) (by omega)];simp only[yj0,List.flatten_nil,yz0,Int.natCast_add];rfl
theorem zoh {x:PV qh}(h:za6 x=true){l:List (PV qh)}{i:Nat}(hi:i<l.length)(hx:l[i]=x)(hll:l.length<=60){o:List UInt8}(ho:o.length<=1300*i):
 zia o l (l.length:Int) (i:Int)=some (.inl (o++ordT x,l,(l.length:Int),((i+1:Nat):Int),())):=by
 obtain⟨⟨a,ea,ha⟩,⟨b,eb,hb⟩,hk,hl,hs⟩:=zk4 h;have h1:=zb0 (a:=a) (b:=b) (by omega) (by omega);have h2:=zxh hk;have h3:=znk hs;unfold zia zp5;rw[yc0 (by omega:(i:Int)<(l.length:Int)),yb0,zq hi,yb0,toNat_cast,qo hi,hx,ea,eb,zlj (by omega) (by omega),ya0,ya0];dsimp only;rw[show([[],[97],[105],[99],[100],[115,47,46,47,47]]:TX)=gs0 from rfl,show List.length gs0=6 from rfl,in6 hk,yb0,show gs0.getD x.1.toNat []=zdl x.1 from rfl];rw[yc0 (by omega),yb0,yc0 (by simp only[ye0,yf0,yp0];omega),yb0,yc0 (by simp only[ye0,yf0,yp0];omega),yb0];unfold ordT newT;rw[ea,eb,toNat_cast,toNat_cast];by_cases h0:0<List.length x.2.2.2.1
 ·rw[yc0 (by omega:(List.length x.2.2.2.1:Int)>0),yb0,jbi _ hl hs,ya0]
  dsimp only;rw[yc0 (by simp only[yf0,yp0];omega),yb0,yc0 (by simp only[ye0,yf0,yp0];omega),yb0,yx0 h0,ya0];dsimp only;rw[wrap64 (by omega) (by omega)];simp only[yj0,Int.natCast_add];rfl
 ·rw[yi0 (by omega:¬(List.length x.2.2.2.1:Int)>0),yd0,yw0 h0,ya0]
  dsimp only;rw[wrap64 (by omega) (by omega)];simp only[yj0,yz0,Int.natCast_add];rfl
def zba (l:List (PV qh)):List UInt8:=l.flatMap ordT
theorem zss {l:List (PV qh)}(h:zbg l=true):l.length<=60/\∀x∈l,za6 x=true:=by
 unfold zbg at h;rw[yh0,yr0,yi1] at h;exact⟨h.1,λx hx=>by simpa using List.any_eq_false.1 h.2 x hx⟩
theorem zx2 {l:List (PV qh)}(h:zbg l=true):zt4 ([],l,(l.length:Int),0,())=some (zba l,()):=by
 obtain⟨hl,hg⟩:=zss h
 have hF:=zb2 (B:=λd=>zhm d.1 d.2.1 d.2.2.1 d.2.2.2.1) l (λ(o:List UInt8) x=>o++ordT x) (λo i=>(o,l,(l.length:Int),(i:Int),())) (λo=>(o,())) (λi o=>o.length<=1300*i)
  (λi hi o hI=>by
    have hx:=hg _ (yk1 hi);have:=qdy hx;exact⟨by rw[ye0];omega,zog hx hi rfl hl hI⟩)
  (λo hI=>by
    show zhm o l l.length l.length=_;unfold zhm;rw[yi0 (yh1 _),yd0]) [] (ye1 _)
 rw[show zt4 ([],l,(l.length:Int),0,())=_ from hF.1,zcr];rfl
theorem zx3 {l:List (PV qh)}(h:zbg l=true):zuz ([],l,(l.length:Int),0,())=some (zba l,()):=by
 obtain⟨hl,hg⟩:=zss h
 have hF:=zb2 (B:=λd=>zia d.1 d.2.1 d.2.2.1 d.2.2.2.1) l (λ(o:List UInt8) x=>o++ordT x) (λo i=>(o,l,(l.length:Int),(i:Int),())) (λo=>(o,())) (λi o=>o.length<=1300*i)
  (λi hi o hI=>by
    have hx:=hg _ (yk1 hi);have:=qdy hx;exact⟨by rw[ye0];omega,zoh hx hi rfl hl hI⟩)
  (λo hI=>by
    show zia o l l.length l.length=_;unfold zia;rw[yi0 (yh1 _),yd0]) [] (ye1 _)
 rw[show zuz ([],l,(l.length:Int),0,())=_ from hF.1,zcr];rfl
def oOk (l:List (PV qh)):Bool:=zbg l&&decide ((zba l).length<=3000)
def oR (l:List (PV qh)):List UInt8:=if oOk l=true then zba l else[]
theorem zyn {l:List (PV qh)}(hs:tot zn l<=4611686018427387904):zpb l=some ((oR l,oOk l,()),()):=by
 unfold zpb oR oOk ziq;rw[q7u l hs,ya0];dsimp only;cases hg:zbg l
 ·rfl
 ·rw[ys0,yd0,zx2 hg,ya0]
  dsimp only;by_cases h:(zba l).length<=3000
  ·rw[yi0 (by omega:¬((zba l).length:Int)>3000),yc0 h];rfl
  ·rw[yc0 (by omega:((zba l).length:Int)>3000),yi0 h];rfl
end R.O
end

section
/- Orders, read: the leaves on both sides. -/
open Go Go.Dn
namespace R.O.V
theorem zn7 (s:List UInt8)(h1:1<=s.length)(hs:s.length<=100000):zgm s=some ((qm s,()),()):=by
 unfold zgm qm;rw[zg9 s h1 (by omega),ya0];dsimp only;cases h:endP s
 ·rfl
 ·rw[yb0,yb0,wrap64 (by omega) (by omega),show(s.length:Int) -1=((s.length -1:Nat):Int) by omega]
  rw[show cutB 0 ((s.length -1:Nat):Int) s.length=true from by unfold cutB;simp,yb0];unfold cutL;simp
theorem znl (s:List UInt8):(qm s).length<=s.length:=by
 unfold qm;cases endP s
 ·exact ym0 _
 ·rw[yb0,yp1];omega
theorem zvx (t:List UInt8):qm (t++[10])=t:=by
 unfold qm endP;simp
def sg5:List UInt8:=[97,105,99,100,115]
def dotL:List UInt8:=[46,10]
theorem zsa (ch:List UInt8):∀l:List UInt8,Lib.indexAny l ch= -1\/(0<=Lib.indexAny l ch/\Lib.indexAny l ch<(l.length:Int))
 |[]=>.inl rfl
 |b::l=>by
  have ih:=zsa ch l;unfold Lib.indexAny;split
  ·right;simp only[yf0];omega
  ·split
   ·left;rfl
   ·rename_i h
    rcases ih with ih|ih
    ·rw[ih] at h;exact absurd rfl h
    ·right;simp only[yf0];omega
theorem zx4 {ch:List UInt8}{c:UInt8}(r:List UInt8)(hc:ch.contains c=true):∀{p:List UInt8},(∀b∈p,ch.contains b=false)->Lib.indexAny (p++c::r) ch=(p.length:Int)
 |[],_=>by
  show Lib.indexAny (c::r) ch=0;unfold Lib.indexAny;rw[yx0 hc]
 |b::p,h=>by
  have ih:=zx4 (p:=p) r hc λx hx=>h x (yg0 _ hx);show Lib.indexAny (b::(p++c::r)) ch=_;unfold Lib.indexAny;rw[h b (yk0 ..),ih];have:¬((p.length:Int)==-1)=true:=by simp
  rw[yw0 (by simp),yw0 this,yf0];omega
theorem zy2 (s:List UInt8)(hs:s.length<=100000):zhj s [97,105,99,100,115]=some ((Lib.indexAny s sg5,()),()):=by
 unfold zhj zm9;rw[yc0 (by omega:s.length<=4000000000)];rfl
def idx (xs:TX)(u:List UInt8):Int:=if xs.any (u==·)=true then(xs.findIdx (u==·):Nat) else -1
theorem jaf (xs:TX)(u:List UInt8):idx xs u= -1\/(0<=idx xs u/\idx xs u<(xs.length:Int)):=by
 unfold idx;split
 ·rename_i h
  right;have hlt:xs.findIdx (u==·)<xs.length:=List.findIdx_lt_length.2 (by simpa using h);omega
 ·exact .inl rfl
theorem jbk {xs:TX}{u:List UInt8}(r:TX)(h:∀x∈xs,x≠u):idx (xs++u::r) u=(xs.length:Int):=by
 unfold idx;rw[yx0 (by simp),List.findIdx_append,List.findIdx_cons]
 have:xs.findIdx (u==·)=xs.length:=by
  rw[List.findIdx_eq_length];intro x hx;exact beq_eq_false_iff_ne.2 λe=>h x hx e.symm
 rw[this];simp
theorem qfa (xs:TX)(u:List UInt8)(hx:xs.length<=100000):zly xs u=some ((idx xs u,()),()):=by
 have hF:=zcj (B:=λd=>zev d.1 d.2.1 d.2.2.1 d.2.2.2.1) xs (u==·) (λi=>(xs,u,(xs.length:Int),(i:Int),())) (λi=>.inr ((i:Int),())) (.inl ())
  (λi hi hq=>by
    show zev xs u xs.length i=_;unfold zev;rw[yc0 (by omega:(i:Int)<(xs.length:Int)),yb0,zq hi,yb0,toNat_cast,qo hi,hq,yd0,wrap64 (by omega) (by omega)];rfl)
  (λi hi hq=>by
    show zev xs u xs.length i=_;unfold zev;rw[yc0 (by omega:(i:Int)<(xs.length:Int)),yb0,zq hi,yb0,toNat_cast,qo hi,hq,yb0])
  (by
    show zev xs u xs.length xs.length=_;unfold zev;rw[yi0 (yh1 _),yd0])
 unfold zly;rw[show zze (xs,u,(xs.length:Int),0,())=_ from hF,ya0];unfold idx;by_cases h:(List.any xs λx=>u==x)=true
 ·rw[yx0 h,yx0 h]
 ·rw[yw0 h,yw0 h]
theorem zek {n j:Nat}(h:j<=n):cutB (j:Int) (n:Int) n=true:=by unfold cutB;simp;omega
theorem zit {n j:Nat}(h:j<=n):cutB 0 (j:Int) n=true:=by unfold cutB;simp;omega
theorem zel {α:Type}(j:Nat)(l:List α):cutL (j:Int) (l.length:Int) l=l.drop j:=by unfold cutL;rw[toNat_cast,toNat_cast,List.take_length]
theorem znm {α:Type}(j:Nat)(l:List α):cutL 0 (j:Int) l=l.take j:=by unfold cutL;rw[toNat_cast];rfl
end R.O.V
end

section
/- Orders, read: one order of a text, on both sides, whatever the lines are. -/
open Go Go.Dn
namespace R.O.V
abbrev OR:=List (PV qh)
def zjh (l0:List UInt8):Option (Int×Nat×Nat):=
 if Lib.indexAny (qm l0) sg5<0 then none else
  match twoN ((qm l0).take (Lib.indexAny (qm l0) sg5).toNat) with
  |none=>none
  |some (n,m,_)=>if idx gs0 ((qm l0).drop (Lib.indexAny (qm l0) sg5).toNat)<1 then none else some (idx gs0 ((qm l0).drop (Lib.indexAny (qm l0) sg5).toNat),n,m)
abbrev RI:=(PV zf×PV zn×Unit)⊕((PV zn×Unit)⊕(PV zn×PV .bool×Unit))
def zd6:Option RI:=some (.inr (.inr ([],false,())))
def zou (l0:List UInt8)(t:TX)(out:OR):Option RI:=
 if out.length=60 then zd6 else
  match zjh l0 with
  |none=>zd6
  |some (k,n,m)=>
   if k<=3 then(if idx t dotL<0 then zd6 else some (.inl (t.drop ((idx t dotL).toNat+1),out++[(k,(n:Int),(m:Int),t.take (idx t dotL).toNat,())],())))
   else some (.inl (t,out++[(k,(n:Int),(m:Int),[],())],()))
theorem zog (l0:List UInt8)(t:TX)(out:OR)(h0:l0.length<=3000)(hn:t.length<=3000)(ho:out.length<=60):zd7 (l0::t) out=zou l0 t out:=by
 have hpl:=znl l0;unfold zd7 zou;rw[yc0 (by simp only[yf0];omega:(((l0::t).length:Nat):Int)>0),yb0,show inB 0 (l0::t).length=true from zq (i:=0) (by simp),yb0,show(l0::t).getD ((0:Int).toNat) []=l0 from rfl,zn5 l0 (by omega),ya0];dsimp only;rw[zaj,yb0,zy2 _ (by omega),ya0];dsimp only;rw[drop_one];rcases zsa sg5 (qm l0) with hi|⟨hi1,hi2⟩
 ·rw[hi]
  have:zjh l0=none:=by unfold zjh;rw[hi];rfl
  rw[this];dsimp only;split<;>rfl
 ·obtain⟨j,hj⟩:∃j:Nat,Lib.indexAny (qm l0) sg5=(j:Int):=⟨_,(Int.toNat_of_nonneg hi1).symm⟩
  rw[hj] at hi2 ⊢;have hjl:j<=(qm l0).length:=by omega
  rw[yi0 (by omega:¬(j:Int)<0),yd0,ya0];dsimp only;by_cases h60:out.length=60
  ·rw[yx0 h60,show((out.length:Int)==60)=true from by rw[h60];rfl]
   rfl
  ·rw[yw0 h60,show((out.length:Int)==60)=false from beq_eq_false_iff_ne.2 (by omega),yd0,zek hjl,yb0,zel,qfa gs0 _ (by decide),ya0]
   dsimp only;rw[zit hjl,yb0,znm];unfold zjh;rw[hj,yw0 (by omega:¬(j:Int)<0),toNat_cast];rcases znb ((qm l0).take j) (by rw[yp1];omega) with⟨n,m,b,h1,h2⟩|⟨h1,n,m,b,h2⟩
   ·rw[h1,h2,ya0]
    dsimp only;rw[ys0,yd0,ya0];dsimp only;by_cases hk:idx gs0 ((qm l0).drop j)<1
    ·rw[yx0 hk,yc0 hk]
     rfl
    ·rw[yw0 hk,yi0 hk,yd0]
     dsimp only;have hr:∀x:List (PV .str),qw (out.length+[((idx gs0 ((qm l0).drop j),((n:Int),((m:Int),(x,())))):PV qh)].length)=true:=λx=>jq (by simp only[yf0,yp0];omega);by_cases hk3:idx gs0 ((qm l0).drop j)<=3
     ·rw[yx0 hk3,yc0 hk3,yb0,show([46,10]:List UInt8)=dotL from rfl,qfa t dotL (by omega),ya0]
      dsimp only;rcases jaf t dotL with he|⟨he1,he2⟩
      ·rw[he]
       rfl
      ·obtain⟨e,hee⟩:∃e:Nat,idx t dotL=(e:Int):=⟨_,(Int.toNat_of_nonneg he1).symm⟩
       rw[hee] at he2 ⊢;have hel:e+1<=t.length:=by omega
       rw[yw0 (by omega:¬(e:Int)<0),yi0 (by omega:¬(e:Int)<0),yd0,zit (by omega),yb0,znm];unfold ztu;rw[jq (by rw[yp1];simp only[yp0];omega),yb0,ya0];dsimp only;rw[wrap64 (by omega) (by omega),show(e:Int)+1=((e+1:Nat):Int) by omega,zek hel,yb0,zel,ya0];dsimp only;rw[yn1,hr,yb0,toNat_cast]
     ·rw[yw0 hk3,yi0 hk3,yd0,ya0]
      dsimp only;rw[hr,yb0]
   ·rw[h1,h2]
    rfl
def zbq (l0:List UInt8):Int×Int×Int×Bool:=
 (kdS gs0 ((qm l0).dropWhile hdB) 6,(endR 0 ((qm l0).takeWhile hdB)).1,(endR 0 ((qm l0).takeWhile hdB)).2.1,(endR 0 ((qm l0).takeWhile hdB)).2.2.1&&decide (0<kdS gs0 ((qm l0).dropWhile hdB) 6))
theorem zoe (s:List UInt8)(hs:s.length<=3000):zqx (qm s)=some ((((zbq s).1,((zbq s).2.1,((zbq s).2.2.1,([],())))),(zbq s).2.2.2,()),()):=by
 have:=znl s;have h2:=zyh (qm s);unfold zqx zoq;rw[yc0 (by omega:(qm s).length<=100000),yb0,zqk _ (by omega),ya0];rfl
def nd (x:List UInt8):Bool:= !(x==dotL)
abbrev RS:=(PV .str×PV zf×PV zn×Unit)⊕((PV .str×PV zn×Unit)⊕(PV zn×PV (.int .i64)×PV .bool×Unit))
def ztm:Option RS:=some (.inr (.inr ([],1,false,())))
def stepS (s l0:List UInt8)(t:TX)(out:OR):Option RS:=
 if (zbq l0).2.2.2=false then ztm
 else if (zbq l0).1<=3 then
  (if (t.dropWhile nd).length=0 then ztm else some (.inl (s,(t.dropWhile nd).drop 1,out++[((zbq l0).1,(zbq l0).2.1,(zbq l0).2.2.1,t.takeWhile nd,())],())))
 else some (.inl (s,t,out++[((zbq l0).1,(zbq l0).2.1,(zbq l0).2.2.1,[],())],()))
theorem qfw (s:List UInt8)(out:OR)(k n m:Int):∀(t a:TX),a.length+t.length<=3000->z0i (s,t,out,(k,(n,(m,(a,())))),())=some (s,t.dropWhile nd,out,(k,(n,(m,(a++t.takeWhile nd,())))),())
 |[],a,_=>by
  refine jm (B:=λd=>zdn d.1 d.2.1 d.2.2.1 d.2.2.2.1) ?_;show zdn s [] out _=_;unfold zdn;rw[List.dropWhile_nil,List.takeWhile_nil,yz0];rfl
 |x::t,a,h=>by
  simp only[yf0] at h;have hd:decide ((((x::t).length:Nat):Int)>0)=true:=yc0 (by simp only[yf0];omega);have hi:inB 0 (x::t).length=true:=zq (i:=0) (by simp);cases hx:x==dotL
  ·have hg:zdn s (x::t) out (k,(n,(m,(a,()))))=some (.inl (s,t,out,(k,(n,(m,(a++[x],())))),())):=by
    unfold zdn;rw[hd,yb0,hi,yb0,show(x::t).getD ((0:Int).toNat) []=x from rfl,show(x==[46,10])=false from hx,yb1,yb0,yb0];dsimp only;rw[jq (by simp only[yf0,yp0];omega),yb0,zaj,yb0,drop_one]
   have:=qfw s out k n m t (a++[x]) (by rw[ye0];simp only[yf0,yp0];omega);refine Eq.trans (zan (B:=λd=>zdn d.1 d.2.1 d.2.2.1 d.2.2.2.1) (s:=(s,x::t,out,(k,(n,(m,(a,())))),())) hg) (Eq.trans this ?_);rw[List.dropWhile_cons,List.takeWhile_cons,show nd x=true from by unfold nd;rw[hx];rfl,yx0 rfl,yx0 rfl,yj0];rfl
  ·refine jm (B:=λd=>zdn d.1 d.2.1 d.2.2.1 d.2.2.2.1) ?_
   show zdn s (x::t) out _=_;unfold zdn;rw[hd,yb0,hi,yb0,show(x::t).getD ((0:Int).toNat) []=x from rfl,show(x==[46,10])=true from hx,ys0,yd0];rw[List.dropWhile_cons,List.takeWhile_cons,show nd x=false from by unfold nd;rw[hx];rfl];simp
theorem zoh (s l0:List UInt8)(t:TX)(out:OR)(h1:1<=l0.length)(h0:l0.length<=3000)(hn:t.length<=3000)(ho:out.length<=3000):ze8 s (l0::t) out=stepS s l0 t out:=by
 unfold ze8 stepS;rw[yc0 (by simp only[yf0];omega:(((l0::t).length:Nat):Int)>0),yb0,show inB 0 (l0::t).length=true from zq (i:=0) (by simp),yb0,show(l0::t).getD ((0:Int).toNat) []=l0 from rfl,zn7 l0 h1 (by omega),ya0];dsimp only;rw[zoe l0 h0,ya0];dsimp only;cases hq:(zbq l0).2.2.2
 ·rw[yx0 rfl];rfl
 ·rw[yw0 (by simp),ys0,yd0,zaj,yb0,drop_one]
  have hr:∀x:PV qh,qw (out.length+[x].length)=true:=λx=>jq (by simp only[yf0,yp0];omega);by_cases hk:(zbq l0).1<=3
  ·rw[yx0 hk,yc0 hk,yb0,qfw s out _ _ _ t [] (by simp only[yp0];omega),ya0]
   dsimp only;have hdl:(t.dropWhile nd).length<=t.length:=(List.dropWhile_sublist (l:=t) nd).length_le;by_cases hz:(t.dropWhile nd).length=0
   ·rw[yx0 hz,show(((t.dropWhile nd).length:Int)==0)=true from by rw[hz];rfl]
    rfl
   ·rw[yw0 hz,show(((t.dropWhile nd).length:Int)==0)=false from beq_eq_false_iff_ne.2 (by omega),yd0]
    rw[show cutB 1 ((t.dropWhile nd).length:Int) (t.dropWhile nd).length=true from zek (j:=1) (by omega),yb0,show cutL 1 ((t.dropWhile nd).length:Int) (t.dropWhile nd)=(t.dropWhile nd).drop 1 from zel 1 _,ya0];dsimp only;rw[hr,yb0,yn1]
  ·rw[yw0 hk,yi0 hk,yd0,ya0]
   dsimp only;rw[hr,yb0]
end R.O.V
end

section
/- Orders, read: both readers end, whatever the lines are. -/
open Go Go.Dn
namespace R.O.V
def OW (x:PV qh):Prop:=List.length x.2.2.2.1<=3000/\∀l∈(x.2.2.2.1:TX),l.length<=3000
theorem zlo {e:TypeId}{t:Ty}{c:Nat}:∀{l:List (PV t)},(∀x∈l,tot t x<=c)->tot (.slice e t) l<=(c+1)*l.length:=by
 intro l h;have:tot (.slice e t) l=l.length+(l.map (tot t)).sum:=zgs;rw[this]
 have hs:(l.map (tot t)).sum<=c*l.length:=by
  clear this
  induction l with
  |nil=>simp
  |cons x l ih=>
   have h1:=h x (yk0 ..);have h2:=ih λy hy=>h y (yg0 _ hy);rw[List.map_cons,List.sum_cons,yf0,Nat.mul_add];omega
 rw[Nat.add_mul,Nat.one_mul];omega
theorem OW.tot {gs:OR}(hl:gs.length<=3000)(h:∀x∈gs,OW x):tot zn gs<=4611686018427387904:=by
 have hx:∀x∈gs,Go.Dn.tot qh x<=10000000:=λx hx=>by
  obtain⟨h1,h2⟩:=h x hx
  have h3:Go.Dn.tot zf x.2.2.2.1<=(3000+1)*List.length x.2.2.2.1:=zlo λs hs=>by
   have:=h2 s hs;rw[zn0];exact this
  simp only[Go.Dn.tot] at h3 ⊢;omega
 have h5:Go.Dn.tot zn gs<=(10000000+1)*gs.length:=zlo hx;omega
noncomputable abbrev BI (d:PV zf×PV zn×Unit):=zd7 d.1 d.2.1
theorem go_I {ls:TX}{out:OR}{d r}(h:zd7 ls out=some (.inl d))(h2:zdo d=some r):zdo (ls,out,())=some r:=Eq.trans (zan (B:=BI) (s:=(ls,out,())) (t:=d) h) h2
theorem zdk {ls:TX}{out:OR}{r}(h:zd7 ls out=some (.inr r)):zdo (ls,out,())=some r:=jm (B:=BI) (s:=(ls,out,())) h
theorem zy3:∀(n:Nat) (ls:TX) (out:OR),ls.length<=n->ls.length<=3000->(∀l∈ls,l.length<=3000)->out.length<=60->(∀x∈out,OW x)->
 ∃gs:OR,gs.length<=60/\(∀x∈gs,OW x)/\(zdo (ls,out,())=some (.inl (gs,()))\/zdo (ls,out,())=some (.inr (gs,false,()))):=by
 have fail:∀{ls:TX} {out:OR},zd7 ls out=zd6->∃gs:OR,gs.length<=60/\(∀x∈gs,OW x)/\(zdo (ls,out,())=some (.inl (gs,()))\/zdo (ls,out,())=some (.inr (gs,false,()))):=
  λh=>⟨[],ye1 _,λx hx=>(by cases hx),.inr (zdk h)⟩
 intro n
 induction n with
 |zero=>
  intro ls out h _ _ ho hg;obtain rfl:ls=[]:=yt0 (by omega);exact⟨out,ho,hg,.inl (zdk rfl)⟩
 |succ n ih=>
  intro ls out h h1 hm ho hg;cases ls with
  |nil=>exact⟨out,ho,hg,.inl (zdk rfl)⟩
  |cons l0 t=>
   simp only[yf0] at h h1;have hs:=zog l0 t out (hm l0 (yk0 ..)) (by omega) ho;have hmt:∀l∈t,l.length<=3000:=λl hl=>hm l (yg0 _ hl)
   have push:∀(x:PV qh) (r:TX),out.length<60->OW x->r.length<=t.length->(∀l∈r,l∈t)->zd7 (l0::t) out=some (.inl (r,out++[x],()))->
    ∃gs:OR,gs.length<=60/\(∀x∈gs,OW x)/\(zdo (l0::t,out,())=some (.inl (gs,()))\/zdo (l0::t,out,())=some (.inr (gs,false,()))):=by
    intro x r h60 hx hr hmem hb
    obtain⟨gs,q1,q2,q3⟩:=ih r (out++[x]) (by omega) (by omega) (λl hl=>hmt l (hmem l hl)) (by simp;omega) (λy hy=>by
     rcases List.mem_append.1 hy with hy|hy
     ·exact hg y hy
     ·obtain rfl:=List.mem_singleton.1 hy
      exact hx)
    exact⟨gs,q1,q2,q3.imp (go_I hb) (go_I hb)⟩
   unfold zou at hs;by_cases h60:out.length=60
   ·rw[yx0 h60] at hs;exact fail hs
   ·rw[yw0 h60] at hs
    cases hh:zjh l0 with
    |none=>rw[hh] at hs;exact fail hs
    |some q=>
     obtain⟨k,a,b⟩:=q;rw[hh] at hs;dsimp only at hs;by_cases hk:k<=3
     ·rw[yx0 hk] at hs
      by_cases hi:idx t dotL<0
      ·rw[yx0 hi] at hs;exact fail hs
      ·rw[yw0 hi] at hs
       exact push _ _ (by omega) ⟨by show(t.take _).length<=3000;rw[yp1];omega,λl hl=>hmt l (List.mem_of_mem_take hl)⟩ (by rw[yc1];omega) (λl hl=>yy1 hl) hs
     ·rw[yw0 hk] at hs
      exact push _ _ (by omega) ⟨ye1 _,λl hl=>by cases hl⟩ (ym0 _) (λl hl=>hl) hs
theorem zwq (ls:TX)(h1:ls.length<=3000)(hm:∀l∈ls,l.length<=3000):∃(gs:OR) (q:Bool),zjo ls=some ((gs,q,()),())/\tot zn gs<=4611686018427387904:=by
 obtain⟨gs,q1,q2,q3⟩:=zy3 ls.length ls [] (ym0 _) h1 hm (ye1 _) (λx hx=>by cases hx);unfold zjo;rcases q3 with e|e
 ·rw[e];exact⟨gs,true,rfl,OW.tot (by omega) q2⟩
 ·rw[e];exact⟨gs,false,rfl,OW.tot (by omega) q2⟩
noncomputable abbrev BS (d:PV .str×PV zf×PV zn×Unit):=ze8 d.1 d.2.1 d.2.2.1
theorem go_S {s:List UInt8}{ls:TX}{out:OR}{d r}(h:ze8 s ls out=some (.inl d))(h2:zdp d=some r):zdp (s,ls,out,())=some r:=Eq.trans (zan (B:=BS) (s:=(s,ls,out,())) (t:=d) h) h2
theorem zeu {s:List UInt8}{ls:TX}{out:OR}{r}(h:ze8 s ls out=some (.inr r)):zdp (s,ls,out,())=some r:=jm (B:=BS) (s:=(s,ls,out,())) h
theorem zy4 (s:List UInt8):∀(n:Nat) (ls:TX) (out:OR),ls.length<=n->out.length+ls.length<=3000->(∀l∈ls,1<=l.length/\l.length<=3000)->(∀x∈out,OW x)->
 (∃gs:OR,gs.length<=3000/\(∀x∈gs,OW x)/\zdp (s,ls,out,())=some (.inl (s,gs,())))\/zdp (s,ls,out,())=some (.inr ([],1,false,())):=by
 intro n
 induction n with
 |zero=>
  intro ls out h h1 _ hg;obtain rfl:ls=[]:=yt0 (by omega);exact .inl ⟨out,by simpa using h1,hg,zeu rfl⟩
 |succ n ih=>
  intro ls out h h1 hm hg;cases ls with
  |nil=>exact .inl ⟨out,by simpa using h1,hg,zeu rfl⟩
  |cons l0 t=>
   simp only[yf0] at h h1;have hs:=zoh s l0 t out (hm l0 (yk0 ..)).1 (hm l0 (yk0 ..)).2 (by omega) (by omega);have hmt:∀l∈t,1<=l.length/\l.length<=3000:=λl hl=>hm l (yg0 _ hl)
   have push:∀(x:PV qh) (r:TX),OW x->r.length<=t.length->(∀l∈r,l∈t)->ze8 s (l0::t) out=some (.inl (s,r,out++[x],()))->
    (∃gs:OR,gs.length<=3000/\(∀x∈gs,OW x)/\zdp (s,l0::t,out,())=some (.inl (s,gs,())))\/zdp (s,l0::t,out,())=some (.inr ([],1,false,())):=by
    intro x r hx hr hmem hb
    rcases ih r (out++[x]) (by omega) (by simp;omega) (λl hl=>hmt l (hmem l hl)) (λy hy=>by
     rcases List.mem_append.1 hy with hy|hy
     ·exact hg y hy
     ·obtain rfl:=List.mem_singleton.1 hy
      exact hx) with⟨gs,q1,q2,q3⟩|q3
    ·exact .inl ⟨gs,q1,q2,go_S hb q3⟩
    ·exact .inr (go_S hb q3)
   unfold stepS at hs;by_cases hq:(zbq l0).2.2.2=false
   ·rw[yx0 hq] at hs;exact .inr (zeu hs)
   ·rw[yw0 hq] at hs
    by_cases hk:(zbq l0).1<=3
    ·rw[yx0 hk] at hs
     by_cases hz:(t.dropWhile nd).length=0
     ·rw[yx0 hz] at hs;exact .inr (zeu hs)
     ·rw[yw0 hz] at hs
      have hdl:(t.dropWhile nd).length<=t.length:=(List.dropWhile_sublist (l:=t) nd).length_le;have htl:(t.takeWhile nd).length<=t.length:=(List.takeWhile_sublist (l:=t) nd).length_le;exact push _ _ ⟨by show(t.takeWhile nd).length<=3000;omega,λl hl=>(hmt l ((List.takeWhile_sublist (l:=t) nd).mem hl)).2⟩ (by rw[yc1];omega) (λl hl=>(List.dropWhile_sublist (l:=t) nd).mem (yy1 hl)) hs
    ·rw[yw0 hk] at hs
     exact push _ _ ⟨ye1 _,λl hl=>by cases hl⟩ (ym0 _) (λl hl=>hl) hs
end R.O.V
end

section
/- Orders, read: what is written of good orders is read back by both; so both sides answer the same. -/
open Go Go.Dn
namespace R.O.V
theorem zxi {x:PV qh}(h:za6 x=true):(1:Int)<=x.1/\(5:Int)>=x.1:=(zk4 h).2.2.1
theorem zqy {x:PV qh}(h:za6 x=true):(x.2.1:Int)<=(x.2.2.1:Int)/\((3:Int)>=x.1->zdd x.2.2.2.1=true)/\((3:Int)<(x.1:Int)->x.2.2.2.1=([]:TX)):=by
 obtain⟨hk1,hk2⟩:=zxi h;unfold za6 inI at h;simp only[yh0,yr0] at h;obtain⟨⟨_,h1,_⟩,h2⟩:=h;refine⟨h1,λh3=> ?_,λh3=> ?_⟩
 ·have:(1:Int)=x.1\/(2:Int)=x.1\/(3:Int)=x.1:=by omega
  rcases this with e|e|e<;>rw[<-e] at h2<;>simp at h2
  ·exact h2.2
  ·exact h2.2.2
  ·exact h2.2
 ·have:(4:Int)=x.1\/(5:Int)=x.1:=by omega
  have h0:List.length x.2.2.2.1=0:=by
   rcases this with e|e<;>rw[<-e] at h2<;>simp at h2
   ·rw[h2.2];rfl
   ·rw[h2.2.2];rfl
  exact yt0 h0
theorem zr6 {s:List UInt8}(h1:jk s=true)(h2:endP s=true):isL s:=by
 unfold jk at h1;rw[yh0,yi1] at h1;unfold hasEnd at h1;unfold endP at h2;refine⟨s.take (s.length -1),?_,λhm=> ?_⟩
 ·have:=List.take_append_drop (s.length -1) s
  rw[eq_of_beq h2] at this;exact this.symm
 ·have:(s.take (s.length -1)).contains 10=true:=by simpa using hm
  rw[this] at h1;cases h1.2
theorem qdz {l:TX}(h:zdd l=true):1<=l.length/\∀s∈l,isL s/\s≠dotL:=by
 unfold zdd inI at h;simp only[yh0,yr0,yi1] at h;refine⟨by omega,λs hs=> ?_⟩;have h1:=List.any_eq_false.1 h.2 s hs;unfold badO at h1;simp only[yo1,yi1,not_or,Bool.not_eq_false,yy0] at h1;exact⟨zr6 h1.1 h1.2.1,h1.2.2⟩
theorem znq {a b:Nat}(ha:a<10000)(hb:b<10000):∀c∈pairT a b,isDg c=true\/c=44:=by
 intro c hc;unfold pairT at hc;split at hc
 ·exact .inl (zcx (zbs ha).1 c hc)
 ·rcases List.mem_append.1 hc with hc|hc
  ·rcases List.mem_append.1 hc with hc|hc
   ·exact .inl (zcx (zbs ha).1 c hc)
   ·exact .inr (List.mem_singleton.1 hc)
  ·exact .inl (zcx (zbs hb).1 c hc)
theorem zst {c:UInt8}(h:isDg c=true\/c=44):hdB c=true/\sg5.contains c=false/\c≠10:=by
 rcases h with h|rfl
 ·have h':=h
  unfold isDg at h';rw[yh0,yr0,yr0] at h';refine⟨by unfold hdB;rw[yc0 h'.1,yc0 h'.2];rfl,?_,λe=>by rw[e] at h;cases h⟩;have key:∀d:UInt8,isDg d=false->(c==d)=false:=λd hd=>beq_eq_false_iff_ne.2 λe=>by rw[e,hd] at h;cases h
  unfold sg5;simp only[List.contains_cons,key 97 rfl,key 105 rfl,key 99 rfl,key 100 rfl,key 115 rfl];rfl
 ·exact⟨rfl,by decide,by decide⟩
theorem zks {a b:Nat}(ha:a<10000)(hb:b<10000):∃t,twoN (pairT a b)=some (a,b,t):=by
 obtain⟨c1,c2⟩:=zbs ha;obtain⟨c3,c4⟩:=zbs hb;unfold pairT twoN;by_cases h:a=b
 ·rw[yx0 h,zen (zr4 _ ha)]
  dsimp only;rw[yx0 c1,c2,<-h];exact⟨_,rfl⟩
 ·rw[yw0 h,show(dec a++[44])++dec b=dec a++44::dec b from by simp,zdz _ (zr4 _ ha)]
  dsimp only;rw[yx0 ⟨c1,c3⟩,c2,c4];exact⟨_,rfl⟩
theorem zgt {a b:Nat}(hab:a<=b)(hb:b<=1000):endR 0 (pairT a b)=((a:Int),(b:Int),true,()):=by
 obtain⟨t,h⟩:=zks (a:=a) (b:=b) (by omega) (by omega);unfold endR;rw[h];dsimp only
 have:(decide (a<=1000)&&(decide (b<=1000)&& !(t&&decide (b+0<a))))=true:=by
  rw[yc0 (by omega),yc0 (by omega),yi0 (by omega)];simp
 rw[this];rfl
theorem q5j {k:Int}(h:1<=k/\k<=5):∃c r,zdl k=c::r/\sg5.contains c=true/\hdB c=false/\(10:UInt8)∉zdl k/\idx gs0 (zdl k)=k/\kdS gs0 (zdl k) 6=k:=by
 have:k=1\/k=2\/k=3\/k=4\/k=5:=by omega
 rcases this with rfl|rfl|rfl|rfl|rfl
 ·exact⟨97,[],rfl,by decide,by decide,by decide,by decide,by decide⟩
 ·exact⟨105,[],rfl,by decide,by decide,by decide,by decide,by decide⟩
 ·exact⟨99,[],rfl,by decide,by decide,by decide,by decide,by decide⟩
 ·exact⟨100,[],rfl,by decide,by decide,by decide,by decide,by decide⟩
 ·exact⟨115,[47,46,47,47],rfl,by decide,by decide,by decide,by decide,by decide⟩
theorem qfx {c:UInt8}(r:List UInt8)(hc:hdB c=false):∀{p:List UInt8},(∀b∈p,hdB b=true)->(p++c::r).takeWhile hdB=p/\(p++c::r).dropWhile hdB=c::r
 |[],_=>by
  rw[yn1,List.takeWhile_cons,List.dropWhile_cons,hc];exact⟨rfl,rfl⟩
 |b::p,h=>by
  obtain⟨h1,h2⟩:=qfx (p:=p) r hc λx hx=>h x (yg0 _ hx);rw[yt1,List.takeWhile_cons,List.dropWhile_cons,h b (yk0 ..),yx0 rfl,yx0 rfl,h1,h2];exact⟨rfl,rfl⟩
def hdL (x:PV qh):List UInt8:=(pairT x.2.1.toNat x.2.2.1.toNat++zdl x.1)++[10]
def ordL (x:PV qh):TX:=hdL x::(if 0<List.length x.2.2.2.1 then(x.2.2.2.1:TX)++[dotL] else[])
theorem q5k (x:PV qh):(ordL x).flatten=ordT x:=by
 unfold ordL ordT hdL newT;rw[yd1];by_cases h:0<List.length x.2.2.2.1
 ·rw[yx0 h,yx0 h,List.flatten_append]
  rfl
 ·rw[yw0 h,yw0 h]
  rfl
theorem heads {x:PV qh}(h:za6 x=true):isL (hdL x)/\zjh (hdL x)=some (x.1,x.2.1.toNat,x.2.2.1.toNat)/\zbq (hdL x)=(x.1,x.2.1,x.2.2.1,true):=by
 obtain⟨⟨a,ea,ha⟩,⟨b,eb,hb⟩,hk,_,_⟩:=zk4 h;obtain⟨hk1,hk2⟩:=zxi h;obtain⟨hab,_,_⟩:=zqy h;obtain⟨c,r,hw,c1,c2,c3,c4,c5⟩:=q5j hk;have hch:∀d∈pairT a b,hdB d=true/\sg5.contains d=false/\d≠10:=λd hd=>zst (znq (by omega) (by omega) d hd);rw[ea,eb] at hab
 have hpl:qm (hdL x)=pairT a b++zdl x.1:=by
  unfold hdL;rw[zvx,ea,eb,toNat_cast,toNat_cast]
 refine⟨⟨pairT a b++zdl x.1,by unfold hdL;rw[ea,eb,toNat_cast,toNat_cast],λhm=> ?_⟩,?_,?_⟩
 ·rcases List.mem_append.1 hm with hm|hm
  ·exact(hch 10 hm).2.2 rfl
  ·exact c3 hm
 ·have hi:Lib.indexAny (pairT a b++zdl x.1) sg5=((pairT a b).length:Int):=by rw[hw];exact zx4 r c1 λd hd=>(hch d hd).2.1
  obtain⟨t,ht⟩:=zks (a:=a) (b:=b) (by omega) (by omega);unfold zjh;rw[hpl,hi,toNat_cast,yw0 (by omega),yb2,ya2,ht];dsimp only;rw[c4,yw0 (λhh=>by have hh':(1:Int)>x.1:=hh;omega),ea,eb,toNat_cast,toNat_cast]
 ·obtain⟨t1,t2⟩:=qfx r c2 λd hd=>(hch d hd).1
  unfold zbq;rw[hpl,hw,t1,t2,<-hw,c5,zgt (show a<=b by have hab':(a:Int)<=(b:Int):=hab;omega) hb,ea,eb];dsimp only;rw[yc0 (show(0:Int)<(x.1:Int) by omega)];rfl
theorem qfy (r:TX):∀{l:TX},(∀s∈l,s≠dotL)->(l++dotL::r).takeWhile nd=l/\(l++dotL::r).dropWhile nd=dotL::r
 |[],_=>by
  rw[yn1,List.takeWhile_cons,List.dropWhile_cons,show nd dotL=false from rfl];exact⟨rfl,rfl⟩
 |b::p,h=>by
  obtain⟨h1,h2⟩:=qfy (l:=p) r λx hx=>h x (yg0 _ hx);rw[yt1,List.takeWhile_cons,List.dropWhile_cons,show nd b=true from by unfold nd;rw[beq_eq_false_iff_ne.2 (h b (yk0 ..))];rfl,yx0 rfl,yx0 rfl,h1,h2];exact⟨rfl,rfl⟩
theorem zrr (x:PV qh){a b:Nat}(ea:x.2.1=(a:Int))(eb:x.2.2.1=(b:Int)){l:TX}(el:x.2.2.2.1=l):(x.1,(a:Int),(b:Int),l,())=x:=by
 obtain⟨k,n,m,l',u⟩:=x;simp only at ea eb el;rw[<-ea,<-eb,<-el]
theorem zg0 {x:PV qh}(h:za6 x=true)(s:List UInt8)(r:TX)(out:OR)(hm:∀l∈ordL x++r,l.length<=3000)(hn:(ordL x++r).length<=3000):
 (out.length<60->zd7 (ordL x++r) out=some (.inl (r,out++[x],())))/\(out.length<=60->ze8 s (ordL x++r) out=some (.inl (s,r,out++[x],()))):=by
 obtain⟨q1,q2,q3⟩:=heads h;obtain⟨_,f1,f2⟩:=zqy h;obtain⟨⟨a,ea,ha⟩,⟨b,eb,hb⟩,hk,_,_⟩:=zk4 h;obtain⟨tt,htt,_⟩:=q1;have hl0:1<=(hdL x).length:=by rw[htt];simp
 have e:ordL x++r=hdL x::((if 0<List.length x.2.2.2.1 then(x.2.2.2.1:TX)++[dotL] else[])++r):=by unfold ordL;rw[yt1]
 rw[e] at hm hn ⊢;simp only[yf0] at hn;have hm0:=hm _ (yk0 ..);obtain⟨hk1,hk2⟩:=zxi h;by_cases hk3:x.1<=3
 ·obtain⟨g1,g2⟩:=qdz (f1 hk3)
  rw[yx0 (by omega:0<List.length x.2.2.2.1),yj0] at hn ⊢;rw[show[dotL]++r=dotL::r from rfl] at hn ⊢;have hnd:∀s∈(x.2.2.2.1:TX),s≠dotL:=λs hs=>(g2 s hs).2;constructor
  ·intro h60
   rw[zog _ _ _ hm0 (by omega) (by omega)];unfold zou;rw[yw0 (by omega),q2];dsimp only;rw[yx0 hk3,jbk r hnd,yw0 (by omega),toNat_cast,yb2,ea,eb,toNat_cast,toNat_cast,zrr x ea eb rfl];rw[show((x.2.2.2.1:TX)++dotL::r).drop (List.length x.2.2.2.1+1)=r from by rw[<-List.drop_drop,ya2];rfl]
  ·intro h60
   rw[zoh s _ _ _ hl0 hm0 (by omega) (by omega)];unfold stepS;obtain⟨n1,n2⟩:=qfy r hnd;rw[q3];dsimp only;rw[yw0 (by simp),yx0 hk3,n1,n2,yw0 (by simp),ea,eb,zrr x ea eb rfl];rfl
 ·have hnil:=f2 (by have hk3':¬(3:Int)>=x.1:=hk3;omega)
  have h0:List.length x.2.2.2.1=0:=by rw[hnil];rfl
  rw[yw0 (by omega:¬0<List.length x.2.2.2.1),yn1] at hn ⊢;constructor
  ·intro h60
   rw[zog _ _ _ hm0 (by omega) (by omega)];unfold zou;rw[yw0 (by omega),q2];dsimp only;rw[yw0 hk3,ea,eb,toNat_cast,toNat_cast,zrr x ea eb hnil]
  ·intro h60
   rw[zoh s _ _ _ hl0 hm0 (by omega) (by omega)];unfold stepS;rw[q3];dsimp only;rw[yw0 (by simp),yw0 hk3,ea,eb,zrr x ea eb hnil]
end R.O.V
end

section
/- Orders, read: both sides answer the same. -/
open Go Go.Dn
namespace R.O.V
theorem zkw (x:PV qh)(os:OR):(x::os).flatMap ordL=ordL x++os.flatMap ordL:=ys1
theorem zoi:∀(os out:OR),(∀x∈os,za6 x=true)->(out++os).length<=60->(∀l∈os.flatMap ordL,l.length<=3000)->(os.flatMap ordL).length<=3000->
 zdo (os.flatMap ordL,out,())=some (.inl (out++os,()))
 |[],out,_,_,_,_=>by rw[yz0];exact zdk rfl
 |x::os,out,hg,hl,hm,hn=>by
  rw[zkw] at hm hn ⊢;rw[ye0,yf0] at hl;have ih:=zoi os (out++[x]) (λy hy=>hg y (yg0 _ hy)) (by simp;omega) (λl hl=>hm l (yq0 _ hl)) (by rw[ye0] at hn;omega);rw[yj0] at ih;exact go_I ((zg0 (hg x (yk0 ..)) [] _ out hm hn).1 (by omega)) ih
theorem zoj (s:List UInt8):∀(os out:OR),(∀x∈os,za6 x=true)->(out++os).length<=60->(∀l∈os.flatMap ordL,l.length<=3000)->(os.flatMap ordL).length<=3000->
 zdp (s,os.flatMap ordL,out,())=some (.inl (s,out++os,()))
 |[],out,_,_,_,_=>by rw[yz0];exact zeu rfl
 |x::os,out,hg,hl,hm,hn=>by
  rw[zkw] at hm hn ⊢;rw[ye0,yf0] at hl;have ih:=zoj s os (out++[x]) (λy hy=>hg y (yg0 _ hy)) (by simp;omega) (λl hl=>hm l (yq0 _ hl)) (by rw[ye0] at hn;omega);rw[yj0] at ih;exact go_S ((zg0 (hg x (yk0 ..)) s _ out hm hn).2 (by omega)) ih
theorem jag:isL dotL:=⟨[46],rfl,by decide⟩
theorem jah {x:PV qh}(h:za6 x=true):∀l∈ordL x,isL l:=by
 intro l hl;unfold ordL at hl;rcases List.mem_cons.1 hl with rfl|hl
 ·exact(heads h).1
 ·by_cases h0:0<List.length x.2.2.2.1
  ·rw[yx0 h0] at hl
   have hk3:(3:Int)>=x.1:=by
    by_cases q:(3:Int)>=x.1
    ·exact q
    ·have:=(zqy h).2.2 (by omega)
     rw[this] at h0;exact absurd h0 (by simp)
   rcases List.mem_append.1 hl with hl|hl
   ·exact((qdz ((zqy h).2.1 hk3)).2 l hl).1
   ·obtain rfl:=List.mem_singleton.1 hl
    exact jag
  ·rw[yw0 h0] at hl;cases hl
theorem zkf {os:OR}(hg:zbg os=true):cutP (zba os)=os.flatMap ordL:=by
 have hL:∀l∈os.flatMap ordL,isL l:=λl hl=>by
  obtain⟨x,hx,hl⟩:=List.mem_flatMap.1 hl;exact jah ((zss hg).2 x hx) l hl
 have flat:∀gs:OR,(gs.flatMap ordL).flatten=zba gs:=by
  intro gs
  induction gs with
  |nil=>rfl
  |cons x gs ih=>
   unfold zba at ih ⊢;rw[ys1,ys1,List.flatten_append,ih,q5k]
 rw[<-flat os,zqf hL]
theorem zcy {os:OR}(hg:zbg os=true)(hl:(zba os).length<=3000)(s:List UInt8):
 zjo (cutP (zba os))=some ((os,true,()),())/\zdp (s,cutP (zba os),[],())=some (.inl (s,os,())):=by
 obtain⟨h1,h2⟩:=zss hg;have hc:=zcv (zba os);have hm:∀l∈cutP (zba os),l.length<=3000:=λl h=>by have:=zdx h;omega
 rw[zkf hg] at hc hm ⊢;refine⟨?_,zoj s os [] h2 (by simpa using h1) hm (by omega)⟩;unfold zjo;rw[zoi os [] h2 (by simpa using h1) hm (by omega)];rfl
def NoO (s:List UInt8):Prop:=∀gs:OR,zbg gs=true->zba gs=s->s.length<=3000->False
theorem zi9 (s:List UInt8):∃(gs:OR) (c:Int) (q:Bool),zl9 s=some ((gs,c,q,()),())/\
 ((zbg gs=true/\zba gs=s/\s.length<=3000/\c=0/\q=true)\/(NoO s/\gs=[]/\c=1/\q=false)):=by
 unfold zl9;by_cases hs:s.length<=3000
 ·rw[yc0 (by omega:(s.length:Int)<=3000),yb0,zrk s (by omega),ya0]
  dsimp only;have hc:=zcv s;obtain⟨gs,q,e,hsm⟩:=zwq (cutP s) (by omega) (λl h=>by have:=zdx h;omega);rw[e,ya0];dsimp only;rw[zyn hsm,ya0];dsimp only
  have key:∀gs0,zbg gs0=true->zba gs0=s->gs=gs0/\q=true/\oOk gs=true/\oR gs=s:=λgs0 h1 h2=>by
   have:=(zcy h1 (by rw[h2];exact hs) s).1;rw[h2,e] at this;have h3:=yl0 this;have h4:=(yj1 h3).1;obtain⟨rfl,h5⟩:=yj1 h4;have h6:=(yj1 h5).1;have h7:oOk gs=true:=by unfold oOk;rw[h1,h2,yc0 hs];rfl
   exact⟨rfl,h6,h7,by unfold oR;rw[yx0 h7,h2]⟩
  by_cases H:q=true/\oOk gs=true/\oR gs=s
  ·obtain⟨h1,h2,h3⟩:=H
   rw[h1,h2,yb0,yb0,h3,ya0];dsimp only;rw[yl1,yb0,ya0];have h2':=h2;unfold oOk at h2';rw[yh0] at h2';refine⟨gs,0,true,rfl,.inl ⟨h2'.1,?_,hs,rfl,rfl⟩⟩;unfold oR at h3;rw[yx0 h2] at h3;exact h3
  ·have hno:NoO s:=λgs0 h1 h2 _=>by
    obtain⟨rfl,h5,h6,h7⟩:=key gs0 h1 h2;exact H ⟨h5,h6,h7⟩
   refine⟨[],1,false,?_,.inr ⟨hno,rfl,rfl,rfl⟩⟩;cases hq:q
   ·rfl
   ·rw[yb0]
    cases ho:oOk gs
    ·rfl
    ·rw[yb0]
     have:(oR gs==s)=false:=by
      rw[yo0];exact λh=>H ⟨hq,ho,h⟩
     rw[this];rfl
 ·rw[yi0 (by omega:¬(s.length:Int)<=3000),yd0,ya0]
  exact⟨[],1,false,rfl,.inr ⟨λ_ _ _ h=>hs h,rfl,rfl,rfl⟩⟩
theorem q7x {l:OR}(h:zbg l=true):zqz l=some ((zba l,()),()):=by
 unfold zqz;rw[zx3 h];rfl
theorem zja (s:List UInt8):∃(gs:OR) (c:Int) (q:Bool),zma s=some ((gs,c,q,()),())/\
 ((zbg gs=true/\zba gs=s/\s.length<=3000/\c=0/\q=true)\/(NoO s/\gs=[]/\c=1/\q=false)):=by
 unfold zma;by_cases hs:s.length<=3000
 ·rw[yi0 (by omega:¬(s.length:Int)>3000),yd0,zsp s (by omega),ya0]
  dsimp only;have hc:=zcv s
  have key:∀gs0,zbg gs0=true->zba gs0=s->zdp (s,cutP s,[],())=some (.inl (s,gs0,())):=λgs0 h1 h2=>by
   have:=(zcy h1 (by rw[h2];exact hs) s).2
   rwa [h2] at this
  rcases zy4 s (cutP s).length (cutP s) [] (ym0 _) (by simp;omega) (λl h=>⟨List.length_pos_iff.2 (zi1 h),by have:=zdx h;omega⟩) (λx hx=>by cases hx) with⟨gs,q1,q2,q3⟩|q3
  ·rw[q3,ya0]
   dsimp only;have hsm:=OW.tot q1 q2;rw[q7t gs hsm,ya0];dsimp only;cases hg:zbg gs
   ·refine⟨[],1,false,rfl,.inr ⟨λgs0 h1 h2 _=> ?_,rfl,rfl,rfl⟩⟩
    have h3:=key gs0 h1 h2;rw[q3] at h3;have:gs=gs0:=(yj1 (yj1 (Sum.inl.inj (yl0 h3))).2).1;rw[this,h1] at hg;cases hg
   ·rw[ys0,yd0,q7x hg,ya0]
    dsimp only;rw[ya0];dsimp only;by_cases ht:zba gs=s
    ·rw[ht,yl1]
     exact⟨gs,0,true,rfl,.inl ⟨hg,ht,hs,rfl,rfl⟩⟩
    ·rw[beq_eq_false_iff_ne.2 ht]
     refine⟨[],1,false,rfl,.inr ⟨λgs0 h1 h2 _=> ?_,rfl,rfl,rfl⟩⟩;have h3:=key gs0 h1 h2;rw[q3] at h3;have:gs=gs0:=(yj1 (yj1 (Sum.inl.inj (yl0 h3))).2).1;exact ht (by rw[this];exact h2)
  ·rw[q3,ya0]
   refine⟨[],1,false,rfl,.inr ⟨λgs0 h1 h2 _=> ?_,rfl,rfl,rfl⟩⟩;have h3:=key gs0 h1 h2;rw[q3] at h3;cases h3
 ·rw[yc0 (by omega:(s.length:Int)>3000),yb0]
  exact⟨[],1,false,rfl,.inr ⟨λ_ _ _ h=>hs h,rfl,rfl,rfl⟩⟩
theorem qxr (s:List UInt8):∃(gs:OR) (c:Int) (q:Bool),zl9 s=some ((gs,c,q,()),())/\zma s=some ((gs,c,q,()),())/\(zbg gs=true\/gs=[]):=by
 obtain⟨g1,c1,q1,e1,h1⟩:=zi9 s;obtain⟨g2,c2,q2,e2,h2⟩:=zja s;rcases h1 with⟨a1,a2,a3,rfl,rfl⟩|⟨a1,rfl,rfl,rfl⟩
 ·rcases h2 with⟨b1,b2,_,rfl,rfl⟩|⟨b1,_⟩
  ·have r1:=(zcy a1 (by rw[a2];exact a3) s).1
   have r2:=(zcy b1 (by rw[b2];exact a3) s).1;rw[a2] at r1;rw[b2,r1] at r2;have:g1=g2:=(yj1 (yj1 (yl0 r2)).1).1;subst this;exact⟨g1,0,true,e1,e2,.inl a1⟩
  ·exact(b1 g1 a1 a2 a3).elim
 ·rcases h2 with⟨b1,b2,b3,_⟩|⟨_,rfl,rfl,rfl⟩
  ·exact(a1 g2 b1 b2 b3).elim
  ·exact⟨[],1,false,e1,e2,.inr rfl⟩
end R.O.V
end

section
/- Lines: both sides' tests of lines answer the same. -/
open Go Go.Dn
namespace R.O.V.N
theorem Sm.of {l:List (List UInt8)}{n:Nat}(h:tot (.slice 9 .str) l<=n)(hn:n<=4611686018427387904):Sm l:=by
 refine⟨?_,λs hs=> ?_⟩
 ·have h':=h
  rw[zgs] at h';omega
 ·obtain⟨i,hi,rfl⟩:=List.mem_iff_getElem.1 hs
  have:=ym1 (zn1 (e:=9) (t:=.str) (xs:=l) hi) h;rw[zn0] at this;omega
end R.O.V.N
end

section
/- Steps, read: the leaves on both sides. -/
open Go Go.Dn
namespace R.O.V.N
def sg3:List UInt8:=[97,99,100]
theorem zy2 (s:List UInt8)(hs:s.length<=100000):zhj s [97,99,100]=some ((Lib.indexAny s sg3,()),()):=by
 unfold zhj zm9;rw[yc0 (by omega:s.length<=4000000000)];rfl
end R.O.V.N
end

section
/- Steps, read: ranges written are read back; lines that end. -/
open Go Go.Dn
namespace R.O.V.N
theorem zlo {e:TypeId}{t:Ty}{c:Nat}:∀{l:List (PV t)},(∀x∈l,tot t x<=c)->tot (.slice e t) l<=(c+1)*l.length:=by
 intro l h;have:tot (.slice e t) l=l.length+(l.map (tot t)).sum:=zgs;rw[this]
 have hs:(l.map (tot t)).sum<=c*l.length:=by
  clear this
  induction l with
  |nil=>simp
  |cons x l ih=>
   have h1:=h x (yk0 ..);have h2:=ih λy hy=>h y (yg0 _ hy);rw[List.map_cons,List.sum_cons,yf0,Nat.mul_add];omega
 rw[Nat.add_mul,Nat.one_mul];omega
end R.O.V.N
end

section
/- Steps: what is good, how it is written, and the lines of what is written. -/
open Go Go.Dn
namespace R.O.V.N
abbrev SR:=List (PV zu)
def zcn (a b:Int)(l:TX):Bool:=inI a 0 1000&&(inI b 0 1000&&(zb6 l&&(if l.length=0 then b==a else decide (a>=1)&&(b -a+1==(l.length:Int)))))
def zas (x:PV zu):Bool:=zcn x.1 x.2.1 x.2.2.1&&(zcn x.2.2.2.1 x.2.2.2.2.1 x.2.2.2.2.2.1&&decide (0<List.length x.2.2.1+List.length x.2.2.2.2.2.1))
def za9 (l:SR):Bool:=decide (l.length<=20)&& !(l.any λx=> !zas x)
def qj:List UInt8:=[92,32,110,111,110,101,10]
def ltL:List UInt8:=[60,32]
def gtL:List UInt8:=[62,32]
def midL:List UInt8:=[45,45,45,10]
def zal (g s:List UInt8):List UInt8:=if endP s=true then g++s else((g++s)++[10])++qj
def allT (g:List UInt8)(l:TX):List UInt8:=l.flatMap (zal g)
def zac (x:PV zu):UInt8:=if List.length x.2.2.1=0 then 97 else if List.length x.2.2.2.2.2.1=0 then 100 else 99
def midT (x:PV zu):List UInt8:=if List.length x.2.2.1=0 then[] else if List.length x.2.2.2.2.2.1=0 then[] else midL
def zau (x:PV zu):List UInt8:=((pairT x.1.toNat x.2.1.toNat++[zac x])++pairT x.2.2.2.1.toNat x.2.2.2.2.1.toNat)++[10]
def stepT (x:PV zu):List UInt8:=((zau x++allT ltL x.2.2.1)++midT x)++allT gtL x.2.2.2.2.2.1
def za2 (l:SR):List UInt8:=l.flatMap stepT
def zdm:TX->Prop
 |[]=>True
 |[_]=>True
 |s::t::r=>endP s=true/\zdm (t::r)
theorem qd0:∀{l:TX},(∀i,i+1<l.length->endP (l.getD i [])=true)->zdm l
 |[],_=>trivial
 |[_],_=>trivial
 |s::t::r,h=>⟨h 0 (by simp),qd0 λi hi=>by
   have:=h (i+1) (by simp only[yf0] at hi ⊢;omega);simpa using this⟩
theorem zq0 {l:TX}(h:zb6 l=true):l.length<=40/\(∀s∈l,jk s=true)/\zdm l:=by
 unfold zb6 zli zti at h;simp only[yh0,yr0,yi1] at h;refine⟨h.1.1,λs hs=> ?_,qd0 λi hi=> ?_⟩
 ·have:=List.any_eq_false.1 h.1.2 s hs
  simpa using this
 ·cases he:endP (l.getD i []) with
  |true=>rfl
  |false=>
   have:anyN l.length (λk=>decide ((k:Int)<(l.length:Int) -1)&& !(endP (l.getD k [])))=true:=zf2.2 ⟨i,by omega,by rw[he,yc0 (by omega)];rfl⟩;rw[h.2] at this;cases this
theorem zld {a b:Int}{l:TX}(h:zcn a b l=true):∃n m:Nat,a=(n:Int)/\b=(m:Int)/\n<=m/\m<=1000/\zb6 l=true:=by
 unfold zcn inI at h;simp only[yh0,yr0] at h;obtain⟨⟨h1,h2⟩,⟨h3,h4⟩,h5,h6⟩:=h;refine⟨a.toNat,b.toNat,(Int.toNat_of_nonneg h1).symm,(Int.toNat_of_nonneg h3).symm,?_,by omega,h5⟩;by_cases h0:l.length=0
 ·rw[yx0 h0,yy0] at h6
  omega
 ·rw[yw0 h0,yh0,yr0,yy0] at h6
  omega
theorem step_ok {x:PV zu}(h:zas x=true):zcn x.1 x.2.1 x.2.2.1=true/\zcn x.2.2.2.1 x.2.2.2.2.1 x.2.2.2.2.2.1=true/\0<List.length x.2.2.1+List.length x.2.2.2.2.2.1:=by
 unfold zas at h;rw[yh0,yh0,yr0] at h;exact⟨h.1,h.2.1,h.2.2⟩
theorem zns {l:SR}(h:za9 l=true):l.length<=20/\∀x∈l,zas x=true:=by
 unfold za9 at h;rw[yh0,yr0,yi1] at h;refine⟨h.1,λx hx=> ?_⟩;have:=List.any_eq_false.1 h.2 x hx;simpa using this
theorem zil {g s:List UInt8}(hg:g.length=2)(h:jk s=true):(zal g s).length<=40:=by
 have:=zca h;unfold zal;split
 ·rw[ye0];omega
 ·simp only[ye0,yf0,yp0,qj];omega
theorem ziw {g:List UInt8}(hg:g.length=2):∀{l:TX},(∀s∈l,jk s=true)->(allT g l).length<=40*l.length
 |[],_=>ym0 _
 |s::l,h=>by
  have h1:=zil hg (h s (yk0 ..));have h2:=ziw hg (l:=l) λy hy=>h y (yg0 _ hy);unfold allT at h2 ⊢;rw[ys1,ye0,yf0,Nat.mul_add];omega
theorem zrj {x:PV zu}(h:zas x=true):(zau x).length<=100:=by
 obtain⟨h1,h2,_⟩:=step_ok h;obtain⟨a,b,ea,eb,hab,hb,_⟩:=zld h1;obtain⟨c,d,ec,ed,hcd,hd,_⟩:=zld h2;have h3:=zb0 (a:=a) (b:=b) (by omega) (by omega);have h4:=zb0 (a:=c) (b:=d) (by omega) (by omega);unfold zau;rw[ea,eb,ec,ed,toNat_cast,toNat_cast,toNat_cast,toNat_cast];simp only[ye0,yf0,yp0];omega
theorem qb8 {x:PV zu}(h:zas x=true):(stepT x).length<=4000:=by
 obtain⟨h1,h2,_⟩:=step_ok h;obtain⟨_,_,_,_,_,_,g1⟩:=zld h1;obtain⟨_,_,_,_,_,_,g2⟩:=zld h2;obtain⟨l1,m1,_⟩:=zq0 g1;obtain⟨l2,m2,_⟩:=zq0 g2;have a1:=ziw (g:=ltL) rfl m1;have a2:=ziw (g:=gtL) rfl m2;have a3:=zrj h
 have a4:(midT x).length<=4:=by
  unfold midT;split
  ·exact ye1 _
  ·split
   ·exact ye1 _
   ·decide
 unfold stepT;simp only[ye0];omega
def zb5 (g s:List UInt8):TX:=if endP s=true then[g++s] else[(g++s)++[10],qj]
def allL (g:List UInt8)(l:TX):TX:=l.flatMap (zb5 g)
def zco (x:PV zu):TX:=if List.length x.2.2.1=0 then[] else if List.length x.2.2.2.2.2.1=0 then[] else[midL]
def zay (x:PV zu):TX:=zau x::(allL ltL x.2.2.1++(zco x++allL gtL x.2.2.2.2.2.1))
theorem qxs (g s:List UInt8):(zb5 g s).flatten=zal g s:=by
 unfold zb5 zal;split
 ·simp
 ·simp
theorem zwr (g:List UInt8):∀l:TX,(allL g l).flatten=allT g l
 |[]=>rfl
 |s::l=>by
  have:=zwr g l;unfold allL allT at this ⊢;rw[ys1,ys1,List.flatten_append,this,qxs]
theorem q1u (x:PV zu):(zay x).flatten=stepT x:=by
 unfold zay stepT;rw[yd1,List.flatten_append,List.flatten_append,zwr,zwr]
 have:(zco x).flatten=midT x:=by
  unfold zco midT;split
  ·rfl
  ·split
   ·rfl
   ·simp
 rw[this];simp only[yj0]
theorem z9z:∀l:SR,(l.flatMap zay).flatten=za2 l
 |[]=>rfl
 |x::l=>by
  have:=z9z l;unfold za2 at this ⊢;rw[ys1,ys1,List.flatten_append,this,q1u]
theorem zwm:isL qj:=⟨[92,32,110,111,110,101],rfl,by decide⟩
theorem q7y:isL midL:=⟨[45,45,45],rfl,by decide⟩
theorem jbl {s:List UInt8}(h1:jk s=true)(h2:endP s=false):(10:UInt8)∉s:=by
 intro hm;have hl:=zca h1;unfold jk at h1;rw[yh0,yi1] at h1;have h3:=h1.2;unfold hasEnd at h3;unfold endP at h2;have hs:=List.take_append_drop (s.length -1) s;rw[<-hs] at hm;rcases List.mem_append.1 hm with hm|hm
 ·have:(s.take (s.length -1)).contains 10=true:=by simpa using hm
  rw[this] at h3;cases h3
 ·have hlen:(s.drop (s.length -1)).length=1:=by rw[yc1];omega
  obtain⟨c,hc⟩:=List.length_eq_one_iff.1 hlen;rw[hc] at hm h2;obtain rfl:=List.mem_singleton.1 hm;simp at h2
theorem q5l {g s:List UInt8}(hg:(10:UInt8)∉g)(h:jk s=true):∀l∈zb5 g s,isL l:=by
 intro l hl;unfold zb5 at hl;split at hl
 ·rename_i h2
  obtain rfl:=List.mem_singleton.1 hl;obtain⟨t,rfl,ht⟩:=zr6 h h2;exact⟨g++t,(yj0 ..).symm,λhm=>by rcases List.mem_append.1 hm with hm|hm;exact hg hm;exact ht hm⟩
 ·rename_i h2
  rcases List.mem_cons.1 hl with rfl|hl
  ·exact⟨g++s,rfl,λhm=>by rcases List.mem_append.1 hm with hm|hm;exact hg hm;exact jbl h (by simpa using h2) hm⟩
  ·obtain rfl:=List.mem_singleton.1 hl
   exact zwm
theorem qfb {g:List UInt8}(hg:(10:UInt8)∉g){l:TX}(h:∀s∈l,jk s=true):∀x∈allL g l,isL x:=by
 intro x hx;obtain⟨s,hs,hx⟩:=List.mem_flatMap.1 hx;exact q5l hg (h s hs) x hx
end R.O.V.N
end

section
/- Steps: both sides test them alike, and write the same. -/
open Go Go.Dn
namespace R.O.V.N
theorem qfz (a b:Int)(l:TX)(hs:Sm l):zm2 a b l=some ((zcn a b l,()),()):=by
 unfold zm2 zcn;rw[in_I,in_I,zvd l hs,ya0,ya0,ya0];dsimp only;have hl:=hs.len;unfold inI;cases h1:(decide (a>=0)&&decide (a<=1000))
 ·rfl
 ·rw[ys0,yd0]
  cases h2:(decide (b>=0)&&decide (b<=1000))
  ·rfl
  ·rw[ys0,yd0]
   simp only[yh0,yr0] at h1 h2;cases h3:zb6 l
   ·rfl
   ·rw[ys0,ya0]
    dsimp only;rw[yd0];by_cases h0:l.length=0
    ·rw[yx0 h0,show((l.length:Int)==0)=true from by rw[h0];rfl,yb0]
     rw[show(a==b)=(b==a) from by rw[Bool.eq_iff_iff,yy0,yy0];exact eq_comm];rfl
    ·rw[yw0 h0,show((l.length:Int)==0)=false from beq_eq_false_iff_ne.2 (by omega),yd0,wrap64 (x:=b -a) (by omega) (by omega),wrap64 (x:=b -a+1) (by omega) (by omega)]
     cases decide (a>=1)<;>rfl
theorem qf0 (a b:Int)(l:TX)(hs:Sm l):zm3 a b l=some ((zcn a b l,()),()):=by
 unfold zm3 zcn;rw[in_S,in_S,zwd l hs,ya0,ya0,ya0];dsimp only;have hl:=hs.len;unfold inI;cases h1:(decide (a>=0)&&decide (a<=1000))
 ·rfl
 ·rw[ys0,yd0]
  cases h2:(decide (b>=0)&&decide (b<=1000))
  ·rfl
  ·rw[ys0,yd0]
   simp only[yh0,yr0] at h1 h2;cases h3:zb6 l
   ·rfl
   ·rw[ys0,ya0]
    dsimp only;rw[yd0];by_cases h0:l.length=0
    ·rw[yx0 h0,show((l.length:Int)==0)=true from by rw[h0];rfl,yb0]
     rfl
    ·rw[yw0 h0,show((l.length:Int)==0)=false from beq_eq_false_iff_ne.2 (by omega),yd0,wrap64 (x:=b -a) (by omega) (by omega),wrap64 (x:=b -a+1) (by omega) (by omega)]
     cases decide (a>=1)<;>rfl
def SmS (x:PV zu):Prop:=Sm x.2.2.1/\Sm x.2.2.2.2.2.1
theorem qfc (x:PV zu)(hs:SmS x)(hl:List.length x.2.2.1+List.length x.2.2.2.2.2.1<=4611686018427387904):zo7 x=some ((!zas x,()),()):=by
 unfold zo7 zas;rw[qfz _ _ _ hs.1,qfz _ _ _ hs.2,ya0,ya0];dsimp only;cases zcn x.1 x.2.1 x.2.2.1
 ·rfl
 ·cases zcn x.2.2.2.1 x.2.2.2.2.1 x.2.2.2.2.2.1
  ·rfl
  ·rw[ys0,yd0,yd0,wrap64 (by omega) (by omega)]
   by_cases h:0<List.length x.2.2.1+List.length x.2.2.2.2.2.1
   ·rw[yc0 h,show(((List.length x.2.2.1:Int)+(List.length x.2.2.2.2.2.1:Int))==0)=false from beq_eq_false_iff_ne.2 (by omega)];rfl
   ·rw[yi0 h,show(((List.length x.2.2.1:Int)+(List.length x.2.2.2.2.2.1:Int))==0)=true from beq_iff_eq.2 (by omega)];rfl
theorem qfd (x:PV zu)(hs:SmS x)(hl:List.length x.2.2.1+List.length x.2.2.2.2.2.1<=4611686018427387904):zq1 x=some ((zas x,()),()):=by
 unfold zq1 zas;rw[qf0 _ _ _ hs.1,qf0 _ _ _ hs.2,ya0,ya0];dsimp only;cases zcn x.1 x.2.1 x.2.2.1
 ·rfl
 ·cases zcn x.2.2.2.1 x.2.2.2.2.1 x.2.2.2.2.2.1
  ·rfl
  ·rw[yb0,yb0,wrap64 (by omega) (by omega),yu1,yu1]
   by_cases h:0<List.length x.2.2.1+List.length x.2.2.2.2.2.1
   ·rw[yc0 h,yc0 (by omega)]
   ·rw[yi0 h,yi0 (by omega)]
theorem SmS.at {l:SR}(hs:tot zk l<=4611686018427387904){i:Nat}(hi:i<l.length):SmS l[i]/\List.length l[i].2.2.1+List.length l[i].2.2.2.2.2.1<=4611686018427387904:=by
 have h:=ym1 (zn1 (e:=103) (t:=zu) hi) hs;simp only[tot] at h;refine⟨⟨Sm.of (n:=4611686018427387904) ?_ (ym0 _),Sm.of (n:=4611686018427387904) ?_ (ym0 _)⟩,?_⟩
 ·simp only[tot];omega
 ·simp only[tot];omega
 ·omega
theorem jai (t0:SR)(hs:tot zk t0<=4611686018427387904):zpi t0=some ((za9 t0,()),()):=by
 have hl:t0.length<=4611686018427387904:=ym1 (Nat.le_add_right _ _) (zgs (e:=103) (t:=zu)▸hs);unfold zpi
 rw[show z1t (t0,t0,(t0.length:Int),0,())=_ from zcj (B:=λd=>zfc d.1 d.2.1 d.2.2.1 d.2.2.2.1) t0 (λx=> !zas x) (λi=>(t0,t0,(t0.length:Int),(i:Int),())) (λ_=>.inr (false,())) (.inl (t0,()))
  (λi hi hq=>by
    show zfc t0 t0 t0.length i=_;unfold zfc;rw[yc0 (by omega:(i:Int)<(t0.length:Int)),yb0,zq hi,yb0,toNat_cast,qo hi,qfd _ (SmS.at hs hi).1 (SmS.at hs hi).2,ya0];dsimp only;rw[hq,yd0,wrap64 (by omega) (by omega)];rfl)
  (λi hi hq=>by
    show zfc t0 t0 t0.length i=_;unfold zfc;rw[yc0 (by omega:(i:Int)<(t0.length:Int)),yb0,zq hi,yb0,toNat_cast,qo hi,qfd _ (SmS.at hs hi).1 (SmS.at hs hi).2,ya0];dsimp only;rw[hq,yb0])
  (by
    show zfc t0 t0 t0.length t0.length=_;unfold zfc;rw[yi0 (yh1 _),yd0])]
 unfold za9;cases h:t0.any λx=> !zas x
 ·simp;omega
 ·simp
theorem jaj (t0:SR)(hs:tot zk t0<=4611686018427387904):zpj t0=some ((za9 t0,()),()):=by
 unfold zpj za9;by_cases hl:t0.length<=20
 ·rw[yc0 (by omega:(t0.length:Int)<=20),yb0,yc0 hl,yu1]
  rw[show zz0 (t0,false,t0,(t0.length:Int),true,true,t0,t0,false,t0,t0,(t0.length:Int),0,())=_ from
   zcj (B:=λd=>ze0 d.1 d.2.1 d.2.2.1 d.2.2.2.1 d.2.2.2.2.1 d.2.2.2.2.2.1 d.2.2.2.2.2.2.1 d.2.2.2.2.2.2.2.1 d.2.2.2.2.2.2.2.2.1 d.2.2.2.2.2.2.2.2.2.1 d.2.2.2.2.2.2.2.2.2.2.1 d.2.2.2.2.2.2.2.2.2.2.2.1 d.2.2.2.2.2.2.2.2.2.2.2.2.1) t0 (λx=> !zas x)
   (λi=>(t0,false,t0,(t0.length:Int),true,true,t0,t0,false,t0,t0,(t0.length:Int),(i:Int),())) (λi=>.inr (t0,false,t0,(t0.length:Int),true,true,t0,t0,false,t0,(i:Int),())) (.inl (t0,false,t0,(t0.length:Int),true,true,t0,t0,false,t0,()))
   (λi hi hq=>by
     show ze0 _ _ _ _ _ _ _ _ _ _ t0 t0.length i=_;unfold ze0;rw[yc0 (by omega:(i:Int)<(t0.length:Int)),yb0,zq hi,yb0,toNat_cast,qo hi,qfc _ (SmS.at hs hi).1 (SmS.at hs hi).2,ya0];dsimp only;rw[hq,yd0,wrap64 (by omega) (by omega)];rfl)
   (λi hi hq=>by
     show ze0 _ _ _ _ _ _ _ _ _ _ t0 t0.length i=_;unfold ze0;rw[yc0 (by omega:(i:Int)<(t0.length:Int)),yb0,zq hi,yb0,toNat_cast,qo hi,qfc _ (SmS.at hs hi).1 (SmS.at hs hi).2,ya0];dsimp only;rw[hq,yb0])
   (by
     show ze0 _ _ _ _ _ _ _ _ _ _ t0 t0.length t0.length=_;unfold ze0;rw[yi0 (yh1 _),yd0])]
  cases h:t0.any λx=> !zas x
  ·rfl
  ·simp
 ·rw[yi0 (by omega:¬(t0.length:Int)<=20),yd0,yi0 hl];rfl
end R.O.V.N
end

section
/- Steps: both sides write the same text. -/
open Go Go.Dn
namespace R.O.V.N
theorem qey {g s:List UInt8}(hg:g.length<=10)(hs:s.length<=4000):zcq g s=some ((zal g s,()),()):=by
 unfold zcq zal;rw[zlh s (by omega),ya0];dsimp only;cases endP s
 ·rw[yd0,yw0 (by simp),yc0 (by omega),yb0]
  rw[yc0 (by simp only[ye0,yf0,yp0];omega),yb0];rw[yc0 (by simp only[ye0,yf0,yp0];omega),yb0];rfl
 ·rw[yb0,yx0 rfl,yc0 (by omega),yb0]
theorem zso {g s:List UInt8}(hg:g.length<=10)(h1:1<=s.length)(hs:s.length<=4000):zds g s=some ((zal g s,()),()):=by
 unfold zds zal;rw[zg9 s h1 (by omega),ya0];dsimp only;cases endP s
 ·rw[yd0,yw0 (by simp),yc0 (by omega),yb0]
  rw[yc0 (by simp only[ye0,yf0,yp0];omega),yb0];rw[yj0 (g++s)];rfl
 ·rw[yb0,yx0 rfl,yc0 (by omega),yb0]
theorem qgj {g:List UInt8}(hg:g.length=2){l:TX}(hl:l.length<=40)(h:∀s∈l,jk s=true):zmm g l=some ((allT g l,()),()):=by
 have hF:=zb2 (B:=λd=>zhu d.1 d.2.1 d.2.2.1 d.2.2.2.1 d.2.2.2.2.1) l (λ(o:List UInt8) s=>o++zal g s) (λo i=>(g,o,l,(l.length:Int),(i:Int),())) (λo=>(o,())) (λi o=>o.length<=40*i)
  (λi hi o hI=>by
    have h0:=h _ (yk1 hi);have h1:=zil hg h0;have h2:=zca h0;refine⟨by rw[ye0];omega,?_⟩;show zhu g o l l.length i=_;unfold zhu;rw[yc0 (by omega:(i:Int)<(l.length:Int)),yb0,zq hi,yb0,toNat_cast,qo hi,qey (by omega) (by omega),ya0];dsimp only;rw[yc0 (by omega),yb0,wrap64 (by omega) (by omega)];rfl)
  (λo hI=>by
    show zhu g o l l.length l.length=_;unfold zhu;rw[yi0 (yh1 _),yd0]) [] (ye1 _)
 unfold zmm;rw[show z2q (g,[],l,(l.length:Int),0,())=_ from hF.1,zcr];rfl
theorem jak {l:TX}(hl:l.length<=40)(h:∀s∈l,jk s=true)(o:List UInt8)(ho:o.length<=1000000)(x:PV zu)(wd:List UInt8)(P:SR)(n i:Int):
 zum (o,x,wd,P,n,i,l,(l.length:Int),0,())=some (o++allT ltL l,x,wd,P,n,i,()):=by
 have hF:=zb2 (B:=λd=>zhz d.1 d.2.1 d.2.2.1 d.2.2.2.1 d.2.2.2.2.1 d.2.2.2.2.2.1 d.2.2.2.2.2.2.1 d.2.2.2.2.2.2.2.1 d.2.2.2.2.2.2.2.2.1) l (λ(o:List UInt8) s=>o++zal ltL s) (λo k=>(o,x,wd,P,n,i,l,(l.length:Int),(k:Int),())) (λo=>(o,x,wd,P,n,i,())) (λk o=>o.length<=1000000+40*k)
  (λk hi o hI=>by
    have h0:=h _ (yk1 hi);have h1:=zil (g:=ltL) rfl h0;have h2:=zca h0;refine⟨by rw[ye0];omega,?_⟩;show zhz o x wd P n i l l.length k=_;unfold zhz;rw[yc0 (by omega:(k:Int)<(l.length:Int)),yb0,zq hi,yb0,toNat_cast,qo hi,show([60,32]:List UInt8)=ltL from rfl,zso (g:=ltL) (by decide) (by omega) (by omega),ya0];dsimp only;rw[yc0 (by omega),yb0,wrap64 (by omega) (by omega)];rfl)
  (λo hI=>by
    show zhz o x wd P n i l l.length l.length=_;unfold zhz;rw[yi0 (yh1 _),yd0]) o (by omega)
 rw[show zum (o,x,wd,P,n,i,l,(l.length:Int),0,())=_ from hF.1,zcr];rfl
theorem jal {l:TX}(hl:l.length<=40)(h:∀s∈l,jk s=true)(o:List UInt8)(ho:o.length<=1000000)(P:SR)(n i:Int):
 zun (o,P,n,i,l,(l.length:Int),0,())=some (o++allT gtL l,P,n,i,()):=by
 have hF:=zb2 (B:=λd=>zh0 d.1 d.2.1 d.2.2.1 d.2.2.2.1 d.2.2.2.2.1 d.2.2.2.2.2.1 d.2.2.2.2.2.2.1) l (λ(o:List UInt8) s=>o++zal gtL s) (λo k=>(o,P,n,i,l,(l.length:Int),(k:Int),())) (λo=>(o,P,n,i,())) (λk o=>o.length<=1000000+40*k)
  (λk hi o hI=>by
    have h0:=h _ (yk1 hi);have h1:=zil (g:=gtL) rfl h0;have h2:=zca h0;refine⟨by rw[ye0];omega,?_⟩;show zh0 o P n i l l.length k=_;unfold zh0;rw[yc0 (by omega:(k:Int)<(l.length:Int)),yb0,zq hi,yb0,toNat_cast,qo hi,show([62,32]:List UInt8)=gtL from rfl,zso (g:=gtL) (by decide) (by omega) (by omega),ya0];dsimp only;rw[yc0 (by omega),yb0,wrap64 (by omega) (by omega)];rfl)
  (λo hI=>by
    show zh0 o P n i l l.length l.length=_;unfold zh0;rw[yi0 (yh1 _),yd0]) o (by omega)
 rw[show zun (o,P,n,i,l,(l.length:Int),0,())=_ from hF.1,zcr];rfl
theorem qfe (x:PV zu):(midT x).length<=4:=by
 unfold midT;split
 ·exact ye1 _
 ·split
  ·exact ye1 _
  ·decide
theorem zio {x:PV zu}(h:zas x=true):∃a b c d:Nat,x.1=(a:Int)/\x.2.1=(b:Int)/\x.2.2.2.1=(c:Int)/\x.2.2.2.2.1=(d:Int)/\a<=b/\b<=1000/\c<=d/\d<=1000/\
 (List.length x.2.2.1<=40/\(∀s∈(x.2.2.1:TX),jk s=true)/\zdm x.2.2.1)/\(List.length x.2.2.2.2.2.1<=40/\(∀s∈(x.2.2.2.2.2.1:TX),jk s=true)/\zdm x.2.2.2.2.2.1)/\0<List.length x.2.2.1+List.length x.2.2.2.2.2.1:=by
 obtain⟨h1,h2,h3⟩:=step_ok h;obtain⟨a,b,ea,eb,hab,hb,g1⟩:=zld h1;obtain⟨c,d,ec,ed,hcd,hd,g2⟩:=zld h2;exact⟨a,b,c,d,ea,eb,ec,ed,hab,hb,hcd,hd,zq0 g1,zq0 g2,h3⟩
theorem q1v {x:PV zu}(h:zas x=true):zpn x=some ((stepT x,()),()):=by
 obtain⟨a,b,c,d,ea,eb,ec,ed,hab,hb,hcd,hd,⟨l1,m1,_⟩,⟨l2,m2,_⟩,_⟩:=zio h;have p1:=zb0 (a:=a) (b:=b) (by omega) (by omega);have p2:=zb0 (a:=c) (b:=d) (by omega) (by omega);have q1:=ziw (g:=ltL) rfl m1;have q2:=ziw (g:=gtL) rfl m2;have q3:=qfe x
 have key:((bif ((List.length x.2.2.1:Int)==0) then some (x,[97],[],()) else bif ((List.length x.2.2.2.2.2.1:Int)==0) then some (x,[100],[],()) else some (x,[99],[45,45,45,10],())):Option (PV zu×PV .str×PV .str×Unit))=some (x,[zac x],midT x,()):=by
  unfold zac midT;by_cases h1:List.length x.2.2.1=0
  ·rw[yx0 h1,yx0 h1,show((List.length x.2.2.1:Int)==0)=true from by rw[h1];rfl];rfl
  ·rw[yw0 h1,yw0 h1,show((List.length x.2.2.1:Int)==0)=false from beq_eq_false_iff_ne.2 (by omega),yd0]
   by_cases h2:List.length x.2.2.2.2.2.1=0
   ·rw[yx0 h2,yx0 h2,show((List.length x.2.2.2.2.2.1:Int)==0)=true from by rw[h2];rfl];rfl
   ·rw[yw0 h2,yw0 h2,show((List.length x.2.2.2.2.2.1:Int)==0)=false from beq_eq_false_iff_ne.2 (by omega)];rfl
 unfold zpn;rw[key,ya0];dsimp only;unfold stepT zau;rw[ea,eb,ec,ed,toNat_cast,toNat_cast,toNat_cast,toNat_cast,zlk (by omega) (by omega),ya0];dsimp only;rw[zlk (by omega) (by omega),yc0 (by simp only[yf0,yp0];omega),yb0,ya0];dsimp only;rw[yc0 (by simp only[ye0,yf0,yp0];omega),yb0];rw[yc0 (by simp only[ye0,yf0,yp0];omega),yb0];rw[show([60,32]:List UInt8)=ltL from rfl,show([62,32]:List UInt8)=gtL from rfl,qgj rfl l1 m1,qgj rfl l2 m2,ya0];dsimp only;rw[yc0 (by simp only[ye0,yf0,yp0];omega),yb0];rw[yc0 (by simp only[ye0,yf0,yp0];omega),yb0,ya0];dsimp only;rw[yc0 (by simp only[ye0,yf0,yp0];omega),yb0]
theorem q1w {l:SR}(hll:l.length<=20){i:Nat}(hi:i<l.length)(h:zas l[i]=true){o:List UInt8}(ho:o.length<=4000*i):
 zib o l (l.length:Int) (i:Int)=some (.inl (o++stepT l[i],l,(l.length:Int),((i+1:Nat):Int),())):=by
 obtain⟨x,hx⟩:∃x,l[i]=x:=⟨_,rfl⟩;rw[hx] at h ⊢;obtain⟨a,b,c,d,ea,eb,ec,ed,hab,hb,hcd,hd,⟨l1,m1,_⟩,⟨l2,m2,_⟩,_⟩:=zio h;have p1:=zb0 (a:=a) (b:=b) (by omega) (by omega);have p2:=zb0 (a:=c) (b:=d) (by omega) (by omega);have q1:=ziw (g:=ltL) rfl m1;have q2:=ziw (g:=gtL) rfl m2
 have key:((bif ((List.length x.2.2.1:Int)==0) then some (o,x,[97],l,(l.length:Int),(i:Int),()) else bif ((List.length x.2.2.2.2.2.1:Int)==0) then some (o,x,[100],l,(l.length:Int),(i:Int),()) else some (o,x,[99],l,(l.length:Int),(i:Int),())):Option ((PV .str×PV zu×PV .str×PV zk×PV (.int .i64)×PV (.int .i64)×Unit)))=some (o,x,[zac x],l,(l.length:Int),(i:Int),()):=by
  unfold zac;by_cases h1:List.length x.2.2.1=0
  ·rw[yx0 h1,show((List.length x.2.2.1:Int)==0)=true from by rw[h1];rfl];rfl
  ·rw[yw0 h1,show((List.length x.2.2.1:Int)==0)=false from beq_eq_false_iff_ne.2 (by omega),yd0]
   by_cases h2:List.length x.2.2.2.2.2.1=0
   ·rw[yx0 h2,show((List.length x.2.2.2.2.2.1:Int)==0)=true from by rw[h2];rfl];rfl
   ·rw[yw0 h2,show((List.length x.2.2.2.2.2.1:Int)==0)=false from beq_eq_false_iff_ne.2 (by omega)];rfl
 have hm:∀o':PV .str,o'.length<=500000->((bif (([zac x]:PV .str)==[99]) then bif decide (o'.length+[45,45,45,10].length<=1099511627776) then some ((o'++[45,45,45,10]),x,l,(l.length:Int),(i:Int),()) else none else some (o',x,l,(l.length:Int),(i:Int),())):Option ((PV .str×PV zu×PV zk×PV (.int .i64)×PV (.int .i64)×Unit)))=some (o'++midT x,x,l,(l.length:Int),(i:Int),()):=by
  intro o' ho';unfold zac midT;by_cases h1:List.length x.2.2.1=0
  ·rw[yx0 h1,yx0 h1,yz0];rfl
  ·rw[yw0 h1,yw0 h1]
   by_cases h2:List.length x.2.2.2.2.2.1=0
   ·rw[yx0 h2,yx0 h2,yz0];rfl
   ·rw[yw0 h2,yw0 h2,show(([99]:List UInt8)==[99])=true from rfl,yb0,yc0 (by simp only[yf0,yp0];omega)];rfl
 have q3:=qfe x;unfold zib;rw[yc0 (by omega:(i:Int)<(l.length:Int)),yb0,zq hi,yb0,toNat_cast,qo hi,hx,key,ya0];dsimp only;unfold stepT zau;rw[ea,eb,ec,ed,toNat_cast,toNat_cast,toNat_cast,toNat_cast,zlj (by omega) (by omega),ya0];dsimp only;rw[zlj (by omega) (by omega),yc0 (by simp only[yf0,yp0];omega),yb0,ya0];dsimp only;rw[yc0 (by simp only[ye0,yf0,yp0];omega),yb0];rw[yc0 (by simp only[ye0,yf0,yp0];omega),yb0];rw[yc0 (by simp only[ye0,yf0,yp0];omega),yb0];rw[jak l1 m1 _ (by simp only[ye0,yf0,yp0];omega),ya0];dsimp only;rw[hm _ (by simp only[ye0,yf0,yp0];omega),ya0];dsimp only;rw[jal l2 m2 _ (by simp only[ye0,yf0,yp0];omega),ya0];dsimp only;rw[wrap64 (by omega) (by omega)];simp only[yj0];rfl
theorem zx2 {l:SR}(h:za9 l=true):zt7 ([],l,(l.length:Int),0,())=some (za2 l,()):=by
 obtain⟨hl,hg⟩:=zns h
 have hF:=zb2 (B:=λd=>zhq d.1 d.2.1 d.2.2.1 d.2.2.2.1) l (λ(o:List UInt8) x=>o++stepT x) (λo i=>(o,l,(l.length:Int),(i:Int),())) (λo=>(o,())) (λi o=>o.length<=4000*i)
  (λi hi o hI=>by
    have hx:=hg _ (yk1 hi);have:=qb8 hx;refine⟨by rw[ye0];omega,?_⟩;show zhq o l l.length i=_;unfold zhq;rw[yc0 (by omega:(i:Int)<(l.length:Int)),yb0,zq hi,yb0,toNat_cast,qo hi,q1v hx,ya0];dsimp only;rw[yc0 (by omega),yb0,wrap64 (by omega) (by omega)];rfl)
  (λo hI=>by
    show zhq o l l.length l.length=_;unfold zhq;rw[yi0 (yh1 _),yd0]) [] (ye1 _)
 rw[show zt7 ([],l,(l.length:Int),0,())=_ from hF.1,zcr];rfl
theorem zx3 {l:SR}(h:za9 l=true):zu0 ([],l,(l.length:Int),0,())=some (za2 l,()):=by
 obtain⟨hl,hg⟩:=zns h
 have hF:=zb2 (B:=λd=>zib d.1 d.2.1 d.2.2.1 d.2.2.2.1) l (λ(o:List UInt8) x=>o++stepT x) (λo i=>(o,l,(l.length:Int),(i:Int),())) (λo=>(o,())) (λi o=>o.length<=4000*i)
  (λi hi o hI=>by
    have hx:=hg _ (yk1 hi);have:=qb8 hx;exact⟨by rw[ye0];omega,q1w hl hi hx hI⟩)
  (λo hI=>by
    show zib o l l.length l.length=_;unfold zib;rw[yi0 (yh1 _),yd0]) [] (ye1 _)
 rw[show zu0 ([],l,(l.length:Int),0,())=_ from hF.1,zcr];rfl
theorem q7z {l:SR}(h:za9 l=true):zq2 l=some ((za2 l,()),()):=by
 unfold zq2;rw[zx3 h];rfl
def sOk (l:SR):Bool:=za9 l&&decide ((za2 l).length<=3000)
def sR (l:SR):List UInt8:=if sOk l=true then za2 l else[]
theorem zyn {l:SR}(hs:tot zk l<=4611686018427387904):zpk l=some ((sR l,sOk l,()),()):=by
 unfold zpk sR sOk ziq;rw[jaj l hs,ya0];dsimp only;cases hg:za9 l
 ·rfl
 ·rw[ys0,yd0,zx2 hg,ya0]
  dsimp only;by_cases h:(za2 l).length<=3000
  ·rw[yi0 (by omega:¬((za2 l).length:Int)>3000),yc0 h];rfl
  ·rw[yc0 (by omega:((za2 l).length:Int)>3000),yi0 h];rfl
end R.O.V.N
end

section
/- Shown lines, taken off a list of lines, on both sides. -/
open Go Go.Dn
namespace R.O.V.N
def pre (g s:List UInt8):Bool:=decide (g.length<=s.length)&&(s.take g.length==g)
theorem cut0 (s:List UInt8)(n:Nat):cutL 0 (n:Int) s=s.take n:=znm n s
theorem qd1 (s g:List UInt8)(hs:s.length<=100000)(hg:g.length<=100):zga s g=some ((pre g s,()),()):=by
 unfold zga pre;by_cases h:g.length<=s.length
 ·rw[yc0 (by omega:(s.length:Int)>=(g.length:Int)),yb0,zit h,yb0,cut0,yc0 h];rfl
 ·rw[yi0 (by omega:¬(s.length:Int)>=(g.length:Int)),yd0,yi0 h];rfl
theorem qxt (s g:List UInt8)(hs:s.length<=100000)(hg:g.length<=100):zo2 s g=some ((pre g s,()),()):=by
 unfold zo2;rw[qd1 s g hs hg];rfl
theorem qt8 (s g:List UInt8)(hs:s.length<=100000)(hg:g.length<=100)(h:pre g s=true):zo0 s g=some ((s.drop g.length,()),()):=by
 unfold zo0 zto;rw[qd1 s g hs hg,h,ya0];dsimp only;unfold pre at h;rw[yh0,yr0] at h;rw[yb0,zek h.1,yb0,zel];rfl
def nx (g l0:List UInt8):TX->TX×List UInt8
 |[]=>([],l0.drop g.length)
 |m::t=>if m=qj then(t,qm (l0.drop g.length)) else(m::t,l0.drop g.length)
theorem jbm (g l0:List UInt8):nx g l0 []=([],l0.drop g.length):=rfl
theorem zsu (g l0 m:List UInt8)(t:TX):nx g l0 (m::t)=if m=qj then(t,qm (l0.drop g.length)) else(m::t,l0.drop g.length):=rfl
theorem zkt (g l0:List UInt8)(t out:TX)(hg:g.length<=100)(h0:l0.length<=3000)(hn:t.length<=3000)(ho:out.length<=3000):
 zhr (l0::t) g out=if pre g l0=true then some (.inl ((nx g l0 t).1,g,out++[(nx g l0 t).2],())) else some (.inr (l0::t,out,())):=by
 have hr:∀x:List UInt8,qw (out.length+[x].length)=true:=λx=>jq (by simp only[yf0,yp0];omega);unfold zhr;rw[yc0 (by simp only[yf0];omega:(((l0::t).length:Nat):Int)>0),yb0,show inB 0 (l0::t).length=true from zq (i:=0) (by simp),yb0,show(l0::t).getD ((0:Int).toNat) []=l0 from rfl,qxt l0 g (by omega) hg,ya0];dsimp only;cases hp:pre g l0
 ·rw[yd0,yw0 (by simp)]
 ·rw[yb0,yb0,yx0 rfl,qt8 l0 g (by omega) hg hp,ya0]
  dsimp only;rw[zaj,yb0,drop_one];cases t with
  |nil=>
   rw[yi0 (by simp:¬((([]:TX).length:Nat):Int)>0),yd0,ya0];dsimp only;rw[yd0,ya0];dsimp only;rw[hr,yb0];rfl
  |cons m t=>
   simp only[yf0] at hn;rw[yc0 (by simp only[yf0];omega:(((m::t).length:Nat):Int)>0),yb0,show inB 0 (m::t).length=true from zq (i:=0) (by simp),yb0,show(m::t).getD ((0:Int).toNat) []=m from rfl,ya0];dsimp only;rw[zsu];by_cases hm:m=qj
   ·rw[yx0 hm,show(m==([92,32,110,111,110,101,10]:List UInt8))=true from beq_iff_eq.2 hm,yb0,zn5 _ (by rw[yc1];omega),ya0]
    dsimp only;rw[zaj,yb0,drop_one,ya0];dsimp only;rw[hr,yb0]
   ·rw[yw0 hm,show(m==([92,32,110,111,110,101,10]:List UInt8))=false from beq_eq_false_iff_ne.2 hm,yd0,ya0]
    dsimp only;rw[hr,yb0]
theorem q8a (g l0:List UInt8)(t:TX):(nx g l0 t).1.length<=t.length/\(∀l∈(nx g l0 t).1,l∈t)/\(nx g l0 t).2.length<=l0.length:=by
 cases t with
 |nil=>exact⟨ym0 _,λl h=>h,by show(l0.drop g.length).length<=_;rw[yc1];omega⟩
 |cons m t=>
  rw[zsu];by_cases hm:m=qj
  ·rw[yx0 hm]
   have h1:=znl (l0.drop g.length);rw[yc1] at h1;exact⟨by simp,λl h=>yg0 _ h,by show(qm (l0.drop g.length)).length<=_;omega⟩
  ·rw[yw0 hm]
   exact⟨ym0 _,λl h=>h,by show(l0.drop g.length).length<=_;rw[yc1];omega⟩
noncomputable abbrev BT (d:PV zf×PV .str×PV zf×Unit):=zhr d.1 d.2.1 d.2.2.1
theorem goT {t out:TX}{g:List UInt8}{d r}(h:zhr t g out=some (.inl d))(h2:zfd d=some r):zfd (t,g,out,())=some r:=Eq.trans (zan (B:=BT) (s:=(t,g,out,())) (t:=d) h) h2
theorem endT {t out:TX}{g:List UInt8}{r}(h:zhr t g out=some (.inr r)):zfd (t,g,out,())=some r:=jm (B:=BT) (s:=(t,g,out,())) h
theorem q8b (g:List UInt8)(hg:g.length<=100):∀(n:Nat) (t out:TX),t.length<=n->t.length+out.length<=3000->(∀l∈t,l.length<=3000)->(∀l∈out,l.length<=3000)->
 ∃out' r:TX,zfd (t,g,out,())=some (r,out',())/\out'.length<=3000/\r.length<=t.length/\(∀l∈r,l∈t)/\∀l∈out',l.length<=3000:=by
 intro n
 induction n with
 |zero=>
  intro t out h h1 _ ho;obtain rfl:t=[]:=yt0 (by omega);exact⟨out,[],endT rfl,by omega,ym0 _,λl h=>h,ho⟩
 |succ n ih=>
  intro t out h h1 hm ho;cases t with
  |nil=>exact⟨out,[],endT rfl,by simp at h1;omega,ym0 _,λl h=>h,ho⟩
  |cons l0 t=>
   simp only[yf0] at h h1;have h0:=hm l0 (yk0 ..);have hs:=zkt g l0 t out hg h0 (by omega) (by omega);cases hp:pre g l0 with
   |false=>
    rw[hp,yw0 (by simp)] at hs;exact⟨out,l0::t,endT hs,by omega,ym0 _,λl h=>h,ho⟩
   |true=>
    rw[hp,yx0 rfl] at hs;obtain⟨n1,n2,n3⟩:=q8a g l0 t
    obtain⟨out',r,q1,q2,q3,q4,q5⟩:=ih (nx g l0 t).1 (out++[(nx g l0 t).2]) (by omega) (by simp;omega) (λl hl=>hm l (yg0 _ (n2 l hl))) (λl hl=>by
     rcases List.mem_append.1 hl with hl|hl
     ·exact ho l hl
     ·obtain rfl:=List.mem_singleton.1 hl
      omega)
    exact⟨out',r,goT hs q1,q2,by simp only[yf0];omega,λl hl=>yg0 _ (n2 l (q4 l hl)),q5⟩
theorem z3z (g:List UInt8)(hg:g.length<=100)(t:TX)(h1:t.length<=3000)(hm:∀l∈t,l.length<=3000):
 ∃out r:TX,zby t g=some ((out,r,()),())/\out.length<=3000/\r.length<=t.length/\(∀l∈r,l∈t)/\∀l∈out,l.length<=3000:=by
 obtain⟨out,r,q1,q2,q3,q4,q5⟩:=q8b g hg t.length t [] (ym0 _) (by simpa using h1) hm (λl h=>by cases h);refine⟨out,r,?_,q2,q3,q4,q5⟩;unfold zby;rw[show zfd (t,g,([]:PV zf),())=some (r,out,()) from q1];rfl
def zet (g:List UInt8):TX->Prop
 |[]=>True
 |x::_=>pre g x=false/\x≠qj
theorem qff (g s:List UInt8):pre g (g++s)=true:=by
 unfold pre;rw[yb2,ye0,yc0 (by omega)];simp
theorem qd2 {g s:List UInt8}(hg:g=ltL\/g=gtL):g++s≠qj:=by
 rcases hg with rfl|rfl<;>(intro h;simp[ltL,gtL,qj] at h)
theorem qaa {g:List UInt8}(hg:g=ltL\/g=gtL){r:TX}(hr:zet g r):∀l:TX,∀x t,allL g l++r=x::t->x≠qj
 |[],x,t,h=>by
  unfold allL at h;rw[List.flatMap_nil,yn1] at h;rw[h] at hr;exact hr.2
 |s::l,x,t,h=>by
  unfold allL zb5 at h;rw[ys1] at h;cases he:endP s
  ·rw[he,yw0 (by simp)] at h
   injection h with h _;rw[<-h,yj0];exact qd2 hg
  ·rw[he,yx0 rfl] at h
   injection h with h _;rw[<-h];exact qd2 hg
theorem q5m {g:List UInt8}(hg:g=ltL\/g=gtL){r:TX}(hr:zet g r):∀(l out:TX),(∀s∈l,jk s=true)->zdm l->(allL g l++r).length+out.length<=3000->(∀x∈allL g l++r,x.length<=3000)->
 zfd (allL g l++r,g,out,())=some (r,out++l,()):=by
 have hg2:g.length=2:=by rcases hg with rfl|rfl<;>rfl
 intro l
 induction l with
 |nil=>
  intro out _ _ hn hm;rw[yz0];show zfd (r,g,out,())=_;have hn:r.length+out.length<=3000:=hn;have hm:∀x∈r,x.length<=3000:=hm;cases r with
  |nil=>exact endT rfl
  |cons x r=>
   simp only[yf0] at hn;have hs:=zkt g x r out (by omega) (hm x (yk0 ..)) (by omega) (by omega);rw[hr.1,yw0 (by simp)] at hs;exact endT hs
 |cons s l ih=>
  intro out hl he hn hm;have hls:=hl s (yk0 ..);have hsl:=zca hls;have e:allL g (s::l)++r=zb5 g s++(allL g l++r):=by unfold allL;rw[ys1,yj0]
  rw[e] at hn hm ⊢;have hl':∀x∈l,jk x=true:=λx hx=>hl x (yg0 _ hx)
  have he':zdm l:=by
   cases l with
   |nil=>trivial
   |cons y l=>exact he.2
  cases hes:endP s with
  |true=>
   have e2:zb5 g s=[g++s]:=by unfold zb5;rw[hes,yx0 rfl]
   rw[e2] at hn hm ⊢;rw[show[g++s]++(allL g l++r)=(g++s)::(allL g l++r) from rfl] at hn hm ⊢;simp only[yf0] at hn;have hs:=zkt g (g++s) (allL g l++r) out (by omega) (hm _ (yk0 ..)) (by omega) (by omega)
   have hnx:nx g (g++s) (allL g l++r)=(allL g l++r,s):=by
    cases hc:allL g l++r with
    |nil=>rw[jbm,ya2]
    |cons m t=>
     rw[zsu];rw[yw0 (qaa hg hr l m t hc),ya2]
   rw[qff,yx0 rfl,hnx] at hs;have:=ih (out++[s]) hl' he' (by simp;rw[ye0] at hn;omega) (λx hx=>hm x (yg0 _ hx));rw[yj0] at this;exact goT hs this
  |false=>
   have e2:zb5 g s=[(g++s)++[10],qj]:=by unfold zb5;rw[hes,yw0 (by simp)]
   have hnil:l=[]:=by
    cases l with
    |nil=>rfl
    |cons y l=>rw[he.1] at hes;cases hes
   subst hnil;rw[e2] at hn hm ⊢;rw[show[(g++s)++[10],qj]++(allL g []++r)=((g++s)++[10])::qj::r from rfl] at hn hm ⊢;simp only[yf0] at hn;have hs:=zkt g ((g++s)++[10]) (qj::r) out (by omega) (hm _ (yk0 ..)) (by simp only[yf0];omega) (by omega)
   have hnx:nx g ((g++s)++[10]) (qj::r)=(r,s):=by
    rw[zsu];rw[yx0 rfl,yj0,ya2,zvx]
   rw[yj0,qff,<-yj0,yx0 rfl,hnx] at hs;have:=ih (out++[s]) hl' he' (by show r.length+_<=_;simp;omega) (λx hx=>hm x (yg0 _ (yg0 _ hx)));rw[yj0] at this;exact goT hs this
theorem zpc {g:List UInt8}(hg:g=ltL\/g=gtL){r:TX}(hr:zet g r){l:TX}(h:∀s∈l,jk s=true)(he:zdm l)(hn:(allL g l++r).length<=3000)(hm:∀x∈allL g l++r,x.length<=3000):
 zby (allL g l++r) g=some ((l,r,()),()):=by
 have:=q5m hg hr l [] h he (by simpa using hn) hm;unfold zby;rw[show zfd (allL g l++r,g,([]:PV zf),())=some (r,l,()) from this];rfl
end R.O.V.N
end

section
/- Shown lines, as the reference takes them. -/
open Go Go.Dn
namespace R.O.V.N
def preS (g x:List UInt8):Bool:=decide (g.length<x.length)&&(x.take g.length==g)
theorem q8c {g x:List UInt8}(h:pre g x=false):preS g x=false:=by
 cases hp:preS g x with
 |false=>rfl
 |true=>
  unfold preS at hp;rw[yh0,yr0] at hp;unfold pre at h;rw[hp.2,yc0 (by omega)] at h;cases h
def nxS (g x:List UInt8):TX->Nat×List UInt8
 |[]=>(1,x.drop g.length)
 |m::_=>if m=qj then(2,(x.drop g.length).take ((x.drop g.length).length -1)) else(1,x.drop g.length)
theorem zx5 (g x:List UInt8):nxS g x []=(1,x.drop g.length):=rfl
theorem znt (g x m:List UInt8)(t:TX):nxS g x (m::t)=if m=qj then(2,(x.drop g.length).take ((x.drop g.length).length -1)) else(1,x.drop g.length):=rfl
theorem qd3 (p t:TX)(x:List UInt8):(p++x::t).getD p.length []=x:=by simp[List.getD]
theorem q5n (p t:TX)(x y:List UInt8):(p++x::y::t).getD (p.length+1) []=y:=by
 have:=qd3 (p++[x]) t y;rw[yj0,ye0] at this;exact this
theorem zke (g x:List UInt8)(p t out:TX)(hg:g.length<=100)(hL:(p++x::t).length<=3000)(hx:x.length<=3000)(ho:out.length<=3000):
 zfq (p++x::t) g out (p.length:Int)=if preS g x=true then some (.inl (p++x::t,g,out++[(nxS g x t).2],((p.length+(nxS g x t).1:Nat):Int),())) else some (.inr (out,(p.length:Int),())):=by
 have hr:∀x:List UInt8,qw (out.length+[x].length)=true:=λx=>jq (by simp only[yf0,yp0];omega);have hn:p.length<(p++x::t).length:=by rw[ye0,yf0];omega
 unfold zfq;rw[yc0 (by omega:(p.length:Int)<((p++x::t).length:Int)),yb0,zq hn,yb0,toNat_cast,qd3];unfold preS;by_cases h1:x.length<=g.length
 ·rw[yc0 (by omega:(x.length:Int)<=(g.length:Int)),yb0,yi0 (by omega:¬g.length<x.length),yd2,yw0 (by simp)]
 ·rw[yi0 (by omega:¬(x.length:Int)<=(g.length:Int)),yd0,zit (by omega),yb0,cut0,yc0 (by omega:g.length<x.length),yu1]
  cases hp:(x.take g.length==g)
  ·rw[yb1,yb0,yw0 (by simp)]
  ·rw[ys0,yd0,yx0 rfl,zek (by omega),yb0,wrap64 (x:=(p.length:Int)+1) (by omega) (by omega),show(p.length:Int)+1=((p.length+1:Nat):Int) by omega,zel]
   cases t with
   |nil=>
    rw[yi0 (by simp:¬((p.length+1:Nat):Int)<((p++[x]).length:Int)),yd0,ya0];dsimp only;rw[yd0,ya0];dsimp only;rw[hr,yb0,zx5]
   |cons m t=>
    have h2:p.length+1<(p++x::m::t).length:=by rw[ye0,yf0,yf0];omega
    rw[yc0 (by omega:((p.length+1:Nat):Int)<((p++x::m::t).length:Int)),yb0,zq h2,yb0,toNat_cast,q5n,ya0];dsimp only;rw[znt];by_cases hm:m=qj
    ·have hd:1<=(x.drop g.length).length:=by rw[yc1];omega
     have hd2:(x.drop g.length).length<=3000:=by rw[yc1];omega
     rw[yx0 hm,show(m==([92,32,110,111,110,101,10]:List UInt8))=true from beq_iff_eq.2 hm,yb0,wrap64 (x:=((x.drop g.length).length:Int) -1) (by omega) (by omega),show((x.drop g.length).length:Int) -1=(((x.drop g.length).length -1:Nat):Int) by omega,zit (by omega),yb0,cut0,wrap64 (by omega) (by omega),ya0];dsimp only;rw[hr,yb0];rfl
    ·rw[yw0 hm,show(m==([92,32,110,111,110,101,10]:List UInt8))=false from beq_eq_false_iff_ne.2 hm,yd0,ya0]
     dsimp only;rw[hr,yb0]
noncomputable abbrev BU (d:PV zf×PV .str×PV zf×PV (.int .i64)×Unit):=zfq d.1 d.2.1 d.2.2.1 d.2.2.2.1
theorem goU {L out:TX}{g:List UInt8}{n:Int}{d r}(h:zfq L g out n=some (.inl d))(h2:zea d=some r):zea (L,g,out,n,())=some r:=Eq.trans (zan (B:=BU) (s:=(L,g,out,n,())) (t:=d) h) h2
theorem endU {L out:TX}{g:List UInt8}{n:Int}{r}(h:zfq L g out n=some (.inr r)):zea (L,g,out,n,())=some r:=jm (B:=BU) (s:=(L,g,out,n,())) h
theorem zy5 (p out:TX)(g:List UInt8):zfq p g out (p.length:Int)=some (.inr (out,(p.length:Int),())):=by
 unfold zfq;rw[yi0 (yh1 _),yd0]
theorem q5o (g:List UInt8)(hg:g.length<=100):∀(n:Nat) (t p out:TX),t.length<=n->(p++t).length<=3000->out.length<=p.length->(∀l∈t,l.length<=3000)->(∀l∈out,l.length<=3000)->
 ∃(out':TX) (k:Nat),zea (p++t,g,out,(p.length:Int),())=some (out',((p.length+k:Nat):Int),())/\k<=t.length/\out'.length<=3000/\∀l∈out',l.length<=3000:=by
 intro n
 induction n with
 |zero=>
  intro t p out h h1 ho _ hb;obtain rfl:t=[]:=yt0 (by omega);rw[yz0] at h1 ⊢;exact⟨out,0,endU (zy5 p out g),ym0 _,by omega,hb⟩
 |succ n ih=>
  intro t p out h h1 ho hm hb;cases t with
  |nil=>
   rw[yz0] at h1 ⊢;exact⟨out,0,endU (zy5 p out g),ym0 _,by omega,hb⟩
  |cons x t=>
   have h1':=h1;rw[ye0,yf0] at h1';simp only[yf0] at h;have hx:=hm x (yk0 ..);have hs:=zke g x p t out hg h1 hx (by omega);cases hp:preS g x with
   |false=>
    rw[hp,yw0 (by simp)] at hs;exact⟨out,0,endU hs,ye1 _,by omega,hb⟩
   |true=>
    rw[hp,yx0 rfl] at hs
    have hb2:∀y:List UInt8,y.length<=3000->∀l∈out++[y],l.length<=3000:=λy hy l hl=>by
     rcases List.mem_append.1 hl with hl|hl
     ·exact hb l hl
     ·obtain rfl:=List.mem_singleton.1 hl
      exact hy
    have hd:(x.drop g.length).length<=3000:=by rw[yc1];omega
    have one:nxS g x t=(1,x.drop g.length)->∃(out':TX) (k:Nat),zea (p++x::t,g,out,(p.length:Int),())=some (out',((p.length+k:Nat):Int),())/\k<=(x::t).length/\out'.length<=3000/\∀l∈out',l.length<=3000:=by
     intro e;rw[e] at hs;obtain⟨out',k,q1,q2,q3,q4⟩:=ih t (p++[x]) (out++[x.drop g.length]) (by omega) (by rw[yj0];exact h1) (by simp;omega) (λl hl=>hm l (yg0 _ hl)) (hb2 _ hd);rw[yj0,show[x]++t=x::t from rfl,ye0,show[x].length=1 from rfl] at q1;exact⟨out',1+k,goU hs (by rw[q1,Nat.add_assoc]),by simp only[yf0];omega,q3,q4⟩
    cases t with
    |nil=>exact one (zx5 g x)
    |cons m t=>
     by_cases hn:m=qj
     ·have e:=znt g x m t
      rw[yx0 hn] at e;rw[e] at hs;simp only[yf0] at h h1';obtain⟨out',k,q1,q2,q3,q4⟩:=ih t (p++[x,m]) (out++[(x.drop g.length).take ((x.drop g.length).length -1)]) (by omega) (by rw[yj0];exact h1) (by simp;omega) (λl hl=>hm l (yg0 _ (yg0 _ hl))) (hb2 _ (by rw[yp1];omega));rw[yj0,show[x,m]++t=x::m::t from rfl,ye0,show[x,m].length=2 from rfl] at q1;exact⟨out',2+k,goU hs (by rw[q1,Nat.add_assoc]),by simp only[yf0];omega,q3,q4⟩
     ·have e:=znt g x m t
      rw[yw0 hn] at e;exact one e
theorem q1x (g:List UInt8)(hg:g.length<=100)(t:TX)(h1:t.length<=3000)(hm:∀l∈t,l.length<=3000):
 ∃(out:TX) (k:Nat),zb7 t g=some ((out,(k:Int),()),())/\k<=t.length/\out.length<=3000/\∀l∈out,l.length<=3000:=by
 obtain⟨out,k,q1,q2,q3,q4⟩:=q5o g hg t.length t [] [] (ym0 _) (by simpa using h1) (ym0 _) hm (λl h=>by cases h);refine⟨out,k,?_,q2,q3,q4⟩;unfold zb7;rw[show zea (t,g,[],0,())=_ from q1];show some ((out,((0+k:Nat):Int),()),())=_;rw[Nat.zero_add]
theorem qd4 (g:List UInt8){s:List UInt8}(hs:1<=s.length):preS g (g++s)=true:=by
 unfold preS;rw[yb2,ye0,yc0 (by omega)];simp
theorem q1y {g:List UInt8}(hg:g=ltL\/g=gtL){r:TX}(hr:zet g r):∀(l p out:TX),(∀s∈l,jk s=true)->zdm l->(p++(allL g l++r)).length<=3000->out.length<=p.length->(∀x∈allL g l++r,x.length<=3000)->
 zea (p++(allL g l++r),g,out,(p.length:Int),())=some (out++l,((p.length+(allL g l).length:Nat):Int),()):=by
 have hg2:g.length=2:=by rcases hg with rfl|rfl<;>rfl
 intro l
 induction l with
 |nil=>
  intro p out _ _ hn ho hm;rw[yz0];show zea (p++r,g,out,(p.length:Int),())=some (out,(p.length:Int),());have hn:(p++r).length<=3000:=hn;have hm:∀x∈r,x.length<=3000:=hm;cases r with
  |nil=>rw[yz0];exact endU (zy5 p out g)
  |cons x r=>
   have hn':=hn;rw[ye0,yf0] at hn';have hs:=zke g x p r out (by omega) hn (hm x (yk0 ..)) (by omega);rw[q8c hr.1,yw0 (by simp)] at hs;exact endU hs
 |cons s l ih=>
  intro p out hl he hn ho hm;have hls:=hl s (yk0 ..);have hsl:=zca hls;have e:allL g (s::l)=zb5 g s++allL g l:=by unfold allL;rw[ys1]
  rw[e] at hn hm ⊢;rw[yj0] at hn hm ⊢;have hl':∀x∈l,jk x=true:=λx hx=>hl x (yg0 _ hx)
  have he':zdm l:=by
   cases l with
   |nil=>trivial
   |cons y l=>exact he.2
  have hn':=hn;rw[ye0] at hn';cases hes:endP s with
  |true=>
   have e2:zb5 g s=[g++s]:=by unfold zb5;rw[hes,yx0 rfl]
   rw[e2] at hn hn' hm ⊢;rw[show[g++s]++(allL g l++r)=(g++s)::(allL g l++r) from rfl] at hn hn' hm ⊢;simp only[yf0] at hn';have hs:=zke g (g++s) p (allL g l++r) out (by omega) hn (hm _ (yk0 ..)) (by omega)
   have hnx:nxS g (g++s) (allL g l++r)=(1,s):=by
    cases hc:allL g l++r with
    |nil=>rw[zx5,ya2]
    |cons m t=>rw[znt,yw0 (qaa hg hr l m t hc),ya2]
   rw[qd4 g hsl.1,yx0 rfl,hnx] at hs;have:=ih (p++[g++s]) (out++[s]) hl' he' (by rw[yj0];exact hn) (by simp;omega) (λx hx=>hm x (yg0 _ hx));rw[yj0 p,show[g++s]++(allL g l++r)=(g++s)::(allL g l++r) from rfl,yj0 out,ye0,show[g++s].length=1 from rfl,Nat.add_assoc] at this;rw[show([g++s]++allL g l).length=1+(allL g l).length from by rw[ye0];rfl];exact goU hs this
  |false=>
   have e2:zb5 g s=[(g++s)++[10],qj]:=by unfold zb5;rw[hes,yw0 (by simp)]
   have hnil:l=[]:=by
    cases l with
    |nil=>rfl
    |cons y l=>rw[he.1] at hes;cases hes
   subst hnil;rw[e2] at hn hn' hm ⊢;rw[show[(g++s)++[10],qj]++(allL g []++r)=((g++s)++[10])::qj::r from rfl] at hn hn' hm ⊢;simp only[yf0] at hn';have hs:=zke g ((g++s)++[10]) p (qj::r) out (by omega) hn (hm _ (yk0 ..)) (by omega)
   have hnx:nxS g ((g++s)++[10]) (qj::r)=(2,s):=by
    rw[znt,yx0 rfl,yj0,ya2];simp
   have hp:preS g ((g++s)++[10])=true:=by rw[yj0];exact qd4 g (by simp)
   rw[hp,yx0 rfl,hnx] at hs;have:=ih (p++[(g++s)++[10],qj]) (out++[s]) hl' he' (by rw[yj0];exact hn) (by simp;omega) (λx hx=>hm x (yg0 _ (yg0 _ hx)));rw[yj0 p,show[(g++s)++[10],qj]++(allL g []++r)=((g++s)++[10])::qj::r from rfl,yj0 out,ye0,show[(g++s)++[10],qj].length=2 from rfl,Nat.add_assoc] at this;rw[show([(g++s)++[10],qj]++allL g []).length=2+(allL g []).length from by rw[ye0];rfl];exact goU hs this
theorem qxu {g:List UInt8}(hg:g=ltL\/g=gtL){r:TX}(hr:zet g r){l:TX}(h:∀s∈l,jk s=true)(he:zdm l)(hn:(allL g l++r).length<=3000)(hm:∀x∈allL g l++r,x.length<=3000):
 zb7 (allL g l++r) g=some ((l,((allL g l).length:Int),()),()):=by
 have:=q1y hg hr l [] [] h he (by simpa using hn) (ym0 _) hm;unfold zb7;rw[show zea (allL g l++r,g,[],0,())=_ from this];show some ((l,((0+(allL g l).length:Nat):Int),()),())=_;rw[Nat.zero_add]
end R.O.V.N
end

section
/- Steps, read: the head of one, and what comes behind it, on both sides, whatever the lines are. -/
open Go Go.Dn
namespace R.O.V.N
theorem b97 (c:UInt8):((c.toNat:Int)==97)=(c==97):=Go.Dn.zbn (n:=97) (by omega)
theorem b99 (c:UInt8):((c.toNat:Int)==99)=(c==99):=Go.Dn.zbn (n:=99) (by omega)
theorem b100 (c:UInt8):((c.toNat:Int)==100)=(c==100):=Go.Dn.zbn (n:=100) (by omega)
theorem zyo (c:UInt8):sg3.contains c=(c==97||(c==99||c==100)):=by
 unfold sg3;simp only[List.contains_cons,List.contains_nil,Bool.or_false]
def mkS (a b c d:Int):PV zu:=(a,(b,(([]:PV zf),(c,(d,(([]:PV zf),()))))))
abbrev RI:=(PV zf×PV zk×Unit)⊕((PV zk×Unit)⊕(PV zk×PV .bool×Unit))
def zd6:Option RI:=some (.inr (.inr ([],false,())))
def zav (l0:List UInt8):Option (Nat×Nat×Nat×Nat×Nat):=
 if Lib.indexAny (qm l0) sg3<0 then none else
  match twoN ((qm l0).take (Lib.indexAny (qm l0) sg3).toNat) with
  |none=>none
  |some (a,b,_)=>match twoN ((qm l0).drop ((Lib.indexAny (qm l0) sg3).toNat+1)) with
   |none=>none
   |some (c,d,_)=>some (a,b,c,d,(Lib.indexAny (qm l0) sg3).toNat)
noncomputable def zji (t:TX)(out:SR)(x:PV zu)(w:UInt8):Option RI:=
 ((bif !(w==97) then(zby t ltL).bind λr13=>some (r13.1.2.1,(x.1,(x.2.1,(r13.1.1,x.2.2.2)))) else some (t,x):Option (PV zf×PV zu))).bind λj14=>
   ((bif w==99 then
      (bif (bif ((List.length j14.1:Int)==0) then true else !((List.getD j14.1 ((0:Int).toNat) [])==midL)) then some (.inr ()) else some (.inl (List.drop 1 j14.1)))
     else some (.inl j14.1):Option (PV zf⊕Unit))).bind λz=>
     match z with
     | .inr _=>zd6
     | .inl t2=>
       ((bif !(w==100) then(zby t2 gtL).bind λr18=>some (r18.1.2.1,(j14.2.1,(j14.2.2.1,(j14.2.2.2.1,(j14.2.2.2.2.1,(j14.2.2.2.2.2.1,(r18.1.1,j14.2.2.2.2.2.2.2))))))) else some (t2,j14.2):Option (PV zf×PV zu))).bind λj19=>
         some (.inl (j19.1,out++[j19.2],()))
theorem cut1 (t:TX)(h:t.length≠0):cutB 1 (t.length:Int) t.length=true/\cutL 1 (t.length:Int) t=t.drop 1:=
 ⟨zek (j:=1) (by omega),zel 1 t⟩
theorem qgk (l0:List UInt8)(t:TX)(out:SR)(h0:l0.length<=3000)(hn:t.length<=3000)(hm:∀l∈t,l.length<=3000)(ho:out.length<=20):
 zfe (l0::t) out=(if out.length=20 then zd6 else match zav l0 with|none=>zd6|some (a,b,c,d,j)=>zji t out (mkS a b c d) ((qm l0).getD j 0))/\
 (∀a b c d j,zav l0=some (a,b,c,d,j)->j<(qm l0).length):=by
 have hpl:=znl l0;constructor
 ·unfold zfe
  rw[yc0 (by simp only[yf0];omega:(((l0::t).length:Nat):Int)>0),yb0,show inB 0 (l0::t).length=true from zq (i:=0) (by simp),yb0,show(l0::t).getD ((0:Int).toNat) []=l0 from rfl,zn5 l0 (by omega),ya0];dsimp only;rw[zy2 _ (by omega),ya0];dsimp only;rcases zsa sg3 (qm l0) with hi|⟨hi1,hi2⟩
  ·rw[hi]
   have:zav l0=none:=by unfold zav;rw[hi];rfl
   rw[this];dsimp only;split<;>rfl
  ·obtain⟨j,hj⟩:∃j:Nat,Lib.indexAny (qm l0) sg3=(j:Int):=⟨_,(Int.toNat_of_nonneg hi1).symm⟩
   rw[hj] at hi2 ⊢;have hjl:j<(qm l0).length:=by omega
   rw[yi0 (by omega:¬(j:Int)<0),yd0,ya0];dsimp only;by_cases h60:out.length=20
   ·rw[yx0 h60,show((out.length:Int)==20)=true from by rw[h60];rfl]
    rfl
   ·rw[yw0 h60,show((out.length:Int)==20)=false from beq_eq_false_iff_ne.2 (by omega),yd0,zit (by omega),yb0,znm,wrap64 (by omega) (by omega),show(j:Int)+1=((j+1:Nat):Int) by omega,zek (by omega),zel]
    have hN:zav l0=match twoN ((qm l0).take j) with
     |none=>none
     |some (a,b,_)=>match twoN ((qm l0).drop (j+1)) with
      |none=>none
      |some (c,d,_)=>some (a,b,c,d,j):=by
     unfold zav;rw[hj,yw0 (by omega),toNat_cast]
    rw[hN];have hl1:((qm l0).take j).length<=100000:=by rw[yp1];omega
    have hl2:((qm l0).drop (j+1)).length<=100000:=by rw[yc1];omega
    rcases znb _ hl1 with⟨a,b,q,h1,h2⟩|⟨h1,a,b,q,h2⟩
    ·rw[h1,h2,ya0,yb0]
     dsimp only;rcases znb _ hl2 with⟨c,d,q',h3,h4⟩|⟨h3,c,d,q',h4⟩
     ·rw[h3,h4,ya0]
      dsimp only;rw[ys0,yd0,ya0];dsimp only;rw[yd0,zaj,yb0,drop_one,zq hjl,yb0,toNat_cast,b97];have hr:∀x:PV zu,qw (out.length+[x].length)=true:=λx=>jq (by simp only[yf0,yp0];omega);obtain⟨w,hw⟩:∃w,(qm l0).getD j 0=w:=⟨_,rfl⟩;unfold zji mkS;rw[hw,show([60,32]:List UInt8)=ltL from rfl,show([62,32]:List UInt8)=gtL from rfl,show([45,45,45,10]:List UInt8)=midL from rfl]
      have fin:∀(t1:TX) (x1:PV zu),(((bif inB (j:Int) (qm l0).length then
       bif ((((qm l0).getD (j:Int).toNat 0).toNat:Int)==99) then
        ((bif ((t1.length:Int)==0) then some (t1,out,qm l0,(j:Int),x1,true,()) else bif inB 0 t1.length then some (t1,out,qm l0,(j:Int),x1,(!((t1.getD ((0:Int).toNat) [])==midL)),()) else none:Option ((PV zf×PV zk×PV .str×PV (.int .i64)×PV zu×PV .bool×Unit)))).bind λj16=>
          bif j16.2.2.2.2.2.1 then some (.inr ([],false,())) else bif cutB 1 (j16.1.length:Int) j16.1.length then some (.inl ((cutL 1 (j16.1.length:Int) j16.1),j16.2.1,j16.2.2.1,j16.2.2.2.1,j16.2.2.2.2.1,())) else none
       else some (.inl (t1,out,qm l0,(j:Int),x1,()))
       else none:Option ((PV zf×PV zk×PV .str×PV (.int .i64)×PV zu×Unit)⊕(PV zk×PV .bool×Unit)))).bind λx25=>
        match x25 with
        | .inl j17=>
          ((bif inB j17.2.2.2.1 j17.2.2.1.length then
             bif (!(((j17.2.2.1.getD j17.2.2.2.1.toNat 0).toNat:Int)==100)) then
              (zby j17.1 gtL).bind λr18=>some (r18.1.2.1,j17.2.1,(j17.2.2.2.2.1.1,(j17.2.2.2.2.1.2.1,(j17.2.2.2.2.1.2.2.1,(j17.2.2.2.2.1.2.2.2.1,(j17.2.2.2.2.1.2.2.2.2.1,(r18.1.1,j17.2.2.2.2.1.2.2.2.2.2.2)))))),())
             else some (j17.1,j17.2.1,j17.2.2.2.2.1,())
            else none:Option ((PV zf×PV zk×PV zu×Unit)))).bind λj19=>
            bif qw (j19.2.1.length+[j19.2.2.1].length) then some (.inl (j19.1,(j19.2.1++[j19.2.2.1]),())) else none
        | .inr j20=>some (.inr (.inr (j20.1,j20.2.1,()))))=
       (((bif w==99 then(bif (bif ((List.length t1:Int)==0) then true else !((List.getD t1 ((0:Int).toNat) [])==midL)) then some (.inr ()) else some (.inl (List.drop 1 t1))) else some (.inl t1):Option (PV zf⊕Unit))).bind λz=>
         match z with
         | .inr _=>zd6
         | .inl t2=>((bif !(w==100) then(zby t2 gtL).bind λr18=>some (r18.1.2.1,(x1.1,(x1.2.1,(x1.2.2.1,(x1.2.2.2.1,(x1.2.2.2.2.1,(r18.1.1,x1.2.2.2.2.2.2))))))) else some (t2,x1):Option (PV zf×PV zu))).bind λj19=>some (.inl (j19.1,out++[j19.2],()))):=by
       intro t1 x1
       have e2:∀t2:TX,(((bif inB (j:Int) (qm l0).length then
        bif (!((((qm l0).getD (j:Int).toNat 0).toNat:Int)==100)) then
         (zby t2 gtL).bind λr18=>some (r18.1.2.1,out,(x1.1,(x1.2.1,(x1.2.2.1,(x1.2.2.2.1,(x1.2.2.2.2.1,(r18.1.1,x1.2.2.2.2.2.2)))))),())
        else some (t2,out,x1,())
        else none:Option ((PV zf×PV zk×PV zu×Unit)))).bind λj19=>
        bif qw (j19.2.1.length+[j19.2.2.1].length) then some (.inl (j19.1,(j19.2.1++[j19.2.2.1]),())) else none:Option RI)=
        ((bif !(w==100) then(zby t2 gtL).bind λr18=>some (r18.1.2.1,(x1.1,(x1.2.1,(x1.2.2.1,(x1.2.2.2.1,(x1.2.2.2.2.1,(r18.1.1,x1.2.2.2.2.2.2))))))) else some (t2,x1):Option (PV zf×PV zu))).bind λj19=>some (.inl (j19.1,out++[j19.2],())):=by
        intro t2;rw[zq hjl,yb0,toNat_cast,hw,b100];cases !(w==100)
        ·rw[yd0,yd0,ya0,ya0]
         dsimp only;rw[hr,yb0]
        ·rw[yb0,yb0]
         cases zby t2 gtL with
         |none=>rfl
         |some r=>
          rw[ya0,ya0,ya0,ya0];dsimp only;rw[hr,yb0]
       rw[zq hjl,yb0,toNat_cast,hw,b99];cases hw9:w==99
       ·rw[yd0,yd0,ya0,ya0]
        exact e2 t1
       ·rw[yb0,yb0]
        by_cases hz:t1.length=0
        ·rw[show((t1.length:Int)==0)=true from by rw[hz];rfl,yb0,yb0]
         rfl
        ·rw[show((t1.length:Int)==0)=false from beq_eq_false_iff_ne.2 (by omega),yd0,yd0,show inB 0 t1.length=true from zq (i:=0) (by omega),yb0,ya0]
         dsimp only;cases !((List.getD t1 ((0:Int).toNat) [])==midL)
         ·rw[yd0,yd0,(cut1 t1 hz).1,yb0,(cut1 t1 hz).2,ya0,ya0]
          exact e2 _
         ·rfl
      cases hw7: !(w==97)
      ·rw[yd0,yd0,ya0,ya0]
       exact fin t _
      ·rw[yb0,yb0]
       cases zby t ltL with
       |none=>rfl
       |some r=>
        rw[ya0,ya0,ya0,ya0];exact fin _ _
     ·rw[h3,h4]
      rfl
    ·rw[h1,h2,ya0,yb0]
     dsimp only;rcases znb _ hl2 with⟨c,d,q',h3,h4⟩|⟨h3,c,d,q',h4⟩
     ·rw[h4];rfl
     ·rw[h4];rfl
 ·intro a b c d j hh
  unfold zav at hh;rcases zsa sg3 (qm l0) with hi|⟨hi1,hi2⟩
  ·rw[hi] at hh;cases hh
  ·rw[yw0 (by omega)] at hh
   split at hh
   ·cases hh
   ·split at hh
    ·cases hh
    ·injection hh with hh
     simp only[ya1] at hh;omega
end R.O.V.N
end

section
/- Steps, read: the head of one, and what comes behind it, as the reference reads them. -/
open Go Go.Dn
namespace R.O.V.N
theorem qxv (h:List UInt8)(hs:h.length<=3000)(x:PV zu):zu1 (h,x,0,())=some (h,x,((h.findIdx λc=>sg3.contains c:Nat):Int),()):=by
 rw[show zu1 (h,x,0,())=_ from zcj (B:=λd=>zfr d.1 d.2.1 d.2.2.1) h (λc=>sg3.contains c) (λi=>(h,x,(i:Int),())) (λi=>(h,x,(i:Int),())) (h,x,(h.length:Int),())
  (λi hi hq=>by
    show zfr h x i=_;rw[zyo,Bool.or_eq_false_iff,Bool.or_eq_false_iff] at hq;unfold zfr;rw[yc0 (by omega:(i:Int)<(h.length:Int)),yb0,zq hi,yb0,toNat_cast,qo hi,b97,hq.1,yb1,yb0,yb0,b99,hq.2.1,yb1,yb0,yb0,b100,hq.2.2,yb1,yb0,wrap64 (by omega) (by omega)];rfl)
  (λi hi hq=>by
    show zfr h x i=_;rw[zyo] at hq;unfold zfr;rw[yc0 (by omega:(i:Int)<(h.length:Int)),yb0,zq hi,yb0,toNat_cast,qo hi,b97];cases h1:h[i]==97
    ·rw[yb1,yb0,yb0,b99]
     cases h2:h[i]==99
     ·rw[h1,h2,yc2,yc2] at hq
      rw[yb1,yb0,yb0,b100,hq,ys0,yd0]
     ·rw[ys0,yd0]
    ·rw[ys0,yd0])
  (by
    show zfr h x h.length=_;unfold zfr;rw[yi0 (yh1 _),yd0])]
 cases ha:h.any λc=>sg3.contains c
 ·rw[yw0 (by simp)]
  have:h.findIdx (λc=>sg3.contains c)=h.length:=List.findIdx_eq_length.2 λc hc=>by simpa using List.any_eq_false.1 ha c hc
  rw[this]
 ·rw[yx0 rfl]
def ixS (h:List UInt8):Nat:=h.findIdx λc=>sg3.contains c
theorem jbn (h:List UInt8):ixS h<=h.length:=List.findIdx_le_length
def hS (h:List UInt8):Option (Int×Int×Int×Int×UInt8):=
 if ixS h=h.length then none else
  if ((endR 0 (h.take (ixS h))).2.2.1&&(endR 0 (h.drop (ixS h+1))).2.2.1)=true then
   some ((endR 0 (h.take (ixS h))).1,(endR 0 (h.take (ixS h))).2.1,(endR 0 (h.drop (ixS h+1))).1,(endR 0 (h.drop (ixS h+1))).2.1,h.getD (ixS h) 0)
  else none
theorem zoe (h:List UInt8)(hs:h.length<=3000):zq3 h=some ((match hS h with|none=>(mkS 0 0 0 0,0,false,())|some (a,b,c,d,w)=>(mkS a b c d,(w.toNat:Int),true,())),()):=by
 have hle:=jbn h;unfold zq3;rw[qxv h hs,ya0];dsimp only;rw[show(h.findIdx λc=>sg3.contains c)=ixS h from rfl];unfold hS;by_cases h1:ixS h=h.length
 ·rw[yx0 h1,show((ixS h:Int)==(h.length:Int))=true from beq_iff_eq.2 (by omega)];rfl
 ·rw[yw0 h1,show((ixS h:Int)==(h.length:Int))=false from beq_eq_false_iff_ne.2 (by omega),yd0,zit hle,yb0,znm,zqk _ (by rw[yp1];omega),ya0]
  dsimp only;rw[wrap64 (by omega) (by omega),show(ixS h:Int)+1=((ixS h+1:Nat):Int) by omega,zek (by omega),yb0,zel,zqk _ (by rw[yc1];omega),ya0];dsimp only;cases(endR 0 (h.take (ixS h))).2.2.1
  ·rfl
  ·rw[ys0,yd0,ya0]
   dsimp only;cases(endR 0 (h.drop (ixS h+1))).2.2.1
   ·rfl
   ·rw[ys0,yd0,zq (by omega),yb0,toNat_cast]
    rfl
abbrev RS:=(PV .str×PV zf×PV zk×Unit)⊕((PV .str×PV zk×Unit)⊕(PV zk×PV (.int .i64)×PV .bool×Unit))
def ztm:Option RS:=some (.inr (.inr ([],1,false,())))
noncomputable def zlw (s:List UInt8)(t:TX)(out:SR)(x:PV zu)(w:UInt8):Option RS:=
 ((bif !(w==97) then(zb7 t ltL).bind λr8=>(bif cutB r8.1.2.1 (t.length:Int) t.length then some (cutL r8.1.2.1 (t.length:Int) t,(x.1,(x.2.1,(r8.1.1,x.2.2.2)))) else none) else some (t,x):Option (PV zf×PV zu))).bind λj9=>
   ((bif !(w==100) then(zb7 (bif w==99 then List.drop 1 j9.1 else j9.1) gtL).bind λr13=>
      (bif cutB r13.1.2.1 (List.length (bif w==99 then List.drop 1 j9.1 else j9.1:PV zf):Int) (List.length (bif w==99 then List.drop 1 j9.1 else j9.1:PV zf)) then
        some (cutL r13.1.2.1 (List.length (bif w==99 then List.drop 1 j9.1 else j9.1:PV zf):Int) (bif w==99 then List.drop 1 j9.1 else j9.1),(j9.2.1,(j9.2.2.1,(j9.2.2.2.1,(j9.2.2.2.2.1,(j9.2.2.2.2.2.1,(r13.1.1,j9.2.2.2.2.2.2.2))))))) else none)
     else some ((bif w==99 then List.drop 1 j9.1 else j9.1),j9.2):Option (PV zf×PV zu))).bind λj14=>
     some (.inl (s,j14.1,out++[j14.2],()))
theorem jb0 (t:TX):(bif (decide ((t.length:Int)>0)) then(bif cutB 1 (t.length:Int) t.length then some (cutL 1 (t.length:Int) t) else none) else some t:Option (PV zf))=some (List.drop 1 t):=by
 by_cases h:t.length=0
 ·obtain rfl:t=[]:=yt0 h
  rfl
 ·rw[yc0 (by omega),yb0,(cut1 t h).1,yb0,(cut1 t h).2]
theorem qgl (s l0:List UInt8)(t:TX)(out:SR)(h1:1<=l0.length)(h0:l0.length<=3000)(hn:t.length<=3000)(ho:out.length<=3000):
 zgg s (l0::t) out=match hS (qm l0) with|none=>ztm|some (a,b,c,d,w)=>zlw s t out (mkS a b c d) w:=by
 have hpl:=znl l0;have hr:∀x:PV zu,qw (out.length+[x].length)=true:=λx=>jq (by simp only[yf0,yp0];omega);unfold zgg;rw[yc0 (by simp only[yf0];omega:(((l0::t).length:Nat):Int)>0),yb0,show inB 0 (l0::t).length=true from zq (i:=0) (by simp),yb0,show(l0::t).getD ((0:Int).toNat) []=l0 from rfl,zn7 l0 h1 (by omega),ya0];dsimp only;rw[zoe _ (by omega),ya0];cases hh:hS (qm l0) with
 |none=>rfl
 |some q=>
  obtain⟨a,b,c,d,w⟩:=q;dsimp only;rw[ys0,yd0,zaj,yb0,drop_one,b97];unfold zlw;rw[show([60,32]:List UInt8)=ltL from rfl,show([62,32]:List UInt8)=gtL from rfl]
  have fin:∀(t1:TX) (x1:PV zu),
   ((((bif ((w.toNat:Int)==99) then some (s,t1,out,x1,(w.toNat:Int),(decide ((t1.length:Int)>0)),()) else some (s,t1,out,x1,(w.toNat:Int),false,()):Option ((PV .str×PV zf×PV zk×PV zu×PV (.int .u8)×PV .bool×Unit)))).bind λj10=>
     bif j10.2.2.2.2.2.1 then bif cutB 1 (j10.2.1.length:Int) j10.2.1.length then some (j10.1,(cutL 1 (j10.2.1.length:Int) j10.2.1),j10.2.2.1,j10.2.2.2.1,j10.2.2.2.2.1,()) else none
     else some (j10.1,j10.2.1,j10.2.2.1,j10.2.2.2.1,j10.2.2.2.2.1,()):Option ((PV .str×PV zf×PV zk×PV zu×PV (.int .u8)×Unit))))=
   some (s,(bif w==99 then List.drop 1 t1 else t1),out,x1,(w.toNat:Int),()):=by
   intro t1 x1;rw[b99];cases w==99
   ·rfl
   ·rw[yb0,yb0,ya0]
    dsimp only;have:=jb0 t1;by_cases hz:t1.length=0
    ·obtain rfl:t1=[]:=yt0 hz
     rfl
    ·rw[yc0 (by omega),yb0,(cut1 t1 hz).1,yb0,(cut1 t1 hz).2]
  cases hw7: !(w==97)
  ·rw[yd0,yd0,ya0,ya0]
   dsimp only;rw[fin,ya0];dsimp only;rw[b100];cases !(w==100)
   ·rw[yd0,yd0,ya0,ya0]
    dsimp only;rw[hr,yb0]
   ·rw[yb0,yb0]
    cases zb7 (bif w==99 then List.drop 1 t else t) gtL with
    |none=>rfl
    |some r=>
     rw[ya0,ya0];cases cutB r.1.2.1 (List.length (bif w==99 then List.drop 1 t else t:PV zf):Int) (List.length (bif w==99 then List.drop 1 t else t:PV zf))
     ·rfl
     ·rw[yb0,yb0,ya0,ya0]
      dsimp only;rw[hr,yb0]
  ·rw[yb0,yb0]
   cases zb7 t ltL with
   |none=>rfl
   |some r0=>
    rw[ya0,ya0];cases cutB r0.1.2.1 (t.length:Int) t.length
    ·rfl
    ·rw[yb0,yb0,ya0,ya0]
     dsimp only;rw[fin,ya0];dsimp only;rw[b100];generalize cutL r0.1.2.1 (t.length:Int) t=t1;cases !(w==100)
     ·rw[yd0,yd0,ya0,ya0]
      dsimp only;rw[hr,yb0]
     ·rw[yb0,yb0]
      cases zb7 (bif w==99 then List.drop 1 t1 else t1) gtL with
      |none=>rfl
      |some r=>
       rw[ya0,ya0];cases cutB r.1.2.1 (List.length (bif w==99 then List.drop 1 t1 else t1:PV zf):Int) (List.length (bif w==99 then List.drop 1 t1 else t1:PV zf))
       ·rfl
       ·rw[yb0,yb0,ya0,ya0]
        dsimp only;rw[hr,yb0]
end R.O.V.N
end

section
/- Steps, read: both readers end, whatever the lines are. -/
open Go Go.Dn
namespace R.O.V.N
def OW (x:PV zu):Prop:=(List.length x.2.2.1<=3000/\∀l∈(x.2.2.1:TX),l.length<=3000)/\(List.length x.2.2.2.2.2.1<=3000/\∀l∈(x.2.2.2.2.2.1:TX),l.length<=3000)
theorem OW.tot {gs:SR}(hl:gs.length<=3000)(h:∀x∈gs,OW x):tot zk gs<=4611686018427387904:=by
 have hx:∀x∈gs,Go.Dn.tot zu x<=20000000:=λx hx=>by
  obtain⟨⟨h1,h2⟩,h3,h4⟩:=h x hx
  have h5:Go.Dn.tot zf x.2.2.1<=(3000+1)*List.length x.2.2.1:=zlo λs hs=>by
   have:=h2 s hs;rw[zn0];exact this
  have h6:Go.Dn.tot zf x.2.2.2.2.2.1<=(3000+1)*List.length x.2.2.2.2.2.1:=zlo λs hs=>by
   have:=h4 s hs;rw[zn0];exact this
  simp only[Go.Dn.tot] at h5 h6 ⊢;omega
 have h5:Go.Dn.tot zk gs<=(20000000+1)*gs.length:=zlo hx;omega
theorem qgm (a b c d:Int):OW (mkS a b c d):=⟨⟨ye1 _,λl h=>by cases h⟩,ye1 _,λl h=>by cases h⟩
theorem q5p (t:TX)(out:SR){x:PV zu}(w:UInt8)(hx:OW x)(hn:t.length<=3000)(hm:∀l∈t,l.length<=3000):
 zji t out x w=zd6\/∃(y:PV zu) (r:TX),zji t out x w=some (.inl (r,out++[y],()))/\OW y/\r.length<=t.length/\∀l∈r,l∈t:=by
 have s1:∃(t1:TX) (x1:PV zu),((bif !(w==97) then(zby t ltL).bind λr13=>some (r13.1.2.1,(x.1,(x.2.1,(r13.1.1,x.2.2.2)))) else some (t,x):Option (PV zf×PV zu)))=some (t1,x1)/\OW x1/\t1.length<=t.length/\∀l∈t1,l∈t:=by
  cases !(w==97)
  ·exact⟨t,x,rfl,hx,ym0 _,λl h=>h⟩
  ·obtain⟨o,r,q1,q2,q3,q4,q5⟩:=z3z ltL (by decide) t hn hm
   rw[yb0,q1,ya0];exact⟨r,_,rfl,⟨⟨q2,q5⟩,hx.2⟩,q3,q4⟩
 obtain⟨t1,x1,e1,o1,n1,m1⟩:=s1
 have s2:((bif w==99 then
  (bif (bif ((List.length t1:Int)==0) then true else !((List.getD t1 ((0:Int).toNat) [])==midL)) then some (.inr ()) else some (.inl (List.drop 1 t1)))
  else some (.inl t1):Option (PV zf⊕Unit)))=some (.inr ())\/∃t2:TX,((bif w==99 then
   (bif (bif ((List.length t1:Int)==0) then true else !((List.getD t1 ((0:Int).toNat) [])==midL)) then some (.inr ()) else some (.inl (List.drop 1 t1)))
  else some (.inl t1):Option (PV zf⊕Unit)))=some (.inl t2)/\t2.length<=t1.length/\∀l∈t2,l∈t1:=by
  cases w==99
  ·exact .inr ⟨t1,rfl,ym0 _,λl h=>h⟩
  ·rw[yb0]
   cases(bif ((List.length t1:Int)==0) then true else !((List.getD t1 ((0:Int).toNat) [])==midL))
   ·exact .inr ⟨List.drop 1 t1,rfl,by rw[yc1];omega,λl h=>yy1 h⟩
   ·exact .inl rfl
 unfold zji;rw[e1,ya0];dsimp only;rcases s2 with e2|⟨t2,e2,n2,m2⟩
 ·rw[e2];exact .inl rfl
 ·right
  rw[e2,ya0];dsimp only;cases !(w==100)
  ·rw[yd0,ya0]
   exact⟨x1,t2,rfl,o1,by omega,λl h=>m1 l (m2 l h)⟩
  ·obtain⟨o,r,q1,q2,q3,q4,q5⟩:=z3z gtL (by decide) t2 (by omega) (λl h=>hm l (m1 l (m2 l h)))
   rw[yb0,q1,ya0,ya0];exact⟨_,r,rfl,⟨o1.1,q2,q5⟩,by omega,λl h=>m1 l (m2 l (q4 l h))⟩
noncomputable abbrev BI (d:PV zf×PV zk×Unit):=zfe d.1 d.2.1
theorem go_I {ls:TX}{out:SR}{d r}(h:zfe ls out=some (.inl d))(h2:zc4 d=some r):zc4 (ls,out,())=some r:=Eq.trans (zan (B:=BI) (s:=(ls,out,())) (t:=d) h) h2
theorem zdk {ls:TX}{out:SR}{r}(h:zfe ls out=some (.inr r)):zc4 (ls,out,())=some r:=jm (B:=BI) (s:=(ls,out,())) h
theorem zy3:∀(n:Nat) (ls:TX) (out:SR),ls.length<=n->ls.length<=3000->(∀l∈ls,l.length<=3000)->out.length<=20->(∀x∈out,OW x)->
 ∃gs:SR,gs.length<=20/\(∀x∈gs,OW x)/\(zc4 (ls,out,())=some (.inl (gs,()))\/zc4 (ls,out,())=some (.inr (gs,false,()))):=by
 have fail:∀{ls:TX} {out:SR},zfe ls out=zd6->∃gs:SR,gs.length<=20/\(∀x∈gs,OW x)/\(zc4 (ls,out,())=some (.inl (gs,()))\/zc4 (ls,out,())=some (.inr (gs,false,()))):=
  λh=>⟨[],ye1 _,λx hx=>(by cases hx),.inr (zdk h)⟩
 intro n
 induction n with
 |zero=>
  intro ls out h _ _ ho hg;obtain rfl:ls=[]:=yt0 (by omega);exact⟨out,ho,hg,.inl (zdk rfl)⟩
 |succ n ih=>
  intro ls out h h1 hm ho hg;cases ls with
  |nil=>exact⟨out,ho,hg,.inl (zdk rfl)⟩
  |cons l0 t=>
   simp only[yf0] at h h1;have hmt:∀l∈t,l.length<=3000:=λl hl=>hm l (yg0 _ hl);have hs:=(qgk l0 t out (hm l0 (yk0 ..)) (by omega) hmt ho).1;by_cases h60:out.length=20
   ·rw[yx0 h60] at hs;exact fail hs
   ·rw[yw0 h60] at hs
    cases hh:zav l0 with
    |none=>rw[hh] at hs;exact fail hs
    |some q=>
     obtain⟨a,b,c,d,j⟩:=q;rw[hh] at hs;dsimp only at hs;rcases q5p t out ((qm l0).getD j 0) (qgm a b c d) (by omega) hmt with e|⟨y,r,e,hy,hr,hmem⟩
     ·rw[e] at hs;exact fail hs
     ·rw[e] at hs
      obtain⟨gs,q1,q2,q3⟩:=ih r (out++[y]) (by omega) (by omega) (λl hl=>hmt l (hmem l hl)) (by simp;omega) (λz hz=>by
       rcases List.mem_append.1 hz with hz|hz
       ·exact hg z hz
       ·obtain rfl:=List.mem_singleton.1 hz
        exact hy)
      exact⟨gs,q1,q2,q3.imp (go_I hs) (go_I hs)⟩
theorem zwq (ls:TX)(h1:ls.length<=3000)(hm:∀l∈ls,l.length<=3000):∃(gs:SR) (q:Bool),zjv ls=some ((gs,q,()),())/\tot zk gs<=4611686018427387904:=by
 obtain⟨gs,q1,q2,q3⟩:=zy3 ls.length ls [] (ym0 _) h1 hm (ye1 _) (λx hx=>by cases hx);unfold zjv;rcases q3 with e|e
 ·rw[show zc4 (ls,([]:PV zk),())=_ from e];exact⟨gs,true,rfl,OW.tot (by omega) q2⟩
 ·rw[show zc4 (ls,([]:PV zk),())=_ from e];exact⟨gs,false,rfl,OW.tot (by omega) q2⟩
theorem qd5 (g:List UInt8)(hg:g.length<=100)(t:TX)(h1:t.length<=3000)(hm:∀l∈t,l.length<=3000):
 ∃(o:TX) (k:Nat),zb7 t g=some ((o,(k:Int),()),())/\cutB (k:Int) (t.length:Int) t.length=true/\cutL (k:Int) (t.length:Int) t=t.drop k/\(t.drop k).length<=t.length/\o.length<=3000/\∀l∈o,l.length<=3000:=by
 obtain⟨o,k,q1,q2,q3,q4⟩:=q1x g hg t h1 hm;exact⟨o,k,q1,zek q2,zel k t,by rw[yc1];omega,q3,q4⟩
theorem q5q (s:List UInt8)(t:TX)(out:SR){x:PV zu}(w:UInt8)(hx:OW x)(hn:t.length<=3000)(hm:∀l∈t,l.length<=3000):
 ∃(y:PV zu) (r:TX),zlw s t out x w=some (.inl (s,r,out++[y],()))/\OW y/\r.length<=t.length/\∀l∈r,l∈t:=by
 have s1:∃(t1:TX) (x1:PV zu),((bif !(w==97) then(zb7 t ltL).bind λr8=>(bif cutB r8.1.2.1 (t.length:Int) t.length then some (cutL r8.1.2.1 (t.length:Int) t,(x.1,(x.2.1,(r8.1.1,x.2.2.2)))) else none) else some (t,x):Option (PV zf×PV zu)))=some (t1,x1)/\OW x1/\t1.length<=t.length/\∀l∈t1,l∈t:=by
  cases !(w==97)
  ·exact⟨t,x,rfl,hx,ym0 _,λl h=>h⟩
  ·obtain⟨o,k,q1,q2,q3,q4,q5,q6⟩:=qd5 ltL (by decide) t hn hm
   rw[yb0,q1,ya0];dsimp only;rw[q2,yb0,q3];exact⟨_,_,rfl,⟨⟨q5,q6⟩,hx.2⟩,q4,λl h=>yy1 h⟩
 obtain⟨t1,x1,e1,o1,n1,m1⟩:=s1
 have s2:∃t2:TX,(bif w==99 then List.drop 1 t1 else t1)=t2/\t2.length<=t1.length/\∀l∈t2,l∈t1:=by
  cases w==99
  ·exact⟨t1,rfl,ym0 _,λl h=>h⟩
  ·exact⟨List.drop 1 t1,rfl,by rw[yc1];omega,λl h=>yy1 h⟩
 obtain⟨t2,e2,n2,m2⟩:=s2;unfold zlw;rw[e1,ya0];dsimp only;rw[e2];cases !(w==100)
 ·rw[yd0,ya0]
  exact⟨x1,t2,rfl,o1,by omega,λl h=>m1 l (m2 l h)⟩
 ·obtain⟨o,k,q1,q2,q3,q4,q5,q6⟩:=qd5 gtL (by decide) t2 (by omega) (λl h=>hm l (m1 l (m2 l h)))
  rw[yb0,q1,ya0];dsimp only;rw[q2,yb0,q3,ya0];exact⟨_,t2.drop k,rfl,⟨o1.1,q5,q6⟩,by omega,λl h=>m1 l (m2 l (yy1 h))⟩
noncomputable abbrev BS (d:PV .str×PV zf×PV zk×Unit):=zgg d.1 d.2.1 d.2.2.1
theorem go_S {s:List UInt8}{ls:TX}{out:SR}{d r}(h:zgg s ls out=some (.inl d))(h2:ze9 d=some r):ze9 (s,ls,out,())=some r:=Eq.trans (zan (B:=BS) (s:=(s,ls,out,())) (t:=d) h) h2
theorem zeu {s:List UInt8}{ls:TX}{out:SR}{r}(h:zgg s ls out=some (.inr r)):ze9 (s,ls,out,())=some r:=jm (B:=BS) (s:=(s,ls,out,())) h
theorem zy4 (s:List UInt8):∀(n:Nat) (ls:TX) (out:SR),ls.length<=n->out.length+ls.length<=3000->(∀l∈ls,1<=l.length/\l.length<=3000)->(∀x∈out,OW x)->
 (∃gs:SR,gs.length<=3000/\(∀x∈gs,OW x)/\ze9 (s,ls,out,())=some (.inl (s,gs,())))\/ze9 (s,ls,out,())=some (.inr ([],1,false,())):=by
 intro n
 induction n with
 |zero=>
  intro ls out h h1 _ hg;obtain rfl:ls=[]:=yt0 (by omega);exact .inl ⟨out,by simpa using h1,hg,zeu rfl⟩
 |succ n ih=>
  intro ls out h h1 hm hg;cases ls with
  |nil=>exact .inl ⟨out,by simpa using h1,hg,zeu rfl⟩
  |cons l0 t=>
   simp only[yf0] at h h1;have hs:=qgl s l0 t out (hm l0 (yk0 ..)).1 (hm l0 (yk0 ..)).2 (by omega) (by omega);have hmt:∀l∈t,1<=l.length/\l.length<=3000:=λl hl=>hm l (yg0 _ hl);cases hh:hS (qm l0) with
   |none=>rw[hh] at hs;exact .inr (zeu hs)
   |some q=>
    obtain⟨a,b,c,d,w⟩:=q;rw[hh] at hs;dsimp only at hs;obtain⟨y,r,e,hy,hr,hmem⟩:=q5q s t out w (qgm a b c d) (by omega) (λl hl=>(hmt l hl).2);rw[e] at hs
    rcases ih r (out++[y]) (by omega) (by simp;omega) (λl hl=>hmt l (hmem l hl)) (λz hz=>by
     rcases List.mem_append.1 hz with hz|hz
     ·exact hg z hz
     ·obtain rfl:=List.mem_singleton.1 hz
      exact hy) with⟨gs,q1,q2,q3⟩|q3
    ·exact .inl ⟨gs,q1,q2,go_S hs q3⟩
    ·exact .inr (go_S hs q3)
end R.O.V.N
end

section
/- Steps, read: what is written of good steps is read back by both. -/
open Go Go.Dn
namespace R.O.V.N
theorem zst {c:UInt8}(h:isDg c=true\/c=44):sg3.contains c=false/\c≠10/\c≠60/\c≠62/\c≠92:=by
 rcases h with h|rfl
 ·have key:∀d:UInt8,isDg d=false->c≠d:=λd hd e=>by rw[e,hd] at h;cases h
  refine⟨?_,key 10 rfl,key 60 rfl,key 62 rfl,key 92 rfl⟩;rw[zyo,beq_eq_false_iff_ne.2 (key 97 rfl),beq_eq_false_iff_ne.2 (key 99 rfl),beq_eq_false_iff_ne.2 (key 100 rfl)];rfl
 ·exact⟨by decide,by decide,by decide,by decide,by decide⟩
theorem q8d (x:PV zu):(zac x=97\/zac x=99\/zac x=100)/\sg3.contains (zac x)=true/\zac x≠10:=by
 unfold zac;split
 ·exact⟨.inl rfl,by decide,by decide⟩
 ·split
  ·exact⟨.inr (.inr rfl),by decide,by decide⟩
  ·exact⟨.inr (.inl rfl),by decide,by decide⟩
theorem qab {q:UInt8->Bool}{c:UInt8}(r:List UInt8)(hc:q c=true):∀{p:List UInt8},(∀b∈p,q b=false)->(p++c::r).findIdx q=p.length
 |[],_=>by rw[yn1,List.findIdx_cons,hc];rfl
 |b::p,h=>by
  have ih:=qab (p:=p) r hc λx hx=>h x (yg0 _ hx);rw[yt1,List.findIdx_cons,h b (yk0 ..),ih];rfl
theorem jbo {n:Nat}(h:n<10000):∃c r,dec n=c::r/\isDg c=true:=by
 have hc:=(zbs h).1;cases hd:Lib.decDigits n with
 |nil=>rw[hd] at hc;cases hc
 |cons c r=>exact⟨c,r,hd,zcx hc c (by rw[hd];exact yk0 ..)⟩
theorem q8e {a b:Nat}(ha:a<10000):∃c r,pairT a b=c::r/\isDg c=true:=by
 obtain⟨c,r,e,h⟩:=jbo ha;unfold pairT;split
 ·exact⟨c,r,e,h⟩
 ·rw[e];exact⟨c,_,rfl,h⟩
theorem heads {x:PV zu}(h:zas x=true):isL (zau x)/\
 (∃a b c d j:Nat,zav (zau x)=some (a,b,c,d,j)/\(qm (zau x)).getD j 0=zac x/\(x.1,(x.2.1,(([]:PV zf),(x.2.2.2.1,(x.2.2.2.2.1,(([]:PV zf),()))))))=mkS a b c d)/\
 hS (qm (zau x))=some (x.1,x.2.1,x.2.2.2.1,x.2.2.2.2.1,zac x)/\(∀g,g=ltL\/g=gtL->pre g (zau x)=false)/\zau x≠qj:=by
 obtain⟨a,b,c,d,ea,eb,ec,ed,hab,hb,hcd,hd,_,_,_⟩:=zio h;obtain⟨hw,hw1,hw2⟩:=q8d x;have hch:∀e∈pairT a b,sg3.contains e=false/\e≠10/\e≠60/\e≠62/\e≠92:=λe he=>zst (znq (by omega) (by omega) e he);have hch2:∀e∈pairT c d,sg3.contains e=false/\e≠10/\e≠60/\e≠62/\e≠92:=λe he=>zst (znq (by omega) (by omega) e he)
 have hT:zau x=(pairT a b++zac x::pairT c d)++[10]:=by
  unfold zau;rw[ea,eb,ec,ed,toNat_cast,toNat_cast,toNat_cast,toNat_cast];simp
 have hpl:qm (zau x)=pairT a b++zac x::pairT c d:=by rw[hT,zvx]
 have hi:Lib.indexAny (pairT a b++zac x::pairT c d) sg3=((pairT a b).length:Int):=zx4 _ hw1 λe he=>(hch e he).1;have hx:ixS (pairT a b++zac x::pairT c d)=(pairT a b).length:=qab _ hw1 λe he=>(hch e he).1;have hdr:(pairT a b++zac x::pairT c d).drop ((pairT a b).length+1)=pairT c d:=by rw[<-List.drop_drop,ya2];rfl
 have hget:(pairT a b++zac x::pairT c d).getD (pairT a b).length 0=zac x:=by simp[List.getD]
 obtain⟨q,hq⟩:=zks (a:=a) (b:=b) (by omega) (by omega);obtain⟨q',hq'⟩:=zks (a:=c) (b:=d) (by omega) (by omega);obtain⟨e0,r0,he0,hd0⟩:=q8e (a:=a) (b:=b) (by omega);have h0:=hch e0 (by rw[he0];exact yk0 ..);refine⟨⟨pairT a b++zac x::pairT c d,hT,λhm=> ?_⟩,⟨a,b,c,d,(pairT a b).length,?_,?_,?_⟩,?_,?_,?_⟩
 ·rcases List.mem_append.1 hm with hm|hm
  ·exact(hch 10 hm).2.1 rfl
  ·rcases List.mem_cons.1 hm with hm|hm
   ·exact hw2 hm.symm
   ·exact(hch2 10 hm).2.1 rfl
 ·unfold zav
  rw[hpl,hi,yw0 (by omega),toNat_cast,yb2,hq,hdr,hq']
 ·rw[hpl,hget]
 ·rw[ea,eb,ec,ed];rfl
 ·unfold hS
  rw[hpl,hx,yw0 (by simp),yb2,hdr,zgt hab hb,zgt hcd hd,hget,ea,eb,ec,ed];rfl
 ·intro g hg
  unfold pre;rw[hT,he0];rcases hg with rfl|rfl
  ·rw[show List.take ltL.length ((e0::r0++zac x::pairT c d)++[10])=e0::List.take 1 ((r0++zac x::pairT c d)++[10]) from rfl]
   rw[show(e0::List.take 1 ((r0++zac x::pairT c d)++[10])==ltL)=false from beq_eq_false_iff_ne.2 λe=>by unfold ltL at e;injection e with e _;exact h0.2.2.1 e,Bool.and_false]
  ·rw[show List.take gtL.length ((e0::r0++zac x::pairT c d)++[10])=e0::List.take 1 ((r0++zac x::pairT c d)++[10]) from rfl]
   rw[show(e0::List.take 1 ((r0++zac x::pairT c d)++[10])==gtL)=false from beq_eq_false_iff_ne.2 λe=>by unfold gtL at e;injection e with e _;exact h0.2.2.2.1 e,Bool.and_false]
 ·rw[hT,he0]
  intro e;unfold qj at e;injection e with e _;exact h0.2.2.2.2 e
def zlp (r:TX):Prop:=zet ltL r/\zet gtL r
theorem tail_nil:zlp []:=⟨trivial,trivial⟩
theorem q5r {x:PV zu}(h:zas x=true)(r:TX):zlp (zay x++r):=by
 obtain⟨_,_,_,h1,h2⟩:=heads h;exact⟨⟨h1 _ (.inl rfl),h2⟩,⟨h1 _ (.inr rfl),h2⟩⟩
theorem q2a {x:PV zu}(h:zas x=true){r:TX}(hr:zlp r)(out:SR)(hn:((allL ltL x.2.2.1++(zco x++allL gtL x.2.2.2.2.2.1))++r).length<=3000)(hm:∀l∈(allL ltL x.2.2.1++(zco x++allL gtL x.2.2.2.2.2.1))++r,l.length<=3000):
 zji ((allL ltL x.2.2.1++(zco x++allL gtL x.2.2.2.2.2.1))++r) out (x.1,(x.2.1,(([]:PV zf),(x.2.2.2.1,(x.2.2.2.2.1,(([]:PV zf),())))))) (zac x)=some (.inl (r,out++[x],())):=by
 obtain⟨f,t,o,n,m,w,u⟩:=x;obtain⟨_,_,_,_,_,_,_,_,_,_,_,_,⟨l1,m1,g1⟩,⟨l2,m2,g2⟩,hpos⟩:=zio h;dsimp only at l1 m1 g1 l2 m2 g2 hpos hn hm ⊢;unfold zji;dsimp only;have hmid:zco (f,t,o,n,m,w,u)=if List.length o=0 then[] else if List.length w=0 then[] else[midL]:=rfl
 have hwd:zac (f,t,o,n,m,w,u)=if List.length o=0 then 97 else if List.length w=0 then 100 else 99:=rfl
 rw[hwd];rw[hmid] at hn hm ⊢;by_cases ho:List.length o=0
 ·obtain rfl:o=[]:=yt0 ho
  rw[yx0 ho,show(allL ltL []++(([]:TX)++allL gtL w))++r=allL gtL w++r from rfl] at hn hm;rw[yx0 ho,yx0 ho,show(allL ltL []++(([]:TX)++allL gtL w))++r=allL gtL w++r from rfl];rw[show((97:UInt8)==97)=true from rfl,ys0,yd0,ya0];dsimp only;rw[show((97:UInt8)==99)=false from rfl,yd0,ya0];dsimp only;rw[show((97:UInt8)==100)=false from rfl,yb1,yb0,zpc (.inr rfl) hr.2 m2 g2 hn hm];rfl
 ·rw[yw0 ho] at hn hm
  rw[yw0 ho,yw0 ho];by_cases hw:List.length w=0
  ·obtain rfl:w=[]:=yt0 hw
   rw[yx0 hw,show(allL ltL o++(([]:TX)++allL gtL []))++r=allL ltL o++r from by rw[show(([]:TX)++allL gtL [])=[] from rfl,yz0]] at hn hm;rw[yx0 hw,yx0 hw,show(allL ltL o++(([]:TX)++allL gtL []))++r=allL ltL o++r from by rw[show(([]:TX)++allL gtL [])=[] from rfl,yz0]];rw[show((100:UInt8)==97)=false from rfl,yb1,yb0,zpc (.inl rfl) hr.1 m1 g1 hn hm,ya0,ya0];rfl
  ·rw[yw0 hw,yj0,show([midL]++allL gtL w)++r=midL::(allL gtL w++r) from rfl] at hn hm
   rw[yw0 hw,yw0 hw,yj0,show([midL]++allL gtL w)++r=midL::(allL gtL w++r) from rfl];have hmidok:zet ltL (midL::(allL gtL w++r)):=⟨rfl,by decide⟩;have hn2:(allL gtL w++r).length<=3000:=by rw[ye0,yf0] at hn;omega
   rw[show((99:UInt8)==97)=false from rfl,yb1,yb0,zpc (.inl rfl) hmidok m1 g1 hn hm,ya0,ya0];dsimp only;rw[show((99:UInt8)==99)=true from rfl,yb0,show((((midL::(allL gtL w++r)).length:Nat):Int)==0)=false from beq_eq_false_iff_ne.2 (by simp only[yf0];omega),yd0,show(midL::(allL gtL w++r)).getD ((0:Int).toNat) []=midL from rfl,yl1,ys0,yd0,ya0];dsimp only;rw[show((99:UInt8)==100)=false from rfl,yb1,yb0,show List.drop 1 (midL::(allL gtL w++r))=allL gtL w++r from rfl,zpc (.inr rfl) hr.2 m2 g2 hn2 (λx hx=>hm x (yq0 _ (yg0 _ hx)))];rfl
theorem zrt {g:List UInt8}(hg:g=ltL\/g=gtL){r:TX}(hr:zet g r){l:TX}(h:∀s∈l,jk s=true)(he:zdm l)(hn:(allL g l++r).length<=3000)(hm:∀x∈allL g l++r,x.length<=3000):
 zb7 (allL g l++r) g=some ((l,((allL g l).length:Int),()),())/\cutB ((allL g l).length:Int) ((allL g l++r).length:Int) (allL g l++r).length=true/\cutL ((allL g l).length:Int) ((allL g l++r).length:Int) (allL g l++r)=r:=
 ⟨qxu hg hr h he hn hm,zek (by rw[ye0];omega),by rw[zel,ya2]⟩
theorem q2b (s:List UInt8){x:PV zu}(h:zas x=true){r:TX}(hr:zlp r)(out:SR)(hn:((allL ltL x.2.2.1++(zco x++allL gtL x.2.2.2.2.2.1))++r).length<=3000)(hm:∀l∈(allL ltL x.2.2.1++(zco x++allL gtL x.2.2.2.2.2.1))++r,l.length<=3000):
 zlw s ((allL ltL x.2.2.1++(zco x++allL gtL x.2.2.2.2.2.1))++r) out (mkS x.1 x.2.1 x.2.2.2.1 x.2.2.2.2.1) (zac x)=some (.inl (s,r,out++[x],())):=by
 obtain⟨f,t,o,n,m,w,u⟩:=x;obtain⟨_,_,_,_,_,_,_,_,_,_,_,_,⟨l1,m1,g1⟩,⟨l2,m2,g2⟩,hpos⟩:=zio h;dsimp only at l1 m1 g1 l2 m2 g2 hpos hn hm ⊢;unfold zlw mkS;dsimp only;have hmid:zco (f,t,o,n,m,w,u)=if List.length o=0 then[] else if List.length w=0 then[] else[midL]:=rfl
 have hwd:zac (f,t,o,n,m,w,u)=if List.length o=0 then 97 else if List.length w=0 then 100 else 99:=rfl
 rw[hwd];rw[hmid] at hn hm ⊢;by_cases ho:List.length o=0
 ·obtain rfl:o=[]:=yt0 ho
  rw[yx0 ho,show(allL ltL []++(([]:TX)++allL gtL w))++r=allL gtL w++r from rfl] at hn hm;rw[yx0 ho,yx0 ho,show(allL ltL []++(([]:TX)++allL gtL w))++r=allL gtL w++r from rfl];obtain⟨k1,k2,k3⟩:=zrt (g:=gtL) (.inr rfl) hr.2 m2 g2 hn hm;rw[show((97:UInt8)==97)=true from rfl,ys0,yd0,ya0];dsimp only;rw[show((97:UInt8)==99)=false from rfl,yd0,show((97:UInt8)==100)=false from rfl,yb1,yb0,k1,ya0];dsimp only;rw[k2,yb0,k3];rfl
 ·rw[yw0 ho] at hn hm
  rw[yw0 ho,yw0 ho];by_cases hw:List.length w=0
  ·obtain rfl:w=[]:=yt0 hw
   rw[yx0 hw,show(allL ltL o++(([]:TX)++allL gtL []))++r=allL ltL o++r from by rw[show(([]:TX)++allL gtL [])=[] from rfl,yz0]] at hn hm;rw[yx0 hw,yx0 hw,show(allL ltL o++(([]:TX)++allL gtL []))++r=allL ltL o++r from by rw[show(([]:TX)++allL gtL [])=[] from rfl,yz0]];obtain⟨k1,k2,k3⟩:=zrt (g:=ltL) (.inl rfl) hr.1 m1 g1 hn hm;rw[show((100:UInt8)==97)=false from rfl,yb1,yb0,k1,ya0];dsimp only;rw[k2,yb0,k3];rfl
  ·rw[yw0 hw,yj0,show([midL]++allL gtL w)++r=midL::(allL gtL w++r) from rfl] at hn hm
   rw[yw0 hw,yw0 hw,yj0,show([midL]++allL gtL w)++r=midL::(allL gtL w++r) from rfl];have hmidok:zet ltL (midL::(allL gtL w++r)):=⟨rfl,by decide⟩;have hn2:(allL gtL w++r).length<=3000:=by rw[ye0,yf0] at hn;omega
   obtain⟨k1,k2,k3⟩:=zrt (g:=ltL) (.inl rfl) hmidok m1 g1 hn hm;obtain⟨k4,k5,k6⟩:=zrt (g:=gtL) (.inr rfl) hr.2 m2 g2 hn2 (λx hx=>hm x (yq0 _ (yg0 _ hx)));rw[show((99:UInt8)==97)=false from rfl,yb1,yb0,k1,ya0];dsimp only;rw[k2,yb0,k3,ya0];dsimp only;rw[show((99:UInt8)==99)=true from rfl,yb0,show((99:UInt8)==100)=false from rfl,yb1,yb0,show List.drop 1 (midL::(allL gtL w++r))=allL gtL w++r from rfl,k4,ya0];dsimp only;rw[k5,yb0,k6];rfl
theorem zg0 {x:PV zu}(h:zas x=true)(s:List UInt8){r:TX}(hr:zlp r)(out:SR)(hm:∀l∈zay x++r,l.length<=3000)(hn:(zay x++r).length<=3000):
 (out.length<20->zfe (zay x++r) out=some (.inl (r,out++[x],())))/\(out.length<=20->zgg s (zay x++r) out=some (.inl (s,r,out++[x],()))):=by
 obtain⟨⟨tt,htt,_⟩,⟨a,b,c,d,j,e1,e2,e3⟩,e4,_,_⟩:=heads h;have hl0:1<=(zau x).length:=by rw[htt];simp
 have e:zay x++r=zau x::((allL ltL x.2.2.1++(zco x++allL gtL x.2.2.2.2.2.1))++r):=by unfold zay;rw[yt1]
 rw[e] at hm hn ⊢;simp only[yf0] at hn;have hm0:=hm _ (yk0 ..);have hm1:∀l∈(allL ltL x.2.2.1++(zco x++allL gtL x.2.2.2.2.2.1))++r,l.length<=3000:=λl hl=>hm l (yg0 _ hl);constructor
 ·intro h20
  rw[(qgk _ _ out hm0 (by omega) hm1 (by omega)).1,yw0 (by omega),e1];dsimp only;rw[e2,<-e3];exact q2a h hr out (by omega) hm1
 ·intro h20
  rw[qgl s _ _ out hl0 hm0 (by omega) (by omega),e4];dsimp only;exact q2b s h hr out (by omega) hm1
end R.O.V.N
end

section
/- Steps, read: both sides answer the same. -/
open Go Go.Dn
namespace R.O.V.N
theorem zkw (x:PV zu)(os:SR):(x::os).flatMap zay=zay x++os.flatMap zay:=ys1
theorem qd6:∀{os:SR},(∀x∈os,zas x=true)->zlp (os.flatMap zay)
 |[],_=>tail_nil
 |x::os,h=>by rw[zkw];exact q5r (h x (yk0 ..)) _
theorem zoi:∀(os out:SR),(∀x∈os,zas x=true)->(out++os).length<=20->(∀l∈os.flatMap zay,l.length<=3000)->(os.flatMap zay).length<=3000->
 zc4 (os.flatMap zay,out,())=some (.inl (out++os,()))
 |[],out,_,_,_,_=>by rw[yz0];exact zdk rfl
 |x::os,out,hg,hl,hm,hn=>by
  rw[zkw] at hm hn ⊢;rw[ye0,yf0] at hl;have hg':∀y∈os,zas y=true:=λy hy=>hg y (yg0 _ hy);have ih:=zoi os (out++[x]) hg' (by simp;omega) (λl hl=>hm l (yq0 _ hl)) (by rw[ye0] at hn;omega);rw[yj0] at ih;exact go_I ((zg0 (hg x (yk0 ..)) [] (qd6 hg') out hm hn).1 (by omega)) ih
theorem zoj (s:List UInt8):∀(os out:SR),(∀x∈os,zas x=true)->(out++os).length<=20->(∀l∈os.flatMap zay,l.length<=3000)->(os.flatMap zay).length<=3000->
 ze9 (s,os.flatMap zay,out,())=some (.inl (s,out++os,()))
 |[],out,_,_,_,_=>by rw[yz0];exact zeu rfl
 |x::os,out,hg,hl,hm,hn=>by
  rw[zkw] at hm hn ⊢;rw[ye0,yf0] at hl;have hg':∀y∈os,zas y=true:=λy hy=>hg y (yg0 _ hy);have ih:=zoj s os (out++[x]) hg' (by simp;omega) (λl hl=>hm l (yq0 _ hl)) (by rw[ye0] at hn;omega);rw[yj0] at ih;exact go_S ((zg0 (hg x (yk0 ..)) s (qd6 hg') out hm hn).2 (by omega)) ih
theorem q8f {x:PV zu}(h:zas x=true):∀l∈zay x,isL l:=by
 obtain⟨_,_,_,_,_,_,_,_,_,_,_,_,⟨_,m1,_⟩,⟨_,m2,_⟩,_⟩:=zio h;intro l hl;unfold zay at hl;rcases List.mem_cons.1 hl with rfl|hl
 ·exact(heads h).1
 ·rcases List.mem_append.1 hl with hl|hl
  ·exact qfb (by decide) m1 l hl
  ·rcases List.mem_append.1 hl with hl|hl
   ·unfold zco at hl
    split at hl
    ·cases hl
    ·split at hl
     ·cases hl
     ·obtain rfl:=List.mem_singleton.1 hl
      exact q7y
   ·exact qfb (by decide) m2 l hl
theorem zkf {os:SR}(hg:za9 os=true):cutP (za2 os)=os.flatMap zay:=by
 have hL:∀l∈os.flatMap zay,isL l:=λl hl=>by
  obtain⟨x,hx,hl⟩:=List.mem_flatMap.1 hl;exact q8f ((zns hg).2 x hx) l hl
 rw[<-z9z os,zqf hL]
theorem zcy {os:SR}(hg:za9 os=true)(hl:(za2 os).length<=3000)(s:List UInt8):
 zjv (cutP (za2 os))=some ((os,true,()),())/\ze9 (s,cutP (za2 os),[],())=some (.inl (s,os,())):=by
 obtain⟨h1,h2⟩:=zns hg;have hc:=zcv (za2 os);have hm:∀l∈cutP (za2 os),l.length<=3000:=λl h=>by have:=zdx h;omega
 rw[zkf hg] at hc hm ⊢;refine⟨?_,zoj s os [] h2 (by simpa using h1) hm (by omega)⟩;unfold zjv;rw[show zc4 (os.flatMap zay,([]:PV zk),())=_ from zoi os [] h2 (by simpa using h1) hm (by omega)];rfl
def zjj (x:PV zu):Bool:=((x.2.2.1:TX)++(x.2.2.2.2.2.1:TX)).any λt=>t==[]
theorem q5s (s:List UInt8){gs:SR}(hl:gs.length<=3000)(h:∀x∈gs,OW x):z0j (s,gs,gs,(gs.length:Int),0,())=some (if gs.any zjj then .inr ([],1,false,()) else .inl (s,gs,())):=by
 have inner:∀(i:Nat) (l:TX),l.length<=6000->z0k (s,gs,gs,(gs.length:Int),(i:Int),l,(l.length:Int),0,())=some (if l.any (λt=>t==[]) then .inr ([],1,false,()) else .inl (s,gs,gs,(gs.length:Int),(i:Int),())):=λi l hl6=>
  zcj (B:=λd=>ze4 d.1 d.2.1 d.2.2.1 d.2.2.2.1 d.2.2.2.2.1 d.2.2.2.2.2.1 d.2.2.2.2.2.2.1 d.2.2.2.2.2.2.2.1) l (λt=>t==[]) (λk=>(s,gs,gs,(gs.length:Int),(i:Int),l,(l.length:Int),(k:Int),())) (λ_=>.inr ([],1,false,())) (.inl (s,gs,gs,(gs.length:Int),(i:Int),()))
   (λk hk hq=>by
     show ze4 s gs gs gs.length i l l.length k=_;unfold ze4;rw[yc0 (by omega:(k:Int)<(l.length:Int)),yb0,zq hk,yb0,toNat_cast,qo hk,show(l[k]==([]:PV .str))=false from hq,yd0,wrap64 (by omega) (by omega)];rfl)
   (λk hk hq=>by
     show ze4 s gs gs gs.length i l l.length k=_;unfold ze4;rw[yc0 (by omega:(k:Int)<(l.length:Int)),yb0,zq hk,yb0,toNat_cast,qo hk,show(l[k]==([]:PV .str))=true from hq,yb0])
   (by
     show ze4 s gs gs gs.length i l l.length l.length=_;unfold ze4;rw[yi0 (yh1 _),yd0])
 have body:∀i (hi:i<gs.length),ze5 s gs gs (gs.length:Int) (i:Int)=if zjj gs[i]=true then some (.inr (.inr ([],1,false,()))) else some (.inl (s,gs,gs,(gs.length:Int),((i+1:Nat):Int),())):=by
  intro i hi;obtain⟨⟨h1,_⟩,h2,_⟩:=h _ (yk1 hi)
  have hlen:((([]:PV zf)++gs[i].2.2.1)++gs[i].2.2.2.2.2.1).length<=6000:=by
   show List.length (([]++gs[i].2.2.1)++gs[i].2.2.2.2.2.1)<=6000;rw[ye0,yn1];omega
  unfold ze5 zvy;rw[yc0 (by omega:(i:Int)<(gs.length:Int)),yb0,zq hi,yb0,toNat_cast,qo hi,jq (by show 0+_<=_;omega),yb0,ya0];dsimp only;rw[jq (by rw[yn1];omega),yb0,inner i _ hlen,ya0,yn1];unfold zjj;cases List.any (gs[i].2.2.1++gs[i].2.2.2.2.2.1) (λt=>t==[])
  ·rw[yw0 (by simp),yw0 (by simp)]
   dsimp only;rw[wrap64 (by omega) (by omega)];rfl
  ·rw[yx0 rfl,yx0 rfl]
 exact zcj (B:=λd=>ze5 d.1 d.2.1 d.2.2.1 d.2.2.2.1 d.2.2.2.2.1) gs zjj (λi=>(s,gs,gs,(gs.length:Int),(i:Int),())) (λ_=>.inr ([],1,false,())) (.inl (s,gs,()))
  (λi hi hq=>by
    show ze5 s gs gs gs.length i=_;rw[body i hi,hq,yw0 (by simp)])
  (λi hi hq=>by
    show ze5 s gs gs gs.length i=_;rw[body i hi,hq,yx0 rfl])
  (by
    show ze5 s gs gs gs.length gs.length=_;unfold ze5;rw[yi0 (yh1 _),yd0])
theorem q5t {gs:SR}(hg:za9 gs=true):gs.any zjj=false:=by
 rw[List.any_eq_false];intro x hx hq;obtain⟨_,_,_,_,_,_,_,_,_,_,_,_,⟨_,m1,_⟩,⟨_,m2,_⟩,_⟩:=zio ((zns hg).2 x hx);unfold zjj at hq;obtain⟨t,ht,he⟩:=List.any_eq_true.1 hq;have he:t=[]:=by simpa using he
 subst he;rcases List.mem_append.1 ht with ht|ht
 ·have:=(zca (m1 _ ht)).1
  simp at this
 ·have:=(zca (m2 _ ht)).1
  simp at this
def NoS (s:List UInt8):Prop:=∀gs:SR,za9 gs=true->za2 gs=s->s.length<=3000->False
theorem zi9 (s:List UInt8):∃(gs:SR) (c:Int) (q:Bool),zmb s=some ((gs,c,q,()),())/\
 ((za9 gs=true/\za2 gs=s/\s.length<=3000/\c=0/\q=true)\/(NoS s/\gs=[]/\c=1/\q=false)):=by
 unfold zmb;by_cases hs:s.length<=3000
 ·rw[yc0 (by omega:(s.length:Int)<=3000),yb0,zrk s (by omega),ya0]
  dsimp only;have hc:=zcv s;obtain⟨gs,q,e,hsm⟩:=zwq (cutP s) (by omega) (λl h=>by have:=zdx h;omega);rw[e,ya0];dsimp only;rw[zyn hsm,ya0];dsimp only
  have key:∀gs0,za9 gs0=true->za2 gs0=s->gs=gs0/\q=true/\sOk gs=true/\sR gs=s:=λgs0 h1 h2=>by
   have:=(zcy h1 (by rw[h2];exact hs) s).1;rw[h2,e] at this;have h3:=yl0 this;have h4:=(yj1 h3).1;obtain⟨rfl,h5⟩:=yj1 h4;have h6:=(yj1 h5).1;have h7:sOk gs=true:=by unfold sOk;rw[h1,h2,yc0 hs];rfl
   exact⟨rfl,h6,h7,by unfold sR;rw[yx0 h7,h2]⟩
  by_cases H:q=true/\sOk gs=true/\sR gs=s
  ·obtain⟨h1,h2,h3⟩:=H
   rw[h1,h2,yb0,yb0,h3,ya0];dsimp only;rw[yl1,yb0,ya0];have h2':=h2;unfold sOk at h2';rw[yh0] at h2';refine⟨gs,0,true,rfl,.inl ⟨h2'.1,?_,hs,rfl,rfl⟩⟩;unfold sR at h3;rw[yx0 h2] at h3;exact h3
  ·have hno:NoS s:=λgs0 h1 h2 _=>by
    obtain⟨rfl,h5,h6,h7⟩:=key gs0 h1 h2;exact H ⟨h5,h6,h7⟩
   refine⟨[],1,false,?_,.inr ⟨hno,rfl,rfl,rfl⟩⟩;cases hq:q
   ·rfl
   ·rw[yb0]
    cases ho:sOk gs
    ·rfl
    ·rw[yb0]
     have:(sR gs==s)=false:=by
      rw[yo0];exact λh=>H ⟨hq,ho,h⟩
     rw[this];rfl
 ·rw[yi0 (by omega:¬(s.length:Int)<=3000),yd0,ya0]
  exact⟨[],1,false,rfl,.inr ⟨λ_ _ _ h=>hs h,rfl,rfl,rfl⟩⟩
theorem zja (s:List UInt8):∃(gs:SR) (c:Int) (q:Bool),zmc s=some ((gs,c,q,()),())/\
 ((za9 gs=true/\za2 gs=s/\s.length<=3000/\c=0/\q=true)\/(NoS s/\gs=[]/\c=1/\q=false)):=by
 unfold zmc;by_cases hs:s.length<=3000
 ·rw[yi0 (by omega:¬(s.length:Int)>3000),yd0,zsp s (by omega),ya0]
  dsimp only;have hc:=zcv s
  have key:∀gs0,za9 gs0=true->za2 gs0=s->ze9 (s,cutP s,[],())=some (.inl (s,gs0,())):=λgs0 h1 h2=>by
   have:=(zcy h1 (by rw[h2];exact hs) s).2
   rwa [h2] at this
  rcases zy4 s (cutP s).length (cutP s) [] (ym0 _) (by simp;omega) (λl h=>⟨List.length_pos_iff.2 (zi1 h),by have:=zdx h;omega⟩) (λx hx=>by cases hx) with⟨gs,q1,q2,q3⟩|q3
  ·have same:∀gs0,za9 gs0=true->za2 gs0=s->gs=gs0:=λgs0 h1 h2=>by
    have h3:=key gs0 h1 h2;rw[q3] at h3;exact(yj1 (yj1 (Sum.inl.inj (yl0 h3))).2).1
   rw[q3,ya0];dsimp only;rw[q5s s q1 q2,ya0];cases hh:gs.any zjj
   ·rw[yw0 (by simp)]
    dsimp only;have hsm:=OW.tot q1 q2;rw[jai gs hsm,ya0];dsimp only;cases hg:za9 gs
    ·refine⟨[],1,false,rfl,.inr ⟨λgs0 h1 h2 _=> ?_,rfl,rfl,rfl⟩⟩
     rw[same gs0 h1 h2,h1] at hg;cases hg
    ·rw[ys0,yd0,q7z hg,ya0]
     dsimp only;rw[ya0];dsimp only;by_cases ht:za2 gs=s
     ·rw[ht,yl1]
      exact⟨gs,0,true,rfl,.inl ⟨hg,ht,hs,rfl,rfl⟩⟩
     ·rw[beq_eq_false_iff_ne.2 ht]
      refine⟨[],1,false,rfl,.inr ⟨λgs0 h1 h2 _=> ?_,rfl,rfl,rfl⟩⟩;exact ht (by rw[same gs0 h1 h2];exact h2)
   ·rw[yx0 rfl]
    refine⟨[],1,false,rfl,.inr ⟨λgs0 h1 h2 _=> ?_,rfl,rfl,rfl⟩⟩;have:=q5t h1;rw[<-same gs0 h1 h2,hh] at this;cases this
  ·rw[q3,ya0]
   refine⟨[],1,false,rfl,.inr ⟨λgs0 h1 h2 _=> ?_,rfl,rfl,rfl⟩⟩;have h3:=key gs0 h1 h2;rw[q3] at h3;cases h3
 ·rw[yc0 (by omega:(s.length:Int)>3000),yb0]
  exact⟨[],1,false,rfl,.inr ⟨λ_ _ _ h=>hs h,rfl,rfl,rfl⟩⟩
theorem q2c (s:List UInt8):∃(gs:SR) (c:Int) (q:Bool),zmb s=some ((gs,c,q,()),())/\zmc s=some ((gs,c,q,()),())/\
 ((za9 gs=true/\za2 gs=s/\s.length<=3000/\c=0/\q=true)\/(gs=[]/\c=1/\q=false)):=by
 obtain⟨g1,c1,q1,e1,h1⟩:=zi9 s;obtain⟨g2,c2,q2,e2,h2⟩:=zja s;rcases h1 with⟨a1,a2,a3,rfl,rfl⟩|⟨a1,rfl,rfl,rfl⟩
 ·rcases h2 with⟨b1,b2,_,rfl,rfl⟩|⟨b1,_⟩
  ·have r1:=(zcy a1 (by rw[a2];exact a3) s).1
   have r2:=(zcy b1 (by rw[b2];exact a3) s).1;rw[a2] at r1;rw[b2,r1] at r2;have:g1=g2:=(yj1 (yj1 (yl0 r2)).1).1;subst this;exact⟨g1,0,true,e1,e2,.inl ⟨a1,a2,a3,rfl,rfl⟩⟩
  ·exact(b1 g1 a1 a2 a3).elim
 ·rcases h2 with⟨b1,b2,b3,_⟩|⟨_,rfl,rfl,rfl⟩
  ·exact(a1 g2 b1 b2 b3).elim
  ·exact⟨[],1,false,e1,e2,.inr ⟨rfl,rfl,rfl⟩⟩
end R.O.V.N
end

section
/- A text is a patch of a way: both sides answer the same. -/
open Go Go.Dn
namespace R
theorem qt9 (s:List UInt8):∃(gs:GR) (c:Int) (q:Bool),zl5 s=some ((gs,c,q,()),())/\zl6 s=some ((gs,c,q,()),())/\(zad gs=true\/gs=[]):=by
 obtain⟨r1,e1,h1⟩:=U.zi9 s;obtain⟨r2,e2,h2⟩:=U.zja s;rcases h1 with⟨gs,a1,a2,a3,a4,rfl⟩|⟨a1,rfl⟩
 ·rcases h2 with⟨gs',b1,b2,b3,b4,rfl⟩|⟨b1,rfl⟩
  ·obtain rfl:=U.zxz a2 b2
   exact⟨gs,0,true,e1,e2,.inl a4⟩
  ·exact absurd trivial λ_=>b1 gs a1 a2 a3 a4
 ·rcases h2 with⟨gs',b1,b2,b3,b4,rfl⟩|⟨b1,rfl⟩
  ·exact absurd trivial λ_=>a1 gs' b1 b2 b3 b4
  ·exact⟨[],1,false,e1,e2,.inr rfl⟩
theorem jam (way:Int)(h:1<=way/\way<=4)(s:List UInt8):∃b:Bool,zp6 way s=some ((b,()),())/\zru way s=some ((b,()),()):=by
 have hw:way=1\/way=2\/way=3\/way=4:=by omega
 unfold zp6 zru;rcases hw with rfl|rfl|rfl|rfl
 ·obtain⟨g,c,q,e1,e2,_⟩:=O.V.N.q2c s
  rw[show((1:Int)==1)=true from rfl,yb0,yb0,e1,e2];exact⟨q,rfl,rfl⟩
 ·obtain⟨g,c,q,e1,e2,_⟩:=qt9 s
  rw[show((2:Int)==1)=false from rfl,yd0,yd0,show((2:Int)==2)=true from rfl,yb0,yb0,e1,e2];exact⟨q,rfl,rfl⟩
 ·obtain⟨g,c,q,e1,e2,_⟩:=qt7 s
  rw[show((3:Int)==1)=false from rfl,yd0,yd0,show((3:Int)==2)=false from rfl,yd0,yd0,show((3:Int)==3)=true from rfl,yb0,yb0,e1,e2];exact⟨q,rfl,rfl⟩
 ·obtain⟨g,c,q,e1,e2,_⟩:=O.V.qxr s
  rw[show((4:Int)==1)=false from rfl,yd0,yd0,show((4:Int)==2)=false from rfl,yd0,yd0,show((4:Int)==3)=false from rfl,yd0,yd0,show((4:Int)==4)=true from rfl,yb0,e1,e2];exact⟨q,rfl,rfl⟩
theorem q8g (way:Int):zrv way=some ((decide (way>=1)&&decide (way<=4),()),())/\zq4 way 0=some ((decide (way>=1)&&decide (way<=4),()),()):=by
 unfold zrv zq4;rw[in_I,in_S,ya0,ya0];refine⟨rfl,?_⟩;dsimp only;cases decide (way>=1)&&decide (way<=4)
 ·rfl
 ·rw[yb0,in_S];rfl
theorem q2d (way:Int)(s:List UInt8):∃p q:Bool,zp7 way s=some ((p,q,()),())/\zp8 way s=some ((p,q,()),()):=by
 obtain⟨w1,w2⟩:=q8g way;unfold zp7 zp8;rw[w1,w2,ya0,ya0];dsimp only;cases hw:decide (way>=1)&&decide (way<=4)
 ·exact⟨false,false,rfl,rfl⟩
 ·rw[yh0,yr0,yr0] at hw
  obtain⟨b,e1,e2⟩:=jam way hw s;rw[ys0,yd0,yd0,e1,e2];exact⟨b,true,rfl,rfl⟩
theorem qxw (t0:PV (.int .i64))(t1:PV .str)(hw:WfV (.int .i64) t0)(hw1:WfV .str t1):zt2 t0 t1=some ((true,()),()):=by
 unfold zt2;cases decide ((List.length t1:Int)>1048576)
 ·obtain⟨p,q,e1,e2⟩:=q2d t0 t1
  rw[yd0,e2,ya0,e1,ya0];dsimp only;rw[yl1,ys0,yd0,ya0,yl1];rfl
 ·rfl
end R
end
