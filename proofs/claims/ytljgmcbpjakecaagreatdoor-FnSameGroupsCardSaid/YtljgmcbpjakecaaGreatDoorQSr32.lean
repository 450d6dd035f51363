/- Parts of the proof: Se4 Se5 Se6 Sf1 Sk1 Sk5 Sk6 Sk7 Sk8 Sk9 Sl5 Sl6 Sl7 Sl8 Sl9 Sg1 Sg2 Sg3. -/
import Derived.Test.YtljgmcbpjakecaaGreatDoorQSr31
import Derived.Test.YtljgmcbpjakecaaGreatDoorL3
import Derived.Lib.ItoaLen
set_option linter.unusedVariables false
section
/- Groups, as the reference reads them. -/
open Go Go.Dn
namespace R.U
theorem zke (a m:Nat):xw a m=Go.Dn.xw a m:=by
 unfold xw Go.Dn.xw numb;by_cases h:m=1
 ·rw[yx0 h,yx0 h,yz0]
 ·rw[yw0 h,yw0 h];rfl
theorem q4g {a m:Nat}:∀c∈xw a m,isDg c=true\/c=44:=by
 intro c hc;rw[zke] at hc;unfold Go.Dn.xw at hc;rcases yu0.1 hc with h|h
 ·exact .inl (ys2.1 (zj4 _).1 c h)
 ·split at h
  ·cases h
  ·rcases yg1.1 h with h|h
   ·exact .inr h
   ·exact .inl (ys2.1 (zj4 _).1 c h)
theorem zgc {a m:Nat}{d:UInt8}(h1:isDg d=false)(h2:d≠44):d∉xw a m:=λh=>by
 rcases q4g d h with h|h
 ·rw[h1] at h;cases h
 ·exact h2 h
theorem q1r {a m:Nat}(ha:a<=999)(hm:999<m)(hm2:m<=9999):countP (xw a m)=none:=by
 have h44:∀u,(44:UInt8)∉Lib.decDigits u:=λu hu=>by
  have:=ys2.1 (zj4 u).1 44 hu;cases this
 rw[zke];unfold Go.Dn.xw;rw[yw0 (by omega:¬m=1),yx0 (by omega:0<m)];unfold countP;rw[zd3 _ (h44 _)];dsimp only;obtain⟨d1,d2⟩:=zdc (n:=m) (by omega);obtain⟨c1,c2⟩:=zdc (n:=a+1) (by omega);rw[yx0 ⟨c1,d1⟩,c2,d2];unfold rngP;rw[yw0 (by omega)]
theorem z9f {a m m':Nat}(ha:a<=999)(hm:m<=999)(hm':m'<=9999)(h:xw a m=xw a m'):m=m':=by
 have h1:countP (xw a m)=some ((a:Int),(m:Int)):=by rw[zke];exact zqh ha hm
 by_cases h9:m'<=999
 ·have h2:countP (xw a m')=some ((a:Int),(m':Int)):=by rw[zke];exact zqh ha h9
  rw[h,h2] at h1;have:=(yk1 (yl0 h1)).2;omega
 ·rw[h,q1r ha (by omega) hm'] at h1;cases h1
theorem zwo {o f:List UInt8}(h1:(10:UInt8)∉o)(h2:(10:UInt8)∉f):isL (hdP o f):=by
 refine⟨hdQ o f,zk6 o f,?_⟩;unfold hdQ;simp[h1,h2]
def hdC (a m b k:Int):List UInt8:=hdP (xw a.toNat m.toNat) (xw b.toNat k.toNat)
theorem zqm (x:PV zh):zct x=hdP (xw x.1.toNat (zu x.2.2.1 3).length) (xw x.2.1.toNat (zu x.2.2.1 2).length):=rfl
theorem q8q (a m b k:Int):isL (hdC a m b k):=zwo (zgc (by decide) (by decide)) (zgc (by decide) (by decide))
theorem zvd (x:PV zh):isL (zct x):=zwo (zgc (by decide) (by decide)) (zgc (by decide) (by decide))
theorem q8r {a m b k:Int}{rows:RW}(h:((zu rows 3).length:Int)=m/\((zu rows 2).length:Int)=k):zct (a,(b,(rows,())))=hdC a m b k:=by
 rw[zqm];unfold hdC;rw[<-h.1,<-h.2,toNat_cast,toNat_cast]
theorem q8s {a m b k:Int}{rows:RW}(hr:rows.length<=3000)(ha:0<=a/\a<=999/\0<=m/\m<=999)(hb:0<=b/\b<=999/\0<=k/\k<=999)(h:¬(((zu rows 3).length:Int)=m/\((zu rows 2).length:Int)=k)):hdC a m b k≠zct (a,(b,(rows,()))):=by
 intro e;rw[zqm] at e;unfold hdC at e;obtain⟨e1,e2⟩:=qek e (zgc (by decide) (by decide)) (zgc (by decide) (by decide)) (zgc (by decide) (by decide)) (zgc (by decide) (by decide));have l1:=zge (rows:=rows) (c:=3);have l2:=zge (rows:=rows) (c:=2);have q1:=z9f (by omega) (by omega) (by show(zu rows 3).length<=9999;omega) e1;have q2:=z9f (by omega) (by omega) (by show(zu rows 2).length<=9999;omega) e2;refine h ⟨?_,?_⟩
 ·have:m.toNat=(zu rows 3).length:=q1
  omega
 ·have:k.toNat=(zu rows 2).length:=q2
  omega
theorem q8t (l:TX)(hl:l.length<=3000)(h:∀s∈l,s.length<=3000):zpm l=some ((l.flatten,()),())/\l.flatten.length<=3000*l.length:=by
 have hF:=za8 (B:=λd=>zhp d.1 d.2.1 d.2.2.1 d.2.2.2.1) l (λ(o:List UInt8) s=>o++s) (λo i=>(o,l,(l.length:Int),(i:Int),())) (λo=>(o,())) (λi o=>o.length<=3000*i)
  (λi hi o hI=>by
    have h0:=h _ (ym1 hi);refine⟨by rw[ye0];omega,?_⟩;show zhp o l l.length i=_;unfold zhp;rw[yc0 (by omega:(i:Int)<(l.length:Int)),yb0,zq hi,yb0,toNat_cast,ql hi,yc0 (by omega),yb0,wrap64 (by omega) (by omega)];rfl)
  (λo hI=>by
    show zhp o l l.length l.length=_;unfold zhp;rw[yi0 (yi1 _),yd0]) [] (ye1 _)
 have hm:∀(l:TX) (o:List UInt8),l.foldl (λ(o:List UInt8) s=>o++s) o=o++l.flatten:=by
  intro l
  induction l with
  |nil=>intro o;simp
  |cons s l ih=>intro o;rw[List.foldl_cons,ih,yd1,yj0]
 have h2:=hF.2;rw[hm,yp1] at h2;refine⟨?_,h2⟩;unfold zpm;rw[show z4p ([],l,(l.length:Int),0,())=_ from hF.1,ya0];dsimp only;rw[hm,yp1]
theorem q6o {l:List UInt8}(h:endP l=true):l=zbh l++[10]:=by
 unfold zbh;rw[h,yb0];unfold endP at h;have:=yp2 (l.length -1) l;rw[yy0.1 h] at this;exact this.symm
theorem q8u (l:List UInt8)(rest:TX)(out:GR)(want:List UInt8)(hr:rest.length<=2999)(hLN:LN (l::rest))(h3:∀x∈l::rest,x.length<=3000)(ho:out.length<=3000)(hw:want.length<=10000000*out.length):
 (∃(o f:List UInt8) (a m b k:Int) (rows:RW) (u r:TX),zdk l o f a m b k/\rest=u++r/\Rw rows 3000/\((vw rest.length rest m k=some (rows,r))\/(vw rest.length rest m k=none/\¬(((zu rows 3).length:Int)=m/\((zu rows 2).length:Int)=k)))/\
   u.flatten.length<=9000000/\zg5 (l::rest) out want=some (.inl (r,out++[(a,(b,(rows,())))],want++(hdC a m b k++u.flatten),())))\/
 ((∀o f a m b k,¬zdk l o f a m b k)/\zg5 (l::rest) out want=some (.inr (.inr ([],1,false,())))):=by
 have hl:=h3 l (yk0 ..);have hl1:1<=l.length:=yq2.2 hLN.1;have hpl:=z8r l;have hpos:decide ((((l::rest:TX)).length:Int)>0)=true:=yc0 (by simp);have e0:inB 0 (l::rest:TX).length=true:=zq (i:=0) (by simp);have eg:(l::rest:TX).getD ((0:Int).toNat) []=l:=rfl
 have hqp:∀{o f:List UInt8},endP l=true->(l=hdP o f↔zbh l=hdQ o f):=by
  intro o f he;have:=q6o he;constructor
  ·intro h
   rw[h,zk6] at this;rw[h,zk6];exact(List.append_cancel_right this).symm
  ·intro h
   rw[this,h,<-zk6]
 rcases jai (zbh l) (by omega) with⟨o,f,a,m,b,k,hp,c1,c2,hT⟩|⟨hno,g,m,k,hT⟩
 ·have g1:=zdw c1
  have g2:=zdw c2;obtain⟨rows,u,r,j1,j2,j3,j4⟩:=q8o rest.length rest [] rest [] m k rfl (ym0 _) (by omega) hLN.2.2 (λx hx=>h3 x (yg0 _ hx)) ⟨λr hr=>(by cases hr),ye1 _⟩ (by omega) (by omega);rw[yp1] at j2 j3;have hul:u.length+r.length=rest.length:=by rw[j1];simp
  obtain⟨t1,t2⟩:=q8t u (by omega) (λx hx=>h3 x (yg0 _ (by rw[j1];simp[hx])))
  have hR:zpl rest m k=some ((rows,((u.length:Nat):Int),()),()):=by
   unfold zpl;rw[show zjk (rest,m,k,[],0,())=some (rows,(((([]:TX).length+u.length:Nat)):Int),()) from j3,ya0];dsimp only;rw[show([]:TX).length+u.length=u.length by simp]
  have hC1:ze5 a m=some ((xw a.toNat m.toNat,()),()):=by
   have:=zq4 a.toNat m.toNat (by omega) (by omega)
   rwa [yx2 g1.1,yx2 g1.2.2.1] at this
  have hC2:ze5 b k=some ((xw b.toNat k.toNat,()),()):=by
   have:=zq4 b.toNat k.toNat (by omega) (by omega)
   rwa [yx2 g2.1,yx2 g2.2.2.1] at this
  have k1:=zdx (a:=a.toNat) (m:=m.toNat) (by omega) (by omega);have k2:=zdx (a:=b.toNat) (m:=k.toNat) (by omega) (by omega)
  have hcu:cutL 1 (((1+u.length:Nat)):Int) (l::rest:TX)=u:=by
   unfold cutL;rw[toNat_cast,j1,show((1:Int)).toNat=1 from rfl,Nat.add_comm,List.take_succ_cons,List.drop_succ_cons,List.drop_zero,List.take_left' rfl]
  have hcr:cutL (((1+u.length:Nat)):Int) ((l::rest:TX).length:Int) (l::rest:TX)=r:=by
   unfold cutL;rw[toNat_cast,toNat_cast,List.take_length,j1,Nat.add_comm,List.drop_succ_cons,List.drop_left' rfl]
  have hgo:zg5 (l::rest) out want=bif !(endP l) then some (.inr (.inr ([],1,false,()))) else some (.inl (r,out++[(a,(b,(rows,())))],want++(hdC a m b k++u.flatten),())):=by
   unfold zg5;rw[hpos,yb0,e0,yb0,eg,qeg l hl1 (by omega),ya0,hT,ya0];dsimp only;rw[ys0,yd0,za2,yb0,drop_one,hR,ya0,hC1,ya0];dsimp only;rw[yc0 (by simp only[yf0,yp0];omega),yb0,yc0 (by simp only[ye0,yf0,yp0];omega),yb0,hC2,ya0];dsimp only;rw[yc0 (by simp only[ye0,yf0,yp0];omega),yb0,yc0 (by simp only[ye0,yf0,yp0];omega),yb0,wrap64 (by omega) (by omega),show(1:Int)+((u.length:Nat):Int)=((1+u.length:Nat):Int) by omega];rw[show cutB 1 (((1+u.length:Nat)):Int) (l::rest:TX).length=true from by unfold cutB;simp;omega,yb0,hcu,t1,ya0];dsimp only;rw[yc0 (by simp only[ye0,yf0,yp0];omega),yb0,yc0 (by simp only[ye0,yf0,yp0];omega),yb0,yb0,zix l hl1 (by omega),ya0];dsimp only;rw[hcr,show cutB (((1+u.length:Nat)):Int) ((l::rest:TX).length:Int) (l::rest:TX).length=true from by unfold cutB;simp;omega,yb0,jc (by simp;omega),yb0];rfl
  cases he:endP l with
  |true=>
   rw[he] at hgo;exact .inl ⟨o,f,a,m,b,k,rows,u,r,⟨(hqp he).2 hp,c1,c2⟩,j1,j2,j4,by omega,hgo⟩
  |false=>
   rw[he] at hgo;refine .inr ⟨λo f a m b k h=> ?_,hgo⟩;rw[h.1,zwn] at he;cases he
 ·refine .inr ⟨λo f a m b k h=> ?_,?_⟩
  ·have he:endP l=true:=by rw[h.1,zwn]
   exact hno o f a m b k ((hqp he).1 h.1) h.2.1 h.2.2
  ·unfold zg5
   rw[hpos,yb0,e0,yb0,eg,qeg l hl1 (by omega),ya0,hT,ya0];rfl
def Bad (want:List UInt8)(out:GR):Prop:=∃A h1 h2 B C,isL h1/\isL h2/\h1≠h2/\want=A++(h1++B)/\zak out=A++(h2++C)
theorem zpt (out:GR)(x:PV zh):zak (out++[x])=zak out++zdj x:=by
 unfold zak;rw[List.flatMap_append,List.flatMap_singleton]
theorem Bad.more {want:List UInt8}{out:GR}(h:Bad want out)(W:List UInt8)(x:PV zh):Bad (want++W) (out++[x]):=by
 obtain⟨A,h1,h2,B,C,q1,q2,q3,q4,q5⟩:=h;exact⟨A,h1,h2,B++W,C++zdj x,q1,q2,q3,by rw[q4];simp,by rw[zpt,q5];simp⟩
theorem Bad.ne {want:List UInt8}{out:GR}(h:Bad want out):zak out≠want:=by
 obtain⟨A,h1,h2,B,C,q1,q2,q3,q4,q5⟩:=h;rw[q4,q5];intro e;have:=congrArg cutP (List.append_cancel_left e);rw[zvv q2,zvv q1] at this;exact q3 (List.cons.inj this).1.symm
theorem q4h:∀(n:Nat) (ls:TX) (out:GR) (want:List UInt8),ls.length<=n->out.length+ls.length<=3000->LN ls->(∀x∈ls,x.length<=3000)->(∀x∈out,Rw x.2.2.1 3000)->want.length<=10000000*out.length->
 (zi7 (ls,out,want,())=some (.inr ([],1,false,()))/\∀gs,¬GQ ls gs)\/
 ∃(out':GR) (want':List UInt8),zi7 (ls,out,want,())=some (.inl (out',want',()))/\out'.length<=3000/\(∀x∈out',Rw x.2.2.1 3000)/\(Bad want out->Bad want' out')/\(ls≠[]\/out≠[]->out'≠[])/\((¬∀l∈ls,isL l)->endP want'=false)/\
  ((∃gs,GQ ls gs/\out'=out++gs/\(want=zak out->(∀l∈ls,isL l)->want'=zak out'))\/((∀gs,¬GQ ls gs)/\(want=zak out->(∀l∈ls,isL l)->Bad want' out'))):=by
 intro n
 induction n with
 |zero=>
  intro ls out want hl h3 hn hx ho hw;obtain rfl:=yt0 (Nat.le_zero.1 hl);exact .inr ⟨out,want,jh rfl,by omega,ho,id,λh=>h.elim (λh=>absurd rfl h) id,λh=>absurd (λl hl=>by cases hl) h,.inl ⟨[],.nil,by simp,λh _=>h⟩⟩
 |succ n ih=>
  intro ls out want hl h3 hn hx ho hw;cases ls with
  |nil=>exact .inr ⟨out,want,jh rfl,by omega,ho,id,λh=>h.elim (λh=>absurd rfl h) id,λh=>absurd (λl hl=>by cases hl) h,.inl ⟨[],.nil,by simp,λh _=>h⟩⟩
  |cons l rest=>
   rw[yf0] at hl h3;rcases q8u l rest out want (by omega) hn hx (by omega) hw with⟨o,f,a,m,b,k,rows,u,r,hH,j1,j2,j3,j4,j5⟩|⟨hno,hT⟩
   ·have hst:zi7 (l::rest,out,want,())=zi7 (r,out++[(a,(b,(rows,())))],want++(hdC a m b k++u.flatten),()):=zal j5
    rw[hst];have hrl:u.length+r.length=rest.length:=by rw[j1];simp
    have k1:=zdx (a:=a.toNat) (m:=m.toNat) (by have:=zdw hH.2.1;omega) (by have:=zdw hH.2.1;omega);have k2:=zdx (a:=b.toNat) (m:=k.toNat) (by have:=zdw hH.2.2;omega) (by have:=zdw hH.2.2;omega);have hhd:(hdC a m b k).length<=100:=by unfold hdC hdP;simp only[ye0,yf0,yp0];omega
    have hrn:LN r:=by have:=hn.2.2;rw[j1] at this;exact q8m this
    have hlL:isL l:=by rw[hH.1];exact zwo (z9a hH.2.1) (z9a hH.2.2)
    have ih1:=ih r (out++[(a,(b,(rows,())))]) (want++(hdC a m b k++u.flatten)) (by omega) (by rw[ye0];simp;omega) hrn (λx hx'=>hx x (yg0 _ (by rw[j1];simp[hx'])))
     (λx hx'=>by
       rcases yu0.1 hx' with hx'|hx'
       ·exact ho x hx'
       ·obtain rfl:=yl1.1 hx';exact j2) (by simp only[ye0,yf0,yp0];omega)
    have hE:(∀x∈l::rest,isL x)->∀x∈r,isL x:=λh x hx'=>h x (yg0 _ (by rw[j1];simp[hx']))
    have hgood:vw rest.length rest m k=some (rows,r)->want=zak out->(∀x∈l::rest,isL x)->want++(hdC a m b k++u.flatten)=zak (out++[(a,(b,(rows,())))]):=by
     intro hq he hL;obtain⟨q1,_⟩:=zuo _ (λx hx'=>hL x (yg0 _ hx')) hq;rw[j1,yb3] at q1;rw[zpt,<-he,List.append_cancel_right q1,<-q8r (z9c _ hq)];rfl
    have hbad:¬(((zu rows 3).length:Int)=m/\((zu rows 2).length:Int)=k)->want=zak out->Bad (want++(hdC a m b k++u.flatten)) (out++[(a,(b,(rows,())))]):=by
     intro hd he;exact⟨want,_,_,u.flatten,za6 rows,q8q a m b k,zvd (a,(b,(rows,()))),q8s j2.2 (zdw hH.2.1) (zdw hH.2.2) hd,rfl,by rw[zpt,<-he];rfl⟩
    have hGQ:∀gs,GQ (l::rest) gs->∃rs' r' gs',vw rest.length rest m k=some (rs',r')/\GQ r' gs'/\gs=(a,(b,(rs',())))::gs':=by
     intro gs hg;cases hg with
     |cons hd' hr' hg'=>
      obtain⟨rfl,rfl,rfl,rfl⟩:=zqb hH hd';exact⟨_,_,_,hr',hg',rfl⟩
    rcases ih1 with⟨i1,i2⟩|⟨out',want',i1,i2,i3,i4,i5,i6,i7⟩
    ·refine .inl ⟨i1,λgs hg=> ?_⟩
     obtain⟨rs',r',gs',q1,q2,_⟩:=hGQ gs hg;rcases j3 with j3|j3
     ·rw[j3] at q1
      obtain⟨rfl,rfl⟩:=yk1 (yl0 q1);exact i2 _ q2
     ·rw[j3.1] at q1;cases q1
    ·refine .inr ⟨out',want',i1,i2,i3,λh=>i4 (h.more _ _),λ_=>i5 (.inr (by simp)),λhU=> ?_,?_⟩
     ·by_cases hr:∀x∈r,isL x
      ·have hu:u.flatten≠[]/\endP u.flatten=false:=by
        rcases znp hn with h|h
        ·exact absurd h hU
        ·rcases znp hn.2.2 with h2|⟨h2,h4⟩
         ·exact absurd (λx hx'=>(yg1.1 hx').elim (λe=>e▸hlL) (h2 x)) hU
         ·rw[j1,yb3] at h2 h4
          by_cases hr0:r=[]
          ·subst hr0
           rw[List.flatten_nil,yz0] at h2 h4;exact⟨h2,h4⟩
          ·have hrf:r.flatten≠[]:=by
            obtain⟨y,ys,rfl⟩:=List.exists_cons_of_ne_nil hr0;rw[yd1];have:=hrn.1;simp[this]
           rcases znp hrn with h5|⟨_,h5⟩
           ·have h6:∀{q:TX},q≠[]->(∀x∈q,isL x)->endP q.flatten=true:=by
             intro q
             induction q with
             |nil=>intro h;exact absurd rfl h
             |cons y q ihq=>
              intro _ hq;rw[yd1];by_cases h0:q=[]
              ·subst h0;rw[List.flatten_nil,yz0];exact zqk (hq y (yk0 ..))
              ·have:=ihq h0 λx hx'=>hq x (yg0 _ hx')
               rw[zb0 (zku this),this]
            rw[zb0 hrf,h6 hr0 h5] at h4;cases h4
           ·exfalso
            have h6:∀{q:TX},q≠[]->(∀x∈q,isL x)->endP q.flatten=true:=by
             intro q
             induction q with
             |nil=>intro h;exact absurd rfl h
             |cons y q ihq=>
              intro _ hq;rw[yd1];by_cases h0:q=[]
              ·subst h0;rw[List.flatten_nil,yz0];exact zqk (hq y (yk0 ..))
              ·have:=ihq h0 λx hx'=>hq x (yg0 _ hx')
               rw[zb0 (zku this),this]
            rw[h6 hr0 hr] at h5;cases h5
       have hr0:r=[]:=by
        refine Classical.byContradiction λh0=> ?_
        have h7:∀{q p:TX},LN (q++p)->p≠[]->∀x∈q,isL x:=by
         intro q
         induction q with
         |nil=>intro p _ _ x hx';cases hx'
         |cons y q ihq=>
          intro p h hp x hx';rcases yg1.1 hx' with rfl|hx'
          ·exact h.2.1.resolve_right λq'=>hp (List.append_eq_nil_iff.1 q'.2).2
          ·exact ihq h.2.2 hp x hx'
        have h8:=hn.2.2;rw[j1] at h8
        exact hU λx hx'=>(yg1.1 hx').elim (λe=>e▸hlL) λhx'=>by
         rw[j1] at hx';rcases yu0.1 hx' with hx'|hx'
         ·exact h7 h8 h0 x hx'
         ·exact hr x hx'
       subst hr0;have:zi7 ([],out++[(a,(b,(rows,())))],want++(hdC a m b k++u.flatten),())=some (.inl (out++[(a,(b,(rows,())))],want++(hdC a m b k++u.flatten),())):=jh rfl;rw[this] at i1;have e:=Sum.inl.inj (yl0 i1);have e2:want++(hdC a m b k++u.flatten)=want':=congrArg (λz=>z.2.1) e;rw[<-e2,<-yj0,zb0 hu.1,hu.2]
      ·exact i6 hr
     ·rcases j3 with j3|j3
      ·rcases i7 with⟨gs,q1,q2,q3⟩|⟨q1,q2⟩
       ·exact .inl ⟨(a,(b,(rows,())))::gs,.cons hH j3 q1,by rw[q2];simp,λhe hL=>q3 (hgood j3 he hL) (hE hL)⟩
       ·refine .inr ⟨λgs hg=> ?_,λhe hL=>q2 (hgood j3 he hL) (hE hL)⟩
        obtain⟨rs',r',gs',q3,q4,_⟩:=hGQ gs hg;rw[j3] at q3;obtain⟨rfl,rfl⟩:=yk1 (yl0 q3);exact q1 _ q4
      ·refine .inr ⟨λgs hg=> ?_,λhe _=>i4 (hbad j3.2 he)⟩
       obtain⟨rs',r',gs',q3,_⟩:=hGQ gs hg;rw[j3.1] at q3;cases q3
   ·refine .inl ⟨jh hT,λgs hg=> ?_⟩
    cases hg with
    |cons hd _ _=>exact hno _ _ _ _ _ _ hd
theorem q4i {out:GR}(h:out≠[]):endP (zak out)=true:=by
 rcases List.eq_nil_or_concat out with rfl|⟨q,x,rfl⟩
 ·exact absurd rfl h
 ·rw[List.concat_eq_append,zpt]
  have h2:endP (zdj x)=true:=by unfold zdj;exact zvc (zqk (zvd x))
  rw[zb0 (zku h2),h2]
theorem zw9 (s:List UInt8):∃res,zlj s=some (res,())/\
 ((∃gs,s.length<=3000/\GQ (cutP s) gs/\(∀l∈cutP s,isL l)/\jo gs=true/\res=(gs,0,true,()))\/
  ((∀gs,s.length<=3000->GQ (cutP s) gs->(∀l∈cutP s,isL l)->jo gs=true->False)/\res=([],1,false,()))):=by
 unfold zlj;by_cases hs:s.length<=3000
 ·rw[yi0 (by omega:¬(s.length:Int)>3000),yd0,qeb s (by omega),ya0]
  dsimp only;have hln:=zil s;rcases q4h (cutP s).length (cutP s) [] [] (ym0 _) (by simp;omega) (zxa s.length s (ym0 _)) (λx hx=>by have:=zm0 hx;omega) (λx hx=>by cases hx) (ye1 _) with⟨i1,i2⟩|⟨out',want',i1,i2,i3,i4,i5,i6,i7⟩
  ·rw[i1,ya0]
   exact⟨([],1,false,()),rfl,.inr ⟨λgs _ h _ _=>i2 gs h,rfl⟩⟩
  ·rw[i1,ya0]
   dsimp only;have hS:SmG out':=qfe (by omega) i3;rw[zqi hS,ya0];dsimp only;cases hg:jo out'
   ·refine⟨([],1,false,()),rfl,.inr ⟨λgs _ h1 h2 h3=> ?_,rfl⟩⟩
    rcases i7 with⟨gs',q1,q2,_⟩|⟨q1,_⟩
    ·rw[q2,yp1,zq5 q1 h1,h3] at hg;cases hg
    ·exact q1 gs h1
   ·rw[ys0,yd0,zta hS hg,ya0,ya0]
    dsimp only;by_cases hE:∀l∈cutP s,isL l
    ·rcases i7 with⟨gs,q1,q2,q3⟩|⟨q1,q2⟩
     ·rw[yp1] at q2
      subst q2;rw[q3 rfl hE,yn1,ys0,yd0];exact⟨(out',0,true,()),rfl,.inl ⟨out',hs,q1,hE,hg,rfl⟩⟩
     ·rw[yo0.2 (q2 rfl hE).ne,yb1,yb0]
      exact⟨([],1,false,()),rfl,.inr ⟨λgs _ h _ _=>q1 gs h,rfl⟩⟩
    ·have hne:cutP s≠[]:=λh=>hE (by rw[h];intro l hl;cases hl)
     have h1:=q4i (i5 (.inl hne));have h2:=i6 hE;have:zak out'≠want':=λe=>by rw[e,h2] at h1;cases h1
     rw[yo0.2 this,yb1,yb0];exact⟨([],1,false,()),rfl,.inr ⟨λgs _ _ h _=>hE h,rfl⟩⟩
 ·rw[yc0 (by omega:(s.length:Int)>3000)]
  exact⟨([],1,false,()),rfl,.inr ⟨λgs h _ _ _=>hs h,rfl⟩⟩
end R.U
end

section
/- Printed good groups tell themselves. -/
open Go Go.Dn
namespace R.U
def rowL (r:PV zo):TX:=bif endP r.2.1 then[zbu r.1++r.2.1] else[zbu r.1++r.2.1++[10],qy]
def RowG (r:PV zo):Prop:=(r.1=1\/r.1=2\/r.1=3)/\xk r.2.1=true
theorem qfw {g:PV zh}(h:zae g=true):∀r∈(g.2.2.1:RW),RowG r:=by
 unfold zae inI at h;simp only[yh0,yr0,yj1] at h;obtain⟨_,_,⟨h1,h2⟩,h3,_⟩:=h;refine λr hr=> ?_;obtain⟨k,hk,rfl⟩:=yu2.1 hr
 have hb:zaw g.2.2.1 k=false:=by
  cases hb:zaw g.2.2.1 k with
  |false=>rfl
  |true=>rw[zdf.2 ⟨k,hk,hb⟩] at h3;cases h3
 unfold zaw inI kd at hb;rw[ql hk] at hb;simp only[yz2,Bool.not_eq_false',yh0,yr0] at hb;obtain⟨⟨b1,b2⟩,b3,_⟩:=hb;have e:∀z:Int,z>=1->z<=3->z=1\/z=2\/z=3:=λz _ _=>by omega
 exact⟨e _ b1 b2,b3⟩
theorem zii {k:Int}(h:k=1\/k=2\/k=3):∃c:UInt8,zbu k=[c]/\qo c=k/\c≠10/\c≠92/\qo c≠0:=by
 rcases h with rfl|rfl|rfl
 ·exact⟨32,by decide,by decide,by decide,by decide,by decide⟩
 ·exact⟨45,by decide,by decide,by decide,by decide,by decide⟩
 ·exact⟨43,by decide,by decide,by decide,by decide,by decide⟩
theorem q6p {r:PV zo}(h:RowG r):∀l∈rowL r,isL l:=by
 obtain⟨c,e,_,hc,_⟩:=zii h.1;intro l hl;unfold rowL at hl;rcases(zml h.2).2 with⟨⟨t,ht,h10⟩,he⟩|⟨h10,he⟩
 ·rw[he,yb0,e] at hl
  obtain rfl:=yl1.1 hl;refine⟨c::t,by rw[ht];rfl,?_⟩;simp only[yg1,not_or];exact⟨λq=>hc q.symm,h10⟩
 ·rw[he,yd0,e] at hl
  rcases yg1.1 hl with rfl|hl
  ·refine⟨c::r.2.1,rfl,?_⟩
   simp only[yg1,not_or];exact⟨λq=>hc q.symm,h10⟩
  ·obtain rfl:=yl1.1 hl
   exact qa9
theorem q4j (r:PV zo):(rowL r).flatten=rowT r:=by
 unfold rowL rowT zbg;cases endP r.2.1
 ·rw[yd0,yd0];unfold zgs;simp
 ·rw[yb0,yb0];simp
theorem q8v {r:PV zo}(h:RowG r)(q:TX):NN (rowL r++q):=by
 obtain⟨c,e,_,_,h92,_⟩:=zii h.1;unfold rowL NN;cases endP r.2.1
 ·rw[yd0,e]
  intro hh;have:=yl0 hh;simp at this;exact h92 this.1
 ·rw[yb0,e]
  intro hh;have:=yl0 hh;simp at this;exact h92 this.1
theorem qbf:∀(rows:RW) (fu:Nat) (r:TX) (m k:Int),(∀x∈rows,RowG x)->NN r->rows.length<=fu->((zu rows 3).length:Int)=m->((zu rows 2).length:Int)=k->vw fu (rows.flatMap rowL++r) m k=some (rows,r)
 |[],fu,r,m,k,_,_,_,hm,hk=>by
  obtain rfl:m=0:=by rw[<-hm];rfl
  obtain rfl:k=0:=by rw[<-hk];rfl
  exact zid fu r
 |x::rows,fu,r,m,k,hg,hr,hfu,hm,hk=>by
  have hx:=hg x (yk0 ..);obtain⟨c,e,hkc,hc,_,hk0⟩:=zii hx.1;obtain⟨fu,rfl⟩:∃f',fu=f'+1:=⟨fu -1,by simp at hfu;omega⟩
  have hnn:NN (rows.flatMap rowL++r):=by
   cases rows with
   |nil=>exact hr
   |cons y rows=>rw[yv1,yj0];exact q8v (hg y (by simp)) _
  rw[zkd,<-hkc,zm4] at hm;rw[zkd,<-hkc,zm5] at hk;have hbd:=zxo c
  have hside:¬(m=0/\k=0):=by
   rintro⟨rfl,rfl⟩;have hmd:mN c=(if qo c=3 then 0 else 1):=rfl;have hkd:kN c=(if qo c=2 then 0 else 1):=rfl;rw[hmd] at hm;rw[hkd] at hk;by_cases h3:qo c=3
   ·rw[yw0 (by omega)] at hk;omega
   ·rw[yw0 h3] at hm;omega
  have ih:=qbf rows fu r (m -mN c) (k -kN c) (λy hy=>hg y (yg0 _ hy)) hr (by simp at hfu;omega) (by omega) (by omega)
  have hmk:mkRow (qo c) x.2.1=x:=by
   obtain⟨x1,x2,u⟩:=x;show(qo c,(x2,()))=_;rw[hkc]
  rw[yv1,yj0];rcases(zml hx.2).2 with⟨_,he⟩|⟨h10,he⟩
  ·have:rowL x=[c::x.2.1]:=by unfold rowL;rw[he,yb0,e];rfl
   rw[this,List.singleton_append,zf8 hside (by omega),yw0 hk0];have hq:jg (rows.flatMap rowL++r)=rows.flatMap rowL++r:=by unfold jg;rw[yw0 hnn]
   have hl:jf x.2.1 (rows.flatMap rowL++r)=x.2.1:=by unfold jf;rw[yw0 hnn]
   rw[hq,hl,ih,hmk];rfl
  ·have:rowL x=[c::(x.2.1++[10]),qy]:=by unfold rowL;rw[he,yd0,e];rfl
   rw[this,yw1,List.singleton_append,zf8 hside (by omega),yw0 hk0];have hq:jg (qy::(rows.flatMap rowL++r))=rows.flatMap rowL++r:=by unfold jg;rw[yx0 (show(qy::(rows.flatMap rowL++r)).head?=some qy from rfl)];rfl
   have hl:jf (x.2.1++[10]) (qy::(rows.flatMap rowL++r))=x.2.1:=by
    unfold jf;rw[yx0 (show(qy::(rows.flatMap rowL++r)).head?=some qy from rfl)];unfold zbh;rw[zb0 (by simp),show endP [10]=true from by decide,yb0,ye0,ya3,Nat.add_sub_cancel,List.take_left' rfl]
   rw[hq,hl,ih,hmk];rfl
def zd8 (x:PV zh):TX:=zct x::(x.2.2.1:RW).flatMap rowL
theorem ztr {α:Type}(f:α->TX):∀l:List α,(l.flatMap f).flatten=l.flatMap λx=>(f x).flatten
 |[]=>rfl
 |x::l=>by rw[yv1,yv1,yb3,ztr f l]
theorem qzp (x:PV zh):(zd8 x).flatten=zdj x:=by
 unfold zd8 zdj za6;rw[yd1,ztr];congr 1;exact congrArg (λf=>List.flatMap f x.2.2.1) (funext q4j)
theorem q1s {x:PV zh}(h:zae x=true):zdk (zct x) (xw x.1.toNat (zu x.2.2.1 3).length) (xw x.2.1.toNat (zu x.2.2.1 2).length) x.1 ((zu x.2.2.1 3).length:Int) x.2.1 ((zu x.2.2.1 2).length:Int):=by
 obtain⟨⟨a,ea,ha⟩,⟨b,eb,hb⟩,h3,h4⟩:=zf4 h;refine⟨zqm x,?_,?_⟩
 ·rw[ea,toNat_cast,zke];exact zqh ha (by omega)
 ·rw[eb,toNat_cast,zke];exact zqh hb (by omega)
theorem q8w (x:PV zh)(q:TX):NN (zd8 x++q):=by
 unfold zd8 NN;intro hh;have:=yl0 hh;rw[zqm] at this;unfold hdP at this;simp at this
theorem z7j:∀(gs:GR),(∀x∈gs,zae x=true)->GQ (gs.flatMap zd8) gs
 |[],_=>.nil
 |x::gs,h=>by
  have hx:=h x (yk0 ..);have ih:=z7j gs λy hy=>h y (yg0 _ hy)
  have hnn:NN (gs.flatMap zd8):=by
   cases gs with
   |nil=>intro hh;cases hh
   |cons y gs=>rw[yv1];exact q8w y _
  rw[yv1]
  have hq:=qbf x.2.2.1 ((x.2.2.1:RW).flatMap rowL++gs.flatMap zd8).length (gs.flatMap zd8) _ _ (qfw hx) hnn (by
   have:∀rows:RW,rows.length<=(rows.flatMap rowL).length:=by
    intro rows
    induction rows with
    |nil=>exact ym0 _
    |cons y rows ih=>
     rw[yv1,ye0,yf0];have:1<=(rowL y).length:=by unfold rowL;cases endP y.2.1<;>simp
     omega
   have:=this x.2.2.1;rw[ye0];omega) rfl rfl
  exact GQ.cons (q1s hx) hq ih
theorem q1t {gs:GR}(hg:jo gs=true):GQ (cutP (zak gs)) gs/\∀l∈cutP (zak gs),isL l:=by
 have hx:∀x∈gs,zae x=true:=λx hx=>by
  obtain⟨i,hi,rfl⟩:=yu2.1 hx;exact(zga hg hi).1
 have hL:∀l∈gs.flatMap zd8,isL l:=by
  intro l hl;obtain⟨x,hxm,hl⟩:=List.mem_flatMap.1 hl;rcases yg1.1 hl with rfl|hl
  ·exact zvd x
  ·obtain⟨r,hr,hl⟩:=List.mem_flatMap.1 hl
   exact q6p (qfw (hx x hxm) r hr) l hl
 have ht:zak gs=(gs.flatMap zd8).flatten:=by
  unfold zak;rw[ztr];exact congrArg (λf=>List.flatMap f gs) (funext λx=>(qzp x).symm)
 rw[ht,zue hL];exact⟨z7j gs hx,hL⟩
theorem q4k {gs:GR}(hg:jo gs=true)(hl:(zak gs).length<=3000):zja (zak gs)=some ((gs,0,true,()),()):=by
 obtain⟨h1,h2⟩:=q1t hg;obtain⟨res,e,h⟩:=zno (zak gs);rcases h with⟨gs',_,a2,_,_,rfl⟩|⟨a1,_⟩
 ·rw[e,zq5 h1 a2]
 ·exact absurd trivial λ_=>a1 gs hl h1 h2 hg
end R.U
end

section
/- Groups all in one: the program writes what the reference writes. -/
open Go Go.Dn
namespace R.U
theorem qel (a m:Nat)(ha:a<=10000)(hm:m<=10000):zl5 (a:Int) (m:Int)=some ((xw a m,()),()):=by
 have hn:=zkq (m:=m) ha;have h1:=zcm (numb a m) (by omega);have h2:=zcm m (by omega);unfold zl5;rw[zv0 a m ha,ya0];dsimp only;rw[zrv _ (by omega),ya0,zrv m (by omega),ya0];dsimp only;unfold xw;by_cases h:m=1
 ·rw[show((m:Int)==1)=true from by rw[yy0];omega,yx0 h];rfl
 ·rw[show((m:Int)==1)=false from by rw[yo0];omega,yw0 h,yb1,yb0,yc0 (by simp only[yf0,yp0];omega),yb0,yc0 (by simp only[ye0,yf0,yp0];omega),yb0];rfl
theorem qtc {g:GR}(hs:SmG g)(hg:jo g=true):zoo g=some ((zak g,()),()):=by
 have hl:=hs.1
 have hf:=za8 (B:=λd=>zg8 d.1 d.2.1 d.2.2.1 d.2.2.2.1) g (λa x=>a++zdj x) (λa i=>(a,g,(g.length:Int),(i:Int),())) (λa=>(a,())) (λi a=>a.length<=3220*i)
  (λi hi a hI=>by
    have hm:=hs.2 _ (ym1 hi);obtain⟨hx,h20⟩:=zga hg hi;have ht:=z8p hx;obtain⟨⟨p,ep,hp⟩,⟨q,eq,hq⟩,h3,h4⟩:=zf4 hx;obtain⟨r1,r2⟩:=zky hx;refine⟨by rw[ye0];omega,?_⟩;show zg8 a g g.length i=_;unfold zg8 zer zeo zhw;have c1:=zdx (a:=p) (m:=(zu g[i].2.2.1 3).length) (by omega) (by omega);have c2:=zdx (a:=q) (m:=(zu g[i].2.2.1 2).length) (by omega) (by omega);have hh:=zu3 hx;have hr:=zu1 r1 r2;rw[yc0 (by omega:(i:Int)<(g.length:Int)),yb0,zq hi,yb0,toNat_cast,ql hi,zgf hm,ya0,ya0,zgf hm];dsimp only;rw[ep,qel p _ (by omega) (by omega),ya0,ya0,ya0];dsimp only;rw[eq,qel q _ (by omega) (by omega),ya0];dsimp only;rw[yc0 (by simp only[yf0,yp0];omega),yb0,yc0 (by simp only[ye0,yf0,yp0];omega),yb0,yc0 (by simp only[ye0,yf0,yp0];omega),yb0,yc0 (by simp only[ye0,yf0,yp0];omega),yb0,ya0];dsimp only;rw[q1p r1 r2,ya0];dsimp only
    have e:((([64,64,32,45]++xw p (zu g[i].2.2.1 3).length)++[32,43])++xw q (zu g[i].2.2.1 2).length)++[32,64,64,10]=zct g[i]:=by
     unfold zct;rw[ep,eq,toNat_cast,toNat_cast]
    rw[e,yc0 (by omega),yb0,yc0 (by rw[ye0];omega),yb0,wrap64 (by omega) (by omega)];rfl)
  (λa _=>by
    show zg8 a g g.length g.length=_;unfold zg8;rw[yi0 (yi1 _),yd0]) [] (ye1 _)
 unfold zoo;rw[show zz3 ([],g,(g.length:Int),0,())=_ from hf.1,ya0,zf9];rfl
theorem qtd {g:GR}(hs:SmG g):zop g=some ((gtR g,gtOk g,()),()):=by
 unfold zop gtR gtOk zmq;rw[zvw hs,ya0];dsimp only;cases hg:jo g
 ·rfl
 ·rw[ys0,yd0,qtc hs hg,ya0]
  dsimp only;by_cases h:(zak g).length<=3000
  ·rw[yi0 (by omega:¬((zak g).length:Int)>3000),yc0 h];rfl
  ·rw[yc0 (by omega:((zak g).length:Int)>3000),yi0 h];rfl
theorem qte {g:GR}(hs:SmG g):zoj g=some ((gtR g,gtOk g,()),()):=by
 unfold zoj gtR gtOk;rw[zqi hs,ya0];dsimp only;cases hg:jo g
 ·rfl
 ·rw[ys0,yd0,zta hs hg,ya0,ya0]
  dsimp only;by_cases h:(zak g).length<=3000
  ·rw[yi0 (by omega:¬((zak g).length:Int)>3000),yc0 h,yd0,zta hs hg,ya0];rfl
  ·rw[yc0 (by omega:((zak g).length:Int)>3000),yi0 h];rfl
end R.U
end

section
/- The same groups: both sides test them alike. -/
open Go Go.Dn
namespace R
abbrev DR:PV zo:=dflt zo
abbrev DG:PV zh:=dflt zh
def difR (a b:RW):Bool:=anyN a.length λi=> !((a.getD i DR).1==(b.getD i DR).1&&(a.getD i DR).2.1==(b.getD i DR).2.1)
def difG (x y:PV zh):Bool:= !(x.1==y.1)||(!(x.2.1==y.2.1)||(!((List.length x.2.2.1:Int)==(List.length y.2.2.1:Int))||difR x.2.2.1 y.2.2.1))
def zk7 (x y:GR):Bool:=anyN x.length λi=>difG (x.getD i DG) (y.getD i DG)
theorem q8x {a b:RW}(ha:a.length<=1000000)(hl:a.length=b.length):zyk (a,b,(a.length:Int),0,())=some (if difR a b then .inr (false,()) else .inl ()):=
 zcb (B:=λd=>zea d.1 d.2.1 d.2.2.1 d.2.2.2.1) a.length _ (λi=>(a,b,(a.length:Int),(i:Int),())) (λ_=>.inr (false,())) (.inl ())
  (λi hi hq=>by
    show zea a b a.length i=_;unfold zea;rw[yc0 (by omega:(i:Int)<(a.length:Int)),yb0,zq hi,yb0,zq (by omega),yb0,toNat_cast,hq,yd0,wrap64 (by omega) (by omega)];rfl)
  (λi hi hq=>by
    show zea a b a.length i=_;unfold zea;rw[yc0 (by omega:(i:Int)<(a.length:Int)),yb0,zq hi,yb0,zq (by omega),yb0,toNat_cast,hq,yb0])
  (by
    show zea a b a.length a.length=_;unfold zea;rw[yi0 (yi1 _),yd0])
theorem q6q {t:GR}{g h:PV zh}{L:GR}{n k:Int}(ha:List.length g.2.2.1<=1000000)(hl:List.length g.2.2.1=List.length h.2.2.1):zym (t,g,h,L,n,k,(List.length g.2.2.1:Int),0,())=some (if difR g.2.2.1 h.2.2.1 then .inr (false,()) else .inl (t,L,n,k,())):=
 zcb (B:=λd=>zec d.1 d.2.1 d.2.2.1 d.2.2.2.1 d.2.2.2.2.1 d.2.2.2.2.2.1 d.2.2.2.2.2.2.1 d.2.2.2.2.2.2.2.1) (List.length g.2.2.1) _ (λi=>(t,g,h,L,n,k,(List.length g.2.2.1:Int),(i:Int),())) (λ_=>.inr (false,())) (.inl (t,L,n,k,()))
  (λi hi hq=>by
    show zec t g h L n k (List.length g.2.2.1) i=_;unfold zec;rw[yc0 (by omega:(i:Int)<(List.length g.2.2.1:Int)),yb0,zq hi,yb0,zq (by omega),yb0,toNat_cast,hq,yd0,wrap64 (by omega) (by omega)];rfl)
  (λi hi hq=>by
    show zec t g h L n k (List.length g.2.2.1) i=_;unfold zec;rw[yc0 (by omega:(i:Int)<(List.length g.2.2.1:Int)),yb0,zq hi,yb0,zq (by omega),yb0,toNat_cast,hq,yb0])
  (by
    show zec t g h L n k (List.length g.2.2.1) (List.length g.2.2.1)=_;unfold zec;rw[yi0 (yi1 _),yd0])
theorem qem (x y:PV zh)(hx:List.length x.2.2.1<=1000000):zob x y=some ((!difG x y,()),()):=by
 unfold zob difG;cases x.1==y.1
 ·rfl
 ·rw[yb0]
  cases x.2.1==y.2.1
  ·rfl
  ·rw[yb0]
   unfold zsb;by_cases hl:List.length x.2.2.1=List.length y.2.2.1
   ·rw[show((List.length x.2.2.1:Int)==(List.length y.2.2.1:Int))=true from yy0.2 (by omega),ys0,yd0,q8x hx hl,ya0]
    cases difR x.2.2.1 y.2.2.1<;>rfl
   ·rw[show((List.length x.2.2.1:Int)==(List.length y.2.2.1:Int))=false from yo0.2 (by omega)]
    rfl
def zk8 (x y:GR):Bool:=bif (x.length:Int)==(y.length:Int) then !zk7 x y else false
theorem qc8 {x:GR}(y:GR)(hx:x.length<=1000000)(hr:∀g∈x,List.length g.2.2.1<=1000000):zoq x y=some ((zk8 x y,()),()):=by
 unfold zoq zk8;by_cases hl:x.length=y.length
 ·rw[show((x.length:Int)==(y.length:Int))=true from yy0.2 (by omega),ys0,yd0,yb0]
  rw[show zyl (x,y,false,x,y,y,x,(x.length:Int),0,())=some (if zk7 x y then .inr (x,y,false,x,y,false,()) else .inl (x,y,false,x,y,())) from
   zcb (B:=λd=>zeb d.1 d.2.1 d.2.2.1 d.2.2.2.1 d.2.2.2.2.1 d.2.2.2.2.2.1 d.2.2.2.2.2.2.1 d.2.2.2.2.2.2.2.1 d.2.2.2.2.2.2.2.2.1) x.length (λi=>difG (x.getD i DG) (y.getD i DG)) (λi=>(x,y,false,x,y,y,x,(x.length:Int),(i:Int),())) (λ_=>.inr (x,y,false,x,y,false,())) (.inl (x,y,false,x,y,()))
   (λi hi hq=>by
     show zeb x y false x y y x x.length i=_;unfold zeb;rw[yc0 (by omega:(i:Int)<(x.length:Int)),yb0,zq hi,yb0,zq (by omega),yb0,toNat_cast,qem _ _ (by rw[ql hi];exact hr _ (ym1 hi)),ya0];dsimp only;rw[hq,yb1,ys0,yd0,wrap64 (by omega) (by omega)];rfl)
   (λi hi hq=>by
     show zeb x y false x y y x x.length i=_;unfold zeb;rw[yc0 (by omega:(i:Int)<(x.length:Int)),yb0,zq hi,yb0,zq (by omega),yb0,toNat_cast,qem _ _ (by rw[ql hi];exact hr _ (ym1 hi)),ya0];dsimp only;rw[hq,ys0,yb1,yb0])
   (by
     show zeb x y false x y y x x.length x.length=_;unfold zeb;rw[yi0 (yi1 _),yd0])]
  cases zk7 x y<;>rfl
 ·rw[show((x.length:Int)==(y.length:Int))=false from yo0.2 (by omega)]
  rfl
theorem q6r {x:GR}(y:GR)(hx:x.length<=1000000)(hr:∀g∈x,List.length g.2.2.1<=1000000):zn8 x y=some ((zk8 x y,()),()):=by
 unfold zn8 zk8;by_cases hl:x.length=y.length
 ·rw[show((x.length:Int)==(y.length:Int))=true from yy0.2 (by omega),ys0,yd0,yb0]
  have body:∀i,i<x.length->zee y x (x.length:Int) (i:Int)=if difG (x.getD i DG) (y.getD i DG)=true then some (.inr (.inr (false,()))) else some (.inl (y,x,(x.length:Int),((i+1:Nat):Int),())):=by
   intro i hi;have hrow:List.length (x.getD i DG).2.2.1<=1000000:=by rw[ql hi];exact hr _ (ym1 hi)
   unfold zee;rw[yc0 (by omega:(i:Int)<(x.length:Int)),yb0,zq hi,yb0,zq (by omega),yb0,toNat_cast];unfold difG;generalize x.getD i DG=g at*;generalize y.getD i DG=h;cases g.1==h.1
   ·rfl
   ·rw[ys0,yd0,yd2]
    cases g.2.1==h.2.1
    ·rfl
    ·rw[ys0,yd0,yd2,ya0]
     dsimp only;by_cases hl2:List.length g.2.2.1=List.length h.2.2.1
     ·rw[show((List.length g.2.2.1:Int)==(List.length h.2.2.1:Int))=true from yy0.2 (by omega),ys0,yd0,yd2,q6q hrow hl2,ya0]
      cases difR g.2.2.1 h.2.2.1
      ·rw[yw0 (by simp),yw0 (by simp)]
       dsimp only;rw[wrap64 (by omega) (by omega)];rfl
      ·rfl
     ·rw[show((List.length g.2.2.1:Int)==(List.length h.2.2.1:Int))=false from yo0.2 (by omega),yb1,yb0,Bool.true_or,yx0 rfl]
  rw[show zyz (y,x,(x.length:Int),0,())=some (if zk7 x y then .inr (false,()) else .inl ()) from
   zcb (B:=λd=>zee d.1 d.2.1 d.2.2.1 d.2.2.2.1) x.length (λi=>difG (x.getD i DG) (y.getD i DG)) (λi=>(y,x,(x.length:Int),(i:Int),())) (λ_=>.inr (false,())) (.inl ())
   (λi hi hq=>by
     show zee y x x.length i=_;rw[body i hi,hq,yw0 (by simp)])
   (λi hi hq=>by
     show zee y x x.length i=_;rw[body i hi,hq,yx0 rfl])
   (by
     show zee y x x.length x.length=_;unfold zee;rw[yi0 (yi1 _),yd0])]
  cases zk7 x y<;>rfl
 ·rw[show((x.length:Int)==(y.length:Int))=false from yo0.2 (by omega)]
  rfl
theorem z9g {gs:GR}(h:jo gs=true):gs.length<=1000000/\∀g∈gs,List.length g.2.2.1<=1000000:=by
 refine⟨?_,λg hg=> ?_⟩
 ·unfold jo at h
  rw[yh0,yr0] at h;have:=h.1;omega
 ·obtain⟨i,hi,rfl⟩:=yu2.1 hg
  have:=(zky (zga h hi).1).1;omega
theorem qwo (s:List UInt8):∃(gs:GR) (c:Int) (q:Bool),zja s=some ((gs,c,q,()),())/\zlj s=some ((gs,c,q,()),())/\(jo gs=true\/gs=[]):=by
 obtain⟨r1,e1,h1⟩:=U.zno s;obtain⟨r2,e2,h2⟩:=U.zw9 s;rcases h1 with⟨gs,a1,a2,a3,a4,rfl⟩|⟨a1,rfl⟩
 ·rcases h2 with⟨gs',b1,b2,b3,b4,rfl⟩|⟨b1,rfl⟩
  ·obtain rfl:=U.zq5 a2 b2
   exact⟨gs,0,true,e1,e2,.inl a4⟩
  ·exact absurd trivial λ_=>b1 gs a1 a2 a3 a4
 ·rcases h2 with⟨gs',b1,b2,b3,b4,rfl⟩|⟨b1,rfl⟩
  ·exact absurd trivial λ_=>a1 gs' b1 b2 b3 b4
  ·exact⟨[],1,false,e1,e2,.inr rfl⟩
theorem q1u (a b:List UInt8):∃p q:Bool,zf0 a b=some ((p,q,()),())/\zlr a b=some ((p,q,()),()):=by
 obtain⟨g1,c1,q1,e1,e2,h1⟩:=qwn a;obtain⟨g2,c2,q2,e3,e4,h2⟩:=qwo b
 have hs:g1.length<=1000000/\∀g∈g1,List.length g.2.2.1<=1000000:=by
  rcases h1 with h1|rfl
  ·exact z9g h1
  ·exact⟨ye1 _,λg hg=>by cases hg⟩
 unfold zf0 zlr;rw[e1,e2,ya0,ya0];dsimp only;rw[e3,e4,ya0,ya0];dsimp only;cases q1
 ·exact⟨false,false,rfl,rfl⟩
 ·rw[ys0,yd0,ya0,ya0]
  dsimp only;cases q2
  ·exact⟨false,false,rfl,rfl⟩
  ·rw[ys0,yd0,yd0,qc8 g2 hs.1 hs.2,q6r g2 hs.1 hs.2]
   exact⟨_,true,rfl,rfl⟩
theorem qen {p:Nat->Bool}(n:Nat)(h:∀i,i<n->p i=false):anyN n p=false:=
 Bool.eq_false_iff.2 λe=>by
  obtain⟨i,hi,e⟩:=zdf.1 e;rw[h i hi] at e;cases e
theorem q1v (g:GR):zk8 g g=true:=by
 have hr:∀a:RW,difR a a=false:=λa=>qen _ λi _=>by
  show(!((a.getD i DR).1==(a.getD i DR).1&&(a.getD i DR).2.1==(a.getD i DR).2.1))=false;rw[yn1,yn1];rfl
 have hg:zk7 g g=false:=qen _ λi _=>by
  show difG (g.getD i DG) (g.getD i DG)=false;unfold difG;rw[yn1,yn1,yn1,hr];rfl
 unfold zk8;rw[yn1,hg];rfl
end R
end

section
/- Lines: both sides' tests of lines answer the same. -/
open Go Go.Dn
namespace R.G
theorem qdf (t0:List (List UInt8))(hs:Sm t0):zmi t0=some ((zbc t0,()),()):=by
 have hl:=hs.len;unfold zmi;have hw:IntKind.wrap .i64 ((t0.length:Int) -1)=(t0.length:Int) -1:=wrap64 (by omega) (by omega)
 have hr:∀i,i<t0.length->(((ze6 (t0.getD i [])).bind λr4=>bif !r4.1.1 then some (t0,t0,(t0.length:Int),(i:Int),true,()) else
  bif decide ((i:Int)<(t0.length:Int) -1) then(zda (t0.getD i [])).bind λr5=>some (t0,t0,(t0.length:Int),(i:Int), !r5.1.1,()) else some (t0,t0,(t0.length:Int),(i:Int),false,())):Option (PV zf×PV zf×Int×Int×Bool×Unit))=
  some (t0,t0,(t0.length:Int),(i:Int), !(xk (t0.getD i []))||(decide ((i:Int)<(t0.length:Int) -1)&& !(endP (t0.getD i []))),()):=by
  intro i hi;rw[ql hi,znm _ (hs.mem hi),ya0];dsimp only;cases hL:xk t0[i]
  ·rfl
  ·rw[ys0,yd0,yd2]
   cases decide ((i:Int)<(t0.length:Int) -1)
   ·rfl
   ·rw[yb0,zix _ (zm2 hL).1 (hs.mem hi)];rfl
 rw[show z4x (t0,t0,(t0.length:Int),0,())=_ from zcb (B:=λd=>zez d.1 d.2.1 d.2.2.1 d.2.2.2.1) t0.length (λk=> !(xk (t0.getD k []))||(decide ((k:Int)<(t0.length:Int) -1)&& !(endP (t0.getD k []))))
    (λi=>(t0,t0,(t0.length:Int),(i:Int),())) (λ_=>.inr (false,())) (.inl (t0,()))
    (λi hi hq=>by
      show zez t0 t0 t0.length i=_;unfold zez;rw[yc0 (by omega:(i:Int)<(t0.length:Int)),yb0,zq hi,yb0,toNat_cast,hw,hr i hi,hq,ya0];dsimp only;rw[yd0,wrap64 (by omega) (by omega)];rfl)
    (λi hi hq=>by
      show zez t0 t0 t0.length i=_;unfold zez;rw[yc0 (by omega:(i:Int)<(t0.length:Int)),yb0,zq hi,yb0,toNat_cast,hw,hr i hi,hq,ya0];rfl)
    (by
      show zez t0 t0 t0.length t0.length=_;unfold zez;rw[yi0 (yi1 _),yd0])]
 rw[qdz,show(anyN t0.length λk=> !(xk (t0.getD k [])))=t0.any λs=> !xk s from qan (f:=λs=> !xk s)];unfold zbc zcr zrt;cases t0.any λs=> !xk s
 ·cases anyN t0.length λk=>decide ((k:Int)<(t0.length:Int) -1)&& !(endP (t0.getD k []))
  ·simp;omega
  ·simp
 ·simp
end R.G
end

section
/- Good hunks: both sides answer the same. -/
open Go Go.Dn
namespace R.G
abbrev H0:PV zl:=dflt zl
def badH (many:Int)(x:PV zl):Bool:=
 !(inI x.1 0 many)||(!(inI x.2.1 0 (IntKind.wrap .i64 (many -x.1)))||(!(zcr x.2.2.1)||((x.2.1==0)&&((List.length x.2.2.1:Int)==0))))
def badP (h:List (PV zl))(k:Nat):Bool:=
 decide ((k:Int)>0)&&decide ((h.getD k H0).1<=IntKind.wrap .i64 ((h.getD (k -1) H0).1+(h.getD (k -1) H0).2.1))
def badK (many:Int)(h:List (PV zl))(k:Nat):Bool:=badH many (h.getD k H0)||badP h k
def zar (many:Int)(h:List (PV zl)):Bool:=inI many 0 40&&(decide (h.length<=20)&& !(anyN h.length (badK many h)))
def SmH (h:List (PV zl)):Prop:=h.length<=4611686018427387904/\∀x∈h,Sm x.2.2.1
theorem SmH.len {h:List (PV zl)}(hs:SmH h):h.length<=4611686018427387904:=hs.1
theorem SmH.mem {h:List (PV zl)}(hs:SmH h){i:Nat}(hi:i<h.length):Sm (h.getD i H0).2.2.1:=by
 rw[ql hi];exact hs.2 _ (ym1 hi)
theorem SmH.of {e:TypeId}{h:List (PV zl)}{n:Nat}(hs:tot (.slice e zl) h<=n)(hn:n<=4611686018427387904):SmH h:=by
 refine⟨?_,λx hx=> ?_⟩
 ·have h':=hs
  rw[zp1] at h';omega
 ·obtain⟨i,hi,rfl⟩:=yu2.1 hx
  have:=yo1 (zwf (e:=e) (t:=zl) (xs:=h) hi) hs;refine Sm.of (n:=n) ?_ hn;simp only[tot] at this ⊢;omega
def badS (many:Int)(x:PV zl):Bool:=
 decide (x.1<0)||(decide (x.2.1<0)||(decide (x.2.1>many)||(decide (x.1>IntKind.wrap .i64 (many -x.2.1))||((IntKind.wrap .i64 (x.2.1+(List.length x.2.2.1:Int))==0)||decide ((List.length x.2.2.1:Int)>40)))))
theorem q6t {many A G n:Int}(h0:0<=many)(h1:many<=4611686018427387903)(hn:0<=n)(hm:n<=4611686018427387904):
 (decide (A<0)||(decide (G<0)||(decide (G>many)||(decide (A>IntKind.wrap .i64 (many -G))||((IntKind.wrap .i64 (G+n)==0)||decide (n>40))))))=
   (!(decide (A>=0)&&decide (A<=many))||(!(decide (G>=0)&&decide (G<=IntKind.wrap .i64 (many -A)))||(!(decide (n<=40))||((G==0)&&(n==0))))):=by
 rw[Bool.eq_iff_iff];simp only[yq1,yj1,yr0,decide_eq_false_iff_not,yy0,Bool.and_eq_false_iff,yh0];by_cases a4:A<=many/\0<=A
 ·rw[wrap64 (x:=many -A) (by omega) (by omega)]
  by_cases a3:0<=G/\G<=many
  ·rw[wrap64 (x:=many -G) (by omega) (by omega),wrap64 (x:=G+n) (by omega) (by omega)]
   omega
  ·constructor
   ·intro _;right;left;omega
   ·intro _;omega
 ·constructor
  ·intro _;left;omega
  ·intro _
   by_cases a1:A<0
   ·exact .inl a1
   ·by_cases a2:G<0
    ·exact .inr (.inl a2)
    ·by_cases a3:G>many
     ·exact .inr (.inr (.inl a3))
     ·right;right;right;left
      rw[wrap64 (x:=many -G) (by omega) (by omega)];omega
theorem q6u {many:Int}{x:PV zl}(h0:0<=many)(h1:many<=4611686018427387903)(hm:List.length x.2.2.1<=4611686018427387904):
 (badS many x||List.any x.2.2.1 λs=> !xk s)=badH many x:=by
 unfold badS badH zcr inI;have:=q6t (A:=x.1) (G:=x.2.1) (n:=(List.length x.2.2.1:Int)) h0 h1 (by omega) (by omega);rw[this];rw[show decide (List.length x.2.2.1<=40)=decide ((List.length x.2.2.1:Int)<=40) from by rw[Bool.eq_iff_iff];simp;omega]
 cases(decide ((x.1:Int)>=0)&&decide ((x.1:Int)<=many))<;>cases(decide ((x.2.1:Int)>=0)&&decide ((x.2.1:Int)<=IntKind.wrap .i64 (many -x.1)))<;>cases decide ((List.length x.2.2.1:Int)<=40)<;>
  cases((x.2.1==0)&&((List.length x.2.2.1:Int)==0))<;>cases(List.any x.2.2.1 λs=> !xk s)<;>rfl
theorem qeq (many:Int)(h:List (PV zl))(hs:SmH h)(h0:0<=many)(h1:many<=4611686018427387903){i:Nat}(hi:i<h.length):
 zet many h h h.length i=some (if badK many h i then .inr (.inr (false,())) else .inl (many,h,h,(h.length:Int),(i:Int)+1,())):=by
 have hl:=hs.len;have hm:=hs.mem hi;unfold zet;rw[yc0 (by omega:(i:Int)<(h.length:Int)),yb0,zq hi,yb0,toNat_cast]
 have hq:badK many h i=((badS many (h.getD i H0)||badP h i)||List.any (h.getD i H0).2.2.1 λs=> !xk s):=by
  unfold badK;rw[<-q6u h0 h1 hm.len];cases badS many (h.getD i H0)<;>cases badP h i<;>cases List.any (h.getD i H0).2.2.1 λs=> !xk s<;>rfl
 rw[hq];unfold badP;generalize hx:h.getD i H0=x at*
 have hr:∀f:Bool,(bif f then some (Sum.inr (Sum.inr (false,()))) else
  (zs5 (many,h,h,(h.length:Int),(i:Int),x.2.2.1,(List.length x.2.2.1:Int),0,())).bind λx14=>
        match x14 with
        | .inl l7=>
          some (.inl (l7.1,l7.2.1,l7.2.2.1,l7.2.2.2.1,(IntKind.wrap .i64 (l7.2.2.2.2.1+1)),()))
        | .inr l8=>
          some (.inr (.inr (l8.1,()))):Option ((PV (.int .i64)×PV zn×PV zn×PV (.int .i64)×PV (.int .i64)×Unit)⊕((PV (.int .i64)×PV zn×Unit)⊕(PV .bool×Unit))))=
  some (if (f||List.any x.2.2.1 λs=> !xk s) then .inr (.inr (false,())) else .inl (many,h,h,(h.length:Int),(i:Int)+1,())):=by
  intro f;cases f
  ·rw[yd0,yd2,show zs5 (many,h,h,(h.length:Int),(i:Int),x.2.2.1,(List.length x.2.2.1:Int),0,())=_ from
    zko (B:=λd=>zes d.1 d.2.1 d.2.2.1 d.2.2.2.1 d.2.2.2.2.1 d.2.2.2.2.2.1 d.2.2.2.2.2.2.1 d.2.2.2.2.2.2.2.1) x.2.2.1 (λs=> !xk s) (λk=>(many,h,h,(h.length:Int),(i:Int),x.2.2.1,(List.length x.2.2.1:Int),(k:Int),())) (λ_=>.inr (false,())) (.inl (many,h,h,(h.length:Int),(i:Int),()))
    (λk hk hq=>by
      have hml:=hm.len;show zes many h h h.length i x.2.2.1 (List.length x.2.2.1) k=_;unfold zes;rw[yc0 (by omega:(k:Int)<(List.length x.2.2.1:Int)),yb0,zq hk,yb0,toNat_cast,ql hk,znm _ (hm.mem hk),ya0];dsimp only;rw[hq,yd0,wrap64 (by omega) (by omega)];rfl)
    (λk hk hq=>by
      show zes many h h h.length i x.2.2.1 (List.length x.2.2.1) k=_;unfold zes;rw[yc0 (by omega:(k:Int)<(List.length x.2.2.1:Int)),yb0,zq hk,yb0,toNat_cast,ql hk,znm _ (hm.mem hk),ya0];dsimp only;rw[hq,yb0])
    (by
      show zes many h h h.length i x.2.2.1 (List.length x.2.2.1) (List.length x.2.2.1)=_;unfold zes;rw[yi0 (yi1 _),yd0])]
   cases List.any x.2.2.1 λs=> !xk s
   ·rw[yw0 (by simp),yw0 (by simp),ya0]
    dsimp only;rw[wrap64 (by omega) (by omega)]
   ·rfl
  ·rfl
 have hb:∀j:Bool,((bif decide ((i:Int)>0) then bif inB (IntKind.wrap .i64 ((i:Int) -1)) h.length then bif inB (IntKind.wrap .i64 ((i:Int) -1)) h.length then
  some (many,h,x,h,(h.length:Int),(i:Int),decide (x.1<=IntKind.wrap .i64 ((h.getD (IntKind.wrap .i64 ((i:Int) -1)).toNat (dflt zl)).1+(h.getD (IntKind.wrap .i64 ((i:Int) -1)).toNat (dflt zl)).2.1)),()) else none else none
  else some (many,h,x,h,(h.length:Int),(i:Int),false,())):Option ((PV (.int .i64)×PV zn×PV zl×PV zn×PV (.int .i64)×PV (.int .i64)×PV .bool×Unit)))=
  some (many,h,x,h,(h.length:Int),(i:Int),decide ((i:Int)>0)&&decide (x.1<=IntKind.wrap .i64 ((h.getD (i -1) H0).1+(h.getD (i -1) H0).2.1)),()):=by
  intro _;cases i with
  |zero=>rw[yi0 (by omega:¬(((0:Nat):Int)>0))];rfl
  |succ j=>
   rw[yc0 (by omega:((j+1:Nat):Int)>0),yb0,show IntKind.wrap .i64 (((j+1:Nat):Int) -1)=(j:Int) from by rw[wrap64 (by omega) (by omega)];omega,zq (by omega:j<h.length),yb0,yb0,toNat_cast,yx1,Nat.add_sub_cancel]
 rw[hb true];unfold badS;cases decide (x.1<0)
 ·rw[yd0]
  cases decide (x.2.1<0)
  ·rw[yd0]
   cases decide (x.2.1>many)
   ·rw[yd0]
    cases decide (x.1>IntKind.wrap .i64 (many -x.2.1))
    ·rw[yd0]
     cases(IntKind.wrap .i64 (x.2.1+(List.length x.2.2.1:Int))==0)
     ·rw[yd0]
      cases decide ((List.length x.2.2.1:Int)>40)
      ·rw[yd0,ya0]
       exact hr _
      ·rfl
     ·rfl
    ·rfl
   ·rfl
  ·rfl
 ·rfl
theorem q9b (many:Int)(h:List (PV zl))(hs:SmH h)(h0:0<=many)(h1:many<=4611686018427387903):zo9 many h=some ((zar many h,()),()):=by
 have hl:=hs.len;unfold zo9 zar
 rw[show z3e (many,h,h,(h.length:Int),0,())=_ from zcb (B:=λd=>zet d.1 d.2.1 d.2.2.1 d.2.2.2.1 d.2.2.2.2.1) h.length (badK many h) (λi=>(many,h,h,(h.length:Int),(i:Int),())) (λ_=>.inr (false,())) (.inl (many,h,()))
     (λi hi hq=>by show zet many h h h.length i=_;rw[qeq many h hs h0 h1 hi,hq];rfl)
     (λi hi hq=>by show zet many h h h.length i=_;rw[qeq many h hs h0 h1 hi,hq];rfl)
     (by
       show zet many h h h.length h.length=_;unfold zet;rw[yi0 (yi1 _),yd0])]
 cases anyN h.length (badK many h)
 ·rw[yw0 (by simp),ya0]
  dsimp only;rw[in_S,ya0];by_cases hn:h.length<=20
  ·rw[yc0 (by omega:(h.length:Int)<=20),yb0,yc0 hn]
   unfold inI;cases decide (many>=0)&&decide (many<=40)<;>rfl
  ·rw[yi0 (by omega:¬(h.length:Int)<=20),yd0,yi0 hn]
   simp
 ·rw[yx0 rfl]
  simp
end R.G
end

section
/- Lines behind hunks: both sides make the same. -/
open Go Go.Dn
namespace R.G
def zi5 (l:List (List UInt8))(a:List (List UInt8)×Int)(x:PV zl):List (List UInt8)×Int:=((a.1++cutL a.2 x.1 l)++x.2.2.1,x.1+x.2.1)
def zdp (l:List (List UInt8))(h:List (PV zl)):List (List UInt8)×Int:=h.foldl (zi5 l) ([],0)
def zc1 (l:List (List UInt8))(h:List (PV zl)):List (List UInt8):=(zdp l h).1++cutL (zdp l h).2 (l.length:Int) l
theorem z9j {l:List (List UInt8)}(h:zcr l=true):l.length<=40:=by
 unfold zcr at h;simp only[yh0,yr0] at h;exact h.1
theorem qbi {l:List (List UInt8)}(h:zbc l=true):l.length<=40:=by
 unfold zbc at h;simp only[yh0] at h;exact z9j h.1
theorem zbx {many:Int}{h:List (PV zl)}(hh:zar many h=true):0<=many/\many<=40/\h.length<=20/\∀i,i<h.length->
 0<=(h.getD i H0).1/\(h.getD i H0).1<=many/\0<=(h.getD i H0).2.1/\(h.getD i H0).1+(h.getD i H0).2.1<=many/\List.length (h.getD i H0).2.2.1<=40/\zcr (h.getD i H0).2.2.1=true/\
  (0<i->(h.getD (i -1) H0).1+(h.getD (i -1) H0).2.1<(h.getD i H0).1):=by
 unfold zar inI at hh;simp only[yh0,yr0,yj1] at hh;obtain⟨⟨h0,h1⟩,h2,h3⟩:=hh
 have hq:∀i,i<h.length->badK many h i=false:=λi hi=>by
  cases hb:badK many h i with
  |false=>rfl
  |true=>rw[zdf.2 ⟨i,hi,hb⟩] at h3;cases h3
 have h4:∀i,i<h.length->(0:Int)<=(h.getD i H0).1/\((h.getD i H0).1:Int)<=many/\(0:Int)<=(h.getD i H0).2.1/\((h.getD i H0).1:Int)+(h.getD i H0).2.1<=many/\zcr (h.getD i H0).2.2.1=true:=by
  intro i hi;have hb:=hq i hi;unfold badK badH inI at hb;generalize h.getD i H0=x at*;obtain⟨A,G,N,u⟩:=x
  have e:∀(A G:Int),(decide (A>=0)&&decide (A<=many))=true->(decide (G>=0)&&decide (G<=IntKind.wrap .i64 (many -A)))=true->0<=A/\A<=many/\0<=G/\A+G<=many:=by
   intro A G p q;simp only[yh0,yr0] at p q;rw[wrap64 (by omega) (by omega)] at q;omega
  dsimp only at hb ⊢;simp only[yz2,Bool.not_eq_false'] at hb;obtain⟨⟨b1,b2,b3,_⟩,_⟩:=hb;obtain⟨c1,c2,c3,c4⟩:=e A G b1 b2;exact⟨c1,c2,c3,c4,b3⟩
 refine⟨h0,h1,h2,λi hi=> ?_⟩;obtain⟨a1,a2,a3,a4,a5⟩:=h4 i hi;refine⟨a1,a2,a3,a4,z9j a5,a5,λhpos=> ?_⟩;have hb:=hq i hi;unfold badK badP at hb;simp only[yz2] at hb;have hb:=hb.2;rw[yc0 (by omega:(i:Int)>0),yx1,decide_eq_false_iff_not] at hb;obtain⟨b1,b2,b3,b4,_⟩:=h4 (i -1) (by omega)
 have e:∀(A P G:Int),0<=P->0<=G->P+G<=many->many<=40->¬A<=IntKind.wrap .i64 (P+G)->P+G<A:=by
  intro A P G p1 p2 p3 p4 q;rw[wrap64 (by omega) (by omega)] at q;omega
 exact e _ _ _ b1 b3 b4 h1 hb
theorem zis {l:List (List UInt8)}{a b:Int}:(cutL a b l).length<=l.length:=by
 unfold cutL;simp;omega
theorem zkv {l:List (List UInt8)}{a b:Int}{s:List UInt8}(h:s∈cutL a b l):s∈l:=List.mem_of_mem_take (yb2 h)
def InvP (l:List (List UInt8))(h:List (PV zl))(i:Nat)(a:List (List UInt8)×Int):Prop:=
 a.1.length<=80*i/\0<=a.2/\a.2<=(l.length:Int)/\(i=0->a.2=0)/\(0<i->a.2=(h.getD (i -1) H0).1+(h.getD (i -1) H0).2.1)/\∀s∈a.1,s.length<=4611686018427387904
theorem zv7 {l:List (List UInt8)}{h:List (PV zl)}(hl:Sm l)(hh:SmH h)(hg:zar (l.length:Int) h=true){i:Nat}(hi:i<h.length){a:List (List UInt8)×Int}(hI:InvP l h i a):
 InvP l h (i+1) (zi5 l a h[i])/\0<=a.2/\a.2<=(h[i].1:Int)/\(h[i].1:Int)<=l.length/\0<=(h[i].2.1:Int)/\(h[i].1:Int)+h[i].2.1<=l.length/\List.length h[i].2.2.1<=40/\a.1.length<=1600/\l.length<=40:=by
 obtain⟨f1,f2,f3,f4⟩:=zbx hg;have f5:=f4 i hi;rw[ql hi] at f5;obtain⟨g1,g2,g3,g4,g5,g6,g7⟩:=f5;obtain⟨i1,i2,i3,i4,i5,i6⟩:=hI
 have hat:∀A:Int,A=h[i].1->a.2<=A:=by
  intro A hA;rcases Nat.eq_zero_or_pos i with h0|hp
  ·rw[i4 h0,hA];exact g1
  ·rw[i5 hp,hA];exact Int.le_of_lt (g7 hp)
 have hat:=hat _ rfl;have hc:(cutL a.2 h[i].1 l).length<=40:=yo1 zis (by omega);refine⟨⟨?_,?_,?_,λh=>by omega,λ_=> ?_,?_⟩,i2,hat,g2,g3,g4,g5,by omega,by omega⟩
 ·show((a.1++cutL a.2 h[i].1 l)++h[i].2.2.1).length<=80*(i+1)
  rw[ye0,ye0];omega
 ·exact Int.add_nonneg g1 g3
 ·exact g4
 ·rw[Nat.add_sub_cancel,ql hi];rfl
 ·intro s hs
  rcases yu0.1 hs with hs|hs
  ·rcases yu0.1 hs with hs|hs
   ·exact i6 s hs
   ·exact hl.2 s (zkv hs)
  ·exact(hh.2 _ (ym1 hi)).2 s hs
theorem zve {α σ:Type}(xs:List α)(g:σ->α->σ)(I:Nat->σ->Prop)(h:∀i (hi:i<xs.length) a,I i a->I (i+1) (g a xs[i]))(a:σ)(h0:I 0 a):∀k,k<=xs.length->I k ((xs.take k).foldl g a)
 |0,_=>h0
 |k+1,hk=>by
  rw[<-List.take_append_getElem (by omega:k<xs.length),List.foldl_append];exact h k (by omega) _ (zve xs g I h a h0 k (by omega))
theorem qer {l:List (List UInt8)}{h:List (PV zl)}(hl:Sm l)(hh:SmH h)(hg:zar (l.length:Int) h=true):InvP l h h.length (zdp l h):=by
 have:=zve h (zi5 l) (InvP l h) (λi hi a hI=>(zv7 hl hh hg hi hI).1) ([],0) ⟨by simp,Int.le_refl _,by simp,λ_=>rfl,λh=>by omega,λs hs=>by cases hs⟩ h.length (ym0 _);rw[List.take_length] at this;exact this
theorem q4p {l:List (List UInt8)}{h:List (PV zl)}(hl:Sm l)(hh:SmH h)(hg:zar (l.length:Int) h=true):Sm (zc1 l h):=by
 obtain⟨f1,f2,f3,_⟩:=zbx hg;obtain⟨i1,i2,i3,_,_,i6⟩:=qer hl hh hg;have hc:(cutL (zdp l h).2 (l.length:Int) l).length<=40:=yo1 zis (by omega);refine⟨?_,λs hs=> ?_⟩
 ·unfold zc1;rw[ye0];omega
 ·rcases yu0.1 hs with hs|hs
  ·exact i6 s hs
  ·exact hl.2 s (zkv hs)
theorem zdh {a b:Int}{n:Nat}(h0:0<=a)(h1:a<=b)(h2:b<=(n:Int)):cutB a b n=true:=by
 unfold cutB;rw[yc0 h0,yc0 h1,yc0 h2];rfl
theorem qwq {l:List (List UInt8)}{h:List (PV zl)}(hl:Sm l)(hh:SmH h)(hg:zar (l.length:Int) h=true):
 zs6 (l,([]:List (List UInt8)),0,h,(h.length:Int),0,())=some (l,(zdp l h).1,(zdp l h).2,()):=by
 have:=za8 (B:=λd=>zhi d.1 d.2.1 d.2.2.1 d.2.2.2.1 d.2.2.2.2.1 d.2.2.2.2.2.1) h (zi5 l) (λa i=>(l,a.1,a.2,h,(h.length:Int),(i:Int),())) (λa=>(l,a.1,a.2,())) (InvP l h)
  (λi hi a hI=>by
    obtain⟨q0,q1,q2,q3,q4,q5,q6,q7,q8⟩:=zv7 hl hh hg hi hI;refine⟨q0,?_⟩;show zhi l a.1 a.2 h h.length i=_;have hlen:=hh.len;unfold zhi;rw[yc0 (by omega:(i:Int)<(h.length:Int)),yb0,zq hi,yb0,toNat_cast,ql hi];have hc:(cutL a.2 h[i].1 l).length<=40:=yo1 zis q8;rw[zdh q1 q2 q3,yb0,jc (by omega),yb0,jc (by rw[ye0];omega),yb0];have e:∀A G:Int,0<=A->0<=G->A+G<=(l.length:Int)->IntKind.wrap .i64 (A+G)=A+G:=λA G p1 p2 p3=>wrap64 (by omega) (by omega);rw[e _ _ (Int.le_trans q1 q2) q4 q5,wrap64 (by omega) (by omega)];simp[zi5])
  (λa _=>by
    show zhi l a.1 a.2 h h.length h.length=_;unfold zhi;rw[yi0 (yi1 _),yd0]) ([],0) ⟨by simp,Int.le_refl _,by simp,λ_=>rfl,λh=>by omega,λs hs=>by cases hs⟩
 exact this.1
theorem q4q {l:List (List UInt8)}{h:List (PV zl)}(hl:Sm l)(hh:SmH h)(hg:zar (l.length:Int) h=true):zpa l h=some ((zc1 l h,()),()):=by
 have h2:=qer hl hh hg;obtain⟨f1,f2,f3,_⟩:=zbx hg;obtain⟨i1,i2,i3,_,_,i6⟩:=h2;have hc:(cutL (zdp l h).2 (l.length:Int) l).length<=40:=yo1 zis (by omega);unfold zpa;rw[show zs6 (l,[],0,h,(h.length:Int),0,())=_ from qwq hl hh hg,ya0];dsimp only;rw[zdh i2 i3 (Int.le_refl _),yb0,jc (by omega),yb0];rfl
def zfe (l:List (List UInt8))(h:List (PV zl)):Bool:=zbc l&&(zar (l.length:Int) h&&zbc (zc1 l h))
def zrl (l:List (List UInt8))(h:List (PV zl)):List (List UInt8):=bif zfe l h then zc1 l h else[]
theorem q9c {l:List (List UInt8)}{h:List (PV zl)}(hl:Sm l)(hh:SmH h):zp5 l h=some ((zrl l h,zfe l h,()),()):=by
 have hlen:=hl.len;unfold zp5 zt2 zrl zfe;rw[qdf l hl,ya0];dsimp only;cases hgl:zbc l
 ·rfl
 ·have:=qbi hgl
  rw[yb0,q9b _ h hh (by omega) (by omega),ya0,ya0];dsimp only;cases hg:zar (l.length:Int) h
  ·rfl
  ·have p2:=q4p hl hh hg
   rw[q4q hl hh hg,ya0,qdf _ p2,ya0];simp only[ys0,yd0];cases zbc (zc1 l h)<;>rfl
end R.G
end

section
/- Groups of hunks: both sides make the same. -/
open Go Go.Dn
namespace R.G
abbrev HK:=List (PV zl)
def zaz (k:Int)(lines:TX):RW:=lines.map λs=>((k,(s,())):PV zo)
theorem zca (k:Int)(l:TX):(zaz k l).length=l.length:=by unfold zaz;rw[yu1]
theorem zkf (k:Int):∀(l:TX) (a:RW),l.foldl (λ(a:RW) s=>a++[((k,(s,())):PV zo)]) a=a++zaz k l
 |[],a=>by simp[zaz]
 |x::l,a=>by rw[List.foldl_cons,zkf k l];simp[zaz]
end R.G
end

section
/- Groups of hunks, the whole: both sides make the same. -/
open Go Go.Dn
namespace R.G
abbrev St3:=RW×Int×Int
def zbw (l:TX)(a:St3)(x:PV zl):St3:=
 (((a.1++zaz 1 (cutL a.2.1 x.1 l))++zaz 2 (cutL x.1 (x.1+x.2.1) l))++zaz 3 x.2.2.1,x.1+x.2.1,a.2.2+((List.length x.2.2.1:Int) -x.2.1))
def segL (h:HK)(i n:Nat):HK:=(h.drop i).take n
theorem zgg {h:HK}{i n:Nat}(hn:i+n<=h.length):(segL h i n).length=n:=by unfold segL;simp;omega
theorem zgn {h:HK}{i n k:Nat}(hn:i+n<=h.length)(hk:k<n):(segL h i n).getD k H0=h.getD (i+k) H0:=by
 rw[ql (by rw[zgg hn];exact hk),ql (by omega)];simp[segL]
structure SegI (l:TX)(s:HK)(M:Int)(k:Nat)(a:St3):Prop where
 rows:a.1.length<=120*k
 at0:0<=a.2.1
 at1:a.2.1<=(l.length:Int)
 next:k<s.length->a.2.1<=(s.getD k H0).1
 m0:M -100*k<=a.2.2
 m1:a.2.2<=M+100*k
structure SegOk (l:TX)(s:HK):Prop where
 l40:l.length<=40
 len:s.length<=20
 at_:∀k,k<s.length->0<=(s.getD k H0).1/\0<=(s.getD k H0).2.1/\(s.getD k H0).1+(s.getD k H0).2.1<=(l.length:Int)/\List.length (s.getD k H0).2.2.1<=40/\(k+1<s.length->(s.getD k H0).1+(s.getD k H0).2.1<=(s.getD (k+1) H0).1)
theorem zry {l:TX}{h:HK}(hl:l.length<=40)(hg:zar (l.length:Int) h=true){i n:Nat}(hn:i+n<=h.length):SegOk l (segL h i n):=by
 obtain⟨_,_,h20,f⟩:=zbx hg;have e:=zgg hn;refine⟨hl,by omega,λk hk=> ?_⟩;rw[zgn hn (by omega)];obtain⟨a1,_,a3,a4,a5,_,_⟩:=f (i+k) (by omega);refine⟨a1,a3,a4,a5,λhk'=> ?_⟩;rw[zgn hn (by omega)];obtain⟨_,_,_,_,_,_,b⟩:=f (i+(k+1)) (by omega);have:=b (by omega);rw[show i+(k+1) -1=i+k from by omega] at this;exact Int.le_of_lt this
theorem zff {l:TX}{a b:Int}:(cutL a b l).length<=l.length:=zis
theorem seg_next {l:TX}{s:HK}{M:Int}(ho:SegOk l s){k:Nat}(hk:k<s.length){a:St3}(hI:SegI l s M k a):SegI l s M (k+1) (zbw l a (s.getD k H0)):=by
 obtain⟨q1,q2,q3,q4,q5⟩:=ho.at_ k hk;have h40:=ho.l40;have c1:= @zff l a.2.1 (s.getD k H0).1;have c2:= @zff l (s.getD k H0).1 ((s.getD k H0).1+(s.getD k H0).2.1);have r1:=hI.rows;have r2:=hI.m0;have r3:=hI.m1;generalize s.getD k H0=x at*;refine⟨?_,Int.add_nonneg q1 q2,q3,λh=>q5 h,?_,?_⟩
 ·show List.length (((a.1++zaz 1 _)++zaz 2 _)++zaz 3 _)<=_
  rw[ye0,ye0,ye0,zca,zca,zca];omega
 ·show _<=a.2.2+((List.length x.2.2.1:Int) -x.2.1)
  have e:∀z:Int,z<=(l.length:Int)->z<=40:=λz h=>by omega
  have:=e x.2.1 (Int.le_trans (Int.le_add_of_nonneg_left q1) q3);have e2:∀z u v:Int,0<=v->z<=40->M -100*(k:Int)<=u->M -100*((k+1:Nat):Int)<=u+(v -z):=λz u v h0 h1 h2=>by omega
  exact e2 _ _ _ (Int.natCast_nonneg _) this r2
 ·show a.2.2+((List.length x.2.2.1:Int) -x.2.1)<=_
  have e2:∀z u v:Int,v<=40->0<=z->u<=M+100*(k:Int)->u+(v -z)<=M+100*((k+1:Nat):Int):=λz u v h0 h1 h2=>by omega
  exact e2 _ _ _ (by omega) q2 r3
theorem zxp {A G L:Int}(hL:L<=40)(a0:0<=A)(g0:0<=G)(h:A+G<=L):IntKind.wrap .i64 (A+G)=A+G:=wrap64 (by omega) (by omega)
theorem wrapM {m v z:Int}(h0: -100000<=m)(h1:m<=100000)(v0:0<=v)(v1:v<=40)(z0:0<=z)(z1:z<=40):IntKind.wrap .i64 (m+IntKind.wrap .i64 (v -z))=m+(v -z):=by
 rw[wrap64 (x:=v -z) (by omega) (by omega),wrap64 (by omega) (by omega)]
def zi6 (h:HK)(w:Int)(k:Nat):Bool:=
 decide (IntKind.wrap .i64 ((h.getD (k+1) H0).1 -IntKind.wrap .i64 ((h.getD k H0).1+(h.getD k H0).2.1))<=IntKind.wrap .i64 (2*w))
def qg (h:HK)(w:Int):Nat->Nat->Nat
 |0,k=>k
 |f+1,k=>if k+1<h.length/\zi6 h w k=true then qg h w f (k+1) else k
theorem zgh (h:HK)(w:Int):∀(f k:Nat),k<h.length->k<=qg h w f k/\qg h w f k<h.length
 |0,k,hk=>⟨ym0 _,hk⟩
 |f+1,k,hk=>by
  simp only[qg];split
  ·rename_i c
   have:=zgh h w f (k+1) c.1;omega
  ·exact⟨ym0 _,hk⟩
theorem jan {l:TX}{h:HK}{w:Int}{out:GR}{m i:Int}(h20:h.length<=20):∀(f k:Nat),k<h.length->h.length -1 -k<=f->z1t (l,h,w,out,m,i,((k+1:Nat):Int),())=some (l,h,w,out,m,i,((qg h w f k+1:Nat):Int),()):=by
 intro f
 induction f with
 |zero=>
  intro k hk hf;refine jh (B:=λd=>zb8 d.1 d.2.1 d.2.2.1 d.2.2.2.1 d.2.2.2.2.1 d.2.2.2.2.2.1 d.2.2.2.2.2.2.1) ?_;show zb8 l h w out m i ((k+1:Nat):Int)=_;unfold zb8;rw[yi0 (by omega:¬(((k+1:Nat):Int)<(h.length:Int))),yd0];rfl
 |succ f ih=>
  intro k hk hf;have e:IntKind.wrap .i64 (((k+1:Nat):Int) -1)=(k:Int):=by rw[wrap64 (by omega) (by omega)];omega
  by_cases hk1:k+1<h.length
  ·have step:zb8 l h w out m i ((k+1:Nat):Int)=some (if zi6 h w k then .inl (l,h,w,out,m,i,((k+1+1:Nat):Int),()) else .inr (l,h,w,out,m,i,((k+1:Nat):Int),())):=by
    unfold zb8 zi6;rw[e,yc0 (by omega:((k+1:Nat):Int)<(h.length:Int)),yb0,zq hk1,yb0,zq hk,yb0,yb0,toNat_cast,toNat_cast,wrap64 (x:=((k+1:Nat):Int)+1) (by omega) (by omega)];cases decide (IntKind.wrap .i64 ((h.getD (k+1) H0).1 -IntKind.wrap .i64 ((h.getD k H0).1+(h.getD k H0).2.1))<=IntKind.wrap .i64 (2*w))<;>rfl
   simp only[qg];cases hb:zi6 h w k
   ·rw[yw0 (by simp)]
    exact jh (B:=λd=>zb8 d.1 d.2.1 d.2.2.1 d.2.2.2.1 d.2.2.2.2.1 d.2.2.2.2.2.1 d.2.2.2.2.2.2.1) (by show zb8 l h w out m i ((k+1:Nat):Int)=_;rw[step,hb];rfl)
   ·rw[yx0 ⟨hk1,rfl⟩]
    exact Eq.trans (zal (B:=λd=>zb8 d.1 d.2.1 d.2.2.1 d.2.2.2.1 d.2.2.2.2.1 d.2.2.2.2.2.1 d.2.2.2.2.2.2.1) (by show zb8 l h w out m i ((k+1:Nat):Int)=_;rw[step,hb];rfl)) (ih (k+1) hk1 (by omega))
  ·simp only[qg]
   rw[yw0 (by omega)];refine jh (B:=λd=>zb8 d.1 d.2.1 d.2.2.1 d.2.2.2.1 d.2.2.2.2.1 d.2.2.2.2.2.1 d.2.2.2.2.2.2.1) ?_;show zb8 l h w out m i ((k+1:Nat):Int)=_;unfold zb8;rw[yi0 (by omega:¬(((k+1:Nat):Int)<(h.length:Int))),yd0]
def at0 (h:HK)(w:Int)(i:Nat):Int:=if (h.getD i H0).1 -w<0 then 0 else(h.getD i H0).1 -w
def end0 (l:TX)(h:HK)(w:Int)(j:Nat):Int:=if (l.length:Int)<(h.getD j H0).1+(h.getD j H0).2.1+w then(l.length:Int) else(h.getD j H0).1+(h.getD j H0).2.1+w
def res (l:TX)(h:HK)(w:Int)(i n:Nat)(m:Int):St3:=(segL h i n).foldl (zbw l) ([],at0 h w i,m)
def grp (l:TX)(h:HK)(w:Int)(i n:Nat)(m:Int):PV zh:=
 (at0 h w i,(at0 h w i+m,((res l h w i n m).1++zaz 1 (cutL (res l h w i n m).2.1 (end0 l h w (i+n -1)) l),())))
def zcn (l:TX)(h:HK)(w:Int):Nat->Nat->Int->GR
 |0,_,_=>[]
 |f+1,i,m=>if i<h.length then grp l h w i (qg h w 20 i+1 -i) m::zcn l h w f (qg h w 20 i+1) (res l h w i (qg h w 20 i+1 -i) m).2.2 else[]
structure GOk (l:TX)(h:HK)(w:Int)(i:Nat):Prop where
 a0:0<=at0 h w i
 a1:at0 h w i<=(l.length:Int)
 a2:at0 h w i<=(h.getD i H0).1
 e1:∀j,j<h.length->(h.getD j H0).1+(h.getD j H0).2.1<=end0 l h w j/\end0 l h w j<=(l.length:Int)/\0<=(h.getD j H0).1/\(h.getD j H0).1<=40/\0<=(h.getD j H0).2.1/\(h.getD j H0).2.1<=40
theorem gOk {l:TX}{h:HK}{w:Int}(hl:l.length<=40)(hg:zar (l.length:Int) h=true)(hw0:0<=w){i:Nat}(hi:i<h.length):GOk l h w i:=by
 obtain⟨_,_,h20,f⟩:=zbx hg;obtain⟨a1,a2,a3,a4,_⟩:=f i hi
 have key:∀A:Int,0<=A->A<=(l.length:Int)->0<=(if A -w<0 then 0 else A -w)/\(if A -w<0 then 0 else A -w)<=(l.length:Int)/\(if A -w<0 then 0 else A -w)<=A:=by
  intro A h0 h1;split<;>omega
 obtain⟨k1,k2,k3⟩:=key _ a1 a2;refine⟨k1,k2,k3,λj hj=> ?_⟩;obtain⟨b1,b2,b3,b4,_⟩:=f j hj
 have key2:∀A G:Int,0<=A->0<=G->A+G<=(l.length:Int)->A+G<=(if (l.length:Int)<A+G+w then(l.length:Int) else A+G+w)/\(if (l.length:Int)<A+G+w then(l.length:Int) else A+G+w)<=(l.length:Int)/\0<=A/\A<=40/\0<=G/\G<=40:=by
  intro A G h0 h1 h2;split<;>omega
 exact key2 _ _ b1 b3 b4
theorem qdg {l:TX}:∀(s:HK) (a:St3),s≠[]->(s.foldl (zbw l) a).2.1=(s.getLast?.getD H0).1+(s.getLast?.getD H0).2.1
 |[x],a,_=>rfl
 |x::y::s,a,_=>by
  rw[List.foldl_cons,qdg (y::s) _ (by simp)];rfl
 |[],_,h=>absurd rfl h
theorem qfh {l:TX}{h:HK}{w m:Int}{i n:Nat}(hn:i+n<=h.length)(hn1:1<=n):(res l h w i n m).2.1=(h.getD (i+n -1) H0).1+(h.getD (i+n -1) H0).2.1:=by
 unfold res;have hs:=zgg hn;have hne:segL h i n≠[]:=by intro e;rw[e] at hs;simp at hs;omega
 rw[qdg _ _ hne]
 have:(segL h i n).getLast?.getD H0=h.getD (i+n -1) H0:=by
  rw[List.getLast?_eq_getElem?,hs,<-yg2,zgn hn (by omega),show i+(n -1)=i+n -1 from by omega]
 rw[this]
theorem zrz {A G w:Int}(a0:0<=A)(a1:A<=40)(g0:0<=G)(g1:G<=40)(w0:0<=w)(w1:w<=20):IntKind.wrap .i64 (IntKind.wrap .i64 (A+G)+w)=A+G+w/\IntKind.wrap .i64 (A -w)=A -w:=by
 rw[wrap64 (x:=A+G) (by omega) (by omega),wrap64 (by omega) (by omega),wrap64 (by omega) (by omega)];exact⟨rfl,rfl⟩
theorem qes {l:TX}{h:HK}{w m:Int}{i:Nat}(hl:l.length<=40)(hg:zar (l.length:Int) h=true)(hw0:0<=w)(hi:i<h.length):
 m -100*((qg h w 20 i+1 -i:Nat):Int)<=(res l h w i (qg h w 20 i+1 -i) m).2.2/\(res l h w i (qg h w 20 i+1 -i) m).2.2<=m+100*((qg h w 20 i+1 -i:Nat):Int)/\(res l h w i (qg h w 20 i+1 -i) m).1.length<=2400:=by
 obtain⟨l1,l2⟩:=zgh h w 20 i hi;obtain⟨_,_,h20,_⟩:=zbx hg;have hn:i+(qg h w 20 i+1 -i)<=h.length:=by omega
 generalize hN:qg h w 20 i+1 -i=n at*;have ho:=zry hl hg hn;have hsl:=zgg hn;have hG:=gOk (i:=i) hl hg hw0 hi
 have:=zve (segL h i n) (zbw l) (SegI l (segL h i n) m) (λk hk a hI=>by
  rw[show(segL h i n)[k]=(segL h i n).getD k H0 from(ql hk).symm];exact seg_next ho hk hI) ([],at0 h w i,m)
  ⟨ye1 _,hG.a0,hG.a1,λhk=>by rw[zgn hn (by omega)];exact hG.a2,by show m -100*((0:Nat):Int)<=m;omega,by show m<=m+100*((0:Nat):Int);omega⟩ (segL h i n).length (ym0 _)
 rw[List.take_length,hsl] at this;have r1:=this.rows;have r2:=this.m0;have r3:=this.m1;exact⟨r2,r3,yo1 r1 (by omega)⟩
end R.G
end

section
/- Groups of hunks as the reference makes them; the text all in one. -/
open Go Go.Dn
namespace R.G
theorem zq6 (k:Int)(lines:TX)(hl:lines.length<=1000):zic k lines=some ((zaz k lines,()),()):=by
 have hf:=za8 (B:=λd=>zht d.1 d.2.1 d.2.2.1 d.2.2.2.1 d.2.2.2.2.1) lines (λ(a:RW) s=>a++[((k,(s,())):PV zo)]) (λa i=>(k,a,lines,(lines.length:Int),(i:Int),())) (λa=>(a,())) (λi a=>a.length=i)
  (λi hi a hI=>by
    refine⟨by simp[hI],?_⟩;show zht k a lines lines.length i=_;unfold zht;rw[yc0 (by omega:(i:Int)<(lines.length:Int)),yb0,zq hi,yb0,toNat_cast,ql hi,jc (by simp only[yf0,yp0];omega),yb0,wrap64 (x:=(i:Int)+1) (by omega) (by omega)];rfl)
  (λa _=>by
    show zht k a lines lines.length lines.length=_;unfold zht;rw[yi0 (yi1 _),yd0]) [] rfl
 rw[zkf] at hf;unfold zic;rw[show z5b (k,[],lines,(lines.length:Int),0,())=_ from hf.1];rfl
theorem qbj {l:TX}:∀(s:HK) (a:St3),(s.foldl (zbw l) a).2.2=s.foldl (λ(m:Int) (x:PV zl)=>m+((List.length x.2.2.1:Int) -x.2.1)) a.2.2
 |[],a=>rfl
 |x::s,a=>by rw[List.foldl_cons,List.foldl_cons,qbj s];rfl
theorem q9d {h:HK}{i j:Nat}(hij:i<=j)(hj:j<=h.length):cutL (i:Int) (j:Int) h=segL h i (j -i):=by
 unfold cutL segL;rw[toNat_cast,toNat_cast,List.drop_take]
theorem jaz {l:TX}{h:HK}{w m:Int}{i:Nat}(hl:l.length<=40)(hg:zar (l.length:Int) h=true)(hw0:0<=w)(hw1:w<=20)(hi:i<h.length)(hm0: -10000<=m)(hm1:m<=10000):
 zp6 l (segL h i (qg h w 20 i+1 -i)) w m=some ((grp l h w i (qg h w 20 i+1 -i) m,()),()):=by
 obtain⟨_,_,h20,_⟩:=zbx hg;obtain⟨l1,l2⟩:=zgh h w 20 i hi;have hG:=gOk hl hg hw0 hi;have hn:i+(qg h w 20 i+1 -i)<=h.length:=by omega
 have ho:=zry hl hg hn;have hsl:=zgg hn;have hr:=qfh (l:=l) (w:=w) (m:=m) hn (by omega);rw[show i+(qg h w 20 i+1 -i) -1=qg h w 20 i from by omega] at hr;obtain⟨e1,e2,e3,e4,e5,e6⟩:=hG.e1 (qg h w 20 i) l2;obtain⟨_,_,f3,f4,f5,f6⟩:=hG.e1 i hi;obtain⟨w1,_⟩:=zrz e3 e4 e5 e6 hw0 hw1;obtain⟨_,w2⟩:=zrz f3 f4 f5 f6 hw0 hw1;have hga0:=hG.a0;have hga1:=hG.a1;generalize hS:segL h i (qg h w 20 i+1 -i)=s at*;have hs0:s.getD 0 H0=h.getD i H0:=by rw[<-hS,zgn hn (by omega),Nat.add_zero]
 have hsn:s.getD (s.length -1) H0=h.getD (qg h w 20 i) H0:=by
  rw[<-hS,zgg hn,zgn hn (by omega),show i+(qg h w 20 i+1 -i -1)=qg h w 20 i from by omega]
 generalize hz:((0,(0,(([]:PV zi),()))):PV zh)=z
 have hf:=za8 (B:=λd=>zh3 d.1 d.2.1 d.2.2.1 d.2.2.2.1 d.2.2.2.2.1 d.2.2.2.2.2.1 d.2.2.2.2.2.2.1 d.2.2.2.2.2.2.2.1 d.2.2.2.2.2.2.2.2.1) s (zbw l)
  (λa k=>(l,w,z,h.getD (qg h w 20 i) H0,(at0 h w i,(at0 h w i+m,(a.1,()))),a.2.1,s,(s.length:Int),(k:Int),())) (λa=>(l,w,z,h.getD (qg h w 20 i) H0,(at0 h w i,(at0 h w i+m,(a.1,()))),a.2.1,())) (SegI l s m)
  (λk hk a hI=>by
    have hx:s[k]=s.getD k H0:=(ql hk).symm;have nx:=seg_next ho hk hI;rw[hx];refine⟨nx,?_⟩;obtain⟨q1,q2,q3,q4,q5⟩:=ho.at_ k hk;have z1:=hI.rows;have z2:=hI.at0;have z4:=hI.next hk;show zh3 l w z (h.getD (qg h w 20 i) H0) (at0 h w i,(at0 h w i+m,(a.1,()))) a.2.1 s s.length k=_;unfold zh3;rw[yc0 (by omega:(k:Int)<(s.length:Int)),yb0,zq hk,yb0,toNat_cast];generalize s.getD k H0=x at*;have c1:= @zff l a.2.1 x.1;have c2:= @zff l x.1 (x.1+x.2.1);have hxl:x.1<=(l.length:Int):=Int.le_trans (Int.le_add_of_nonneg_right q2) q3;rw[zdh z2 z4 hxl,yb0,zq6 1 _ (by omega),ya0];dsimp only;rw[zxp (L:=(l.length:Int)) (by omega) q1 q2 q3,jc (by rw[zca];omega),yb0,zdh q1 (Int.le_add_of_nonneg_right q2) q3,yb0,zq6 2 _ (by omega),ya0];dsimp only;rw[jc (by rw[ye0,zca,zca];omega),yb0,zq6 3 _ (by omega),ya0];dsimp only;rw[jc (by rw[ye0,ye0,zca,zca,zca];omega),yb0,wrap64 (x:=(k:Int)+1) (by omega) (by omega)];rfl)
  (λa _=>by
    show zh3 l w z (h.getD (qg h w 20 i) H0) (at0 h w i,(at0 h w i+m,(a.1,()))) a.2.1 s s.length s.length=_;unfold zh3;rw[yi0 (yi1 _),yd0]) ([],at0 h w i,m)
  ⟨ye1 _,hG.a0,hG.a1,λhk=>by rw[hs0];exact hG.a2,by show m -100*((0:Nat):Int)<=m;omega,by show m<=m+100*((0:Nat):Int);omega⟩
 obtain⟨hf,hI⟩:=hf;have r0:=hI.rows;have hres:s.foldl (zbw l) ([],at0 h w i,m)=res l h w i (qg h w 20 i+1 -i) m:=by unfold res;rw[hS]
 rw[hres] at hf r0;unfold zp6;rw[show inB 0 s.length=true from zq (i:=0) (by omega),yb0,show((0:Int).toNat)=0 from rfl];rw[show(dflt zl:PV zl)=H0 from rfl] at*;rw[hs0,w2]
 have ea:zib 0 ((h.getD i H0).1 -w)=some ((at0 h w i,()),()):=by
  unfold zib at0;generalize (h.getD i H0).1=A;by_cases c:A -w<0
  ·rw[yx0 c,yc0 c];rfl
  ·rw[yw0 c,yi0 c];rfl
 have ee:zh1 (l.length:Int) ((h.getD (qg h w 20 i) H0).1+(h.getD (qg h w 20 i) H0).2.1+w)=some ((end0 l h w (qg h w 20 i),()),()):=by
  unfold zh1 end0;generalize (h.getD (qg h w 20 i) H0).1+(h.getD (qg h w 20 i) H0).2.1+w=A;by_cases c:(l.length:Int)<A
  ·rw[yx0 c,yc0 c];rfl
  ·rw[yw0 c,yi0 c];rfl
 rw[ea,ya0];dsimp only;rw[show IntKind.wrap .i64 ((s.length:Int) -1)=((s.length -1:Nat):Int) from by rw[wrap64 (by omega) (by omega)];omega,zq (by omega),yb0,toNat_cast,hsn,wrap64 (x:=at0 h w i+m) (by omega) (by omega),hz];rw[show z6u (l,w,z,h.getD (qg h w 20 i) H0,(at0 h w i,(at0 h w i+m,(([]:PV zi),()))),at0 h w i,s,(s.length:Int),0,())=_ from hf,ya0];dsimp only;rw[w1,ee,ya0];dsimp only;rw[hr,zdh (Int.add_nonneg e3 e5) e1 e2,yb0];have c3:= @zff l ((h.getD (qg h w 20 i) H0).1+(h.getD (qg h w 20 i) H0).2.1) (end0 l h w (qg h w 20 i));rw[zq6 1 _ (by omega),ya0];dsimp only;rw[jc (by rw[zca];omega),yb0];unfold grp;rw[show i+(qg h w 20 i+1 -i) -1=qg h w 20 i from by omega,hr]
theorem jao {l:TX}{h:HK}{w m:Int}{out:GR}{i:Nat}(hl:l.length<=40)(hg:zar (l.length:Int) h=true)(hw0:0<=w)(hw1:w<=20)(hi:i<h.length)(hm0: -5000<=m)(hm1:m<=5000)(hout:out.length<=100):
 zfy l h w out m i=some (.inl (l,h,w,out++[grp l h w i (qg h w 20 i+1 -i) m],(res l h w i (qg h w 20 i+1 -i) m).2.2,((qg h w 20 i+1:Nat):Int),())):=by
 obtain⟨_,_,h20,_⟩:=zbx hg;obtain⟨l1,l2⟩:=zgh h w 20 i hi;have hn:i+(qg h w 20 i+1 -i)<=h.length:=by omega
 have ho:=zry hl hg hn;have hsl:=zgg hn;have hone:=jaz hl hg hw0 hw1 hi (m:=m) (by omega) (by omega);have hc:cutL (i:Int) ((qg h w 20 i+1:Nat):Int) h=segL h i (qg h w 20 i+1 -i):=q9d (by omega) (by omega)
 have hres:(res l h w i (qg h w 20 i+1 -i) m).2.2=(segL h i (qg h w 20 i+1 -i)).foldl (λ(m:Int) (x:PV zl)=>m+((List.length x.2.2.1:Int) -x.2.1)) m:=by
  unfold res;rw[qbj]
 rw[hres];unfold zfy;rw[yc0 (by omega:(i:Int)<(h.length:Int)),yb0,show IntKind.wrap .i64 ((i:Int)+1)=((i+1:Nat):Int) from by rw[wrap64 (by omega) (by omega)];omega,jan h20 20 i hi (by omega),ya0];dsimp only;rw[zdh (by omega) (by omega) (by omega),yb0,hc,hone,ya0];dsimp only;rw[jc (by simp only[yf0,yp0];omega),yb0,yb0];generalize segL h i (qg h w 20 i+1 -i)=s at*;generalize out++[grp l h w i (qg h w 20 i+1 -i) m]=out2;generalize ((qg h w 20 i+1:Nat):Int)=jj
 have hf:=za8 (B:=λd=>zhb d.1 d.2.1 d.2.2.1 d.2.2.2.1 d.2.2.2.2.1 d.2.2.2.2.2.1 d.2.2.2.2.2.2.1 d.2.2.2.2.2.2.2.1 d.2.2.2.2.2.2.2.2.1) s (λ(m:Int) (x:PV zl)=>m+((List.length x.2.2.1:Int) -x.2.1))
  (λa k=>(l,h,w,out2,a,jj,s,(s.length:Int),(k:Int),())) (λa=>(l,h,w,out2,a,jj,())) (λk a=>-5000 -100*(k:Int)<=a/\a<=5000+100*(k:Int))
  (λk hk a hI=>by
    have hx:s[k]=s.getD k H0:=(ql hk).symm;have h20s:=ho.len;obtain⟨q1,q2,q3,q4,q5⟩:=ho.at_ k hk;rw[hx];have hg40:(s.getD k H0).2.1<=40:=Int.le_trans (Int.le_trans (Int.le_add_of_nonneg_left q1) q3) (by omega);have key:∀v z:Int,0<=v->v<=40->0<=z->z<=40->-5000 -100*((k+1:Nat):Int)<=a+(v -z)/\a+(v -z)<=5000+100*((k+1:Nat):Int):=λv z _ _ _ _=>by omega
    refine⟨key _ _ (Int.natCast_nonneg _) (by omega) q2 hg40,?_⟩;show zhb l h w out2 a jj s s.length k=_;unfold zhb;rw[yc0 (by omega:(k:Int)<(s.length:Int)),yb0,zq hk,yb0,toNat_cast];rw[show(dflt zl:PV zl)=H0 from rfl,wrapM (by omega) (by omega) (Int.natCast_nonneg _) (by omega) q2 hg40,wrap64 (x:=(k:Int)+1) (by omega) (by omega)];rfl)
  (λa _=>by
    show zhb l h w out2 a jj s s.length s.length=_;unfold zhb;rw[yi0 (yi1 _),yd0]) m ⟨by omega,by omega⟩
 rw[show z0s (l,h,w,out2,m,jj,s,(s.length:Int),0,())=_ from hf.1,ya0]
theorem qtf {l:TX}{h:HK}{w:Int}(hl:l.length<=40)(hg:zar (l.length:Int) h=true)(hw0:0<=w)(hw1:w<=20):∀(f i:Nat) (out:GR) (m:Int),h.length -i<=f->i<=h.length->out.length<=i->-100*(i:Int)<=m->m<=100*(i:Int)->
 zon (l,h,w,out,m,(i:Int),())=some (out++zcn l h w f i m,()):=by
 obtain⟨_,_,h20,_⟩:=zbx hg
 have stop:∀(i:Nat) (out:GR) (m:Int),¬i<h.length->zon (l,h,w,out,m,(i:Int),())=some (out,()):=by
  intro i out m hi';refine jh (B:=λd=>zfy d.1 d.2.1 d.2.2.1 d.2.2.2.1 d.2.2.2.2.1 d.2.2.2.2.2.1) ?_;show zfy l h w out m i=_;unfold zfy;rw[yi0 (by omega:¬((i:Int)<(h.length:Int))),yd0]
 intro f
 induction f with
 |zero=>
  intro i out m hf hi ho hm0 hm1;rw[stop i out m (by omega)];simp[zcn]
 |succ f ih=>
  intro i out m hf hi ho hm0 hm1;by_cases hi':i<h.length
  ·obtain⟨s2,s3,s4⟩:=qes (m:=m) hl hg hw0 hi'
   have s1:=jao (out:=out) hl hg hw0 hw1 hi' (m:=m) (by omega) (by omega) (by omega);obtain⟨l1,l2⟩:=zgh h w 20 i hi';refine Eq.trans (zal (B:=λd=>zfy d.1 d.2.1 d.2.2.1 d.2.2.2.1 d.2.2.2.2.1 d.2.2.2.2.2.1) s1) ?_;refine Eq.trans (ih (qg h w 20 i+1) _ _ (by omega) (by omega) (by rw[ye0,yf0,yp0];omega) (by omega) (by omega)) ?_;simp only[zcn,yx0 hi',yj0,yw1,yp1]
  ·rw[stop i out m hi']
   simp[zcn,hi']
theorem zqn (k:Int){l:TX}(h:∀s∈l,s.length<=1048576):∀r∈zaz k l,List.length (r:PV zo).2.1<=1048576:=by
 intro r hr;unfold zaz at hr;obtain⟨s,hs,rfl⟩:=List.mem_map.1 hr;exact h s hs
theorem qfi {l:TX}(hl:∀s∈l,s.length<=1048576):∀(s:HK) (a:St3),(∀x∈s,∀y∈((x:PV zl).2.2.1:TX),y.length<=1048576)->(∀r∈a.1,List.length (r:PV zo).2.1<=1048576)->∀r∈(s.foldl (zbw l) a).1,List.length (r:PV zo).2.1<=1048576
 |[],a,_,h=>h
 |x::s,a,hx,h=>by
  rw[List.foldl_cons];refine qfi hl s _ (λy hy=>hx y (yg0 _ hy)) λr hr=> ?_;have hr:r∈((a.1++zaz 1 (cutL a.2.1 x.1 l))++zaz 2 (cutL x.1 (x.1+x.2.1) l))++zaz 3 x.2.2.1:=hr;rcases yu0.1 hr with hr|hr
  ·rcases yu0.1 hr with hr|hr
   ·rcases yu0.1 hr with hr|hr
    ·exact h r hr
    ·exact zqn 1 (λs hs=>hl s (zkv hs)) r hr
   ·exact zqn 2 (λs hs=>hl s (zkv hs)) r hr
  ·exact zqn 3 (hx x (yk0 ..)) r hr
def SmB (l:TX):Prop:=∀s∈l,s.length<=1048576
def SmBH (h:HK):Prop:=∀x∈h,∀y∈((x:PV zl).2.2.1:TX),y.length<=1048576
theorem q9e {h:HK}{i n:Nat}{x:PV zl}(hx:x∈segL h i n):x∈h:=yb2 (List.mem_of_mem_take hx)
theorem q1y {l:TX}{h:HK}{w:Int}(hl:l.length<=40)(hg:zar (l.length:Int) h=true)(hw0:0<=w)(hw1:w<=20)(hb:SmB l)(hbh:SmBH h):∀(f i:Nat) (m:Int),i<=h.length->-100*(i:Int)<=m->m<=100*(i:Int)->
 (zcn l h w f i m).length<=f/\∀x∈zcn l h w f i m,SmR (x:PV zh).2.2.1:=by
 obtain⟨_,_,h20,_⟩:=zbx hg;intro f
 induction f with
 |zero=>exact λi m _ _ _=>⟨ym0 _,λx hx=>by cases hx⟩
 |succ f ih=>
  intro i m hi hm0 hm1;simp only[zcn];by_cases hi':i<h.length
  ·rw[yx0 hi']
   obtain⟨s2,s3,s4⟩:=qes (m:=m) hl hg hw0 hi';obtain⟨l1,l2⟩:=zgh h w 20 i hi';obtain⟨i1,i2⟩:=ih (qg h w 20 i+1) (res l h w i (qg h w 20 i+1 -i) m).2.2 (by omega) (by omega) (by omega);refine⟨by rw[yf0];omega,λx hx=> ?_⟩;rcases yg1.1 hx with rfl|hx
   ·have c3:= @zff l (res l h w i (qg h w 20 i+1 -i) m).2.1 (end0 l h w (i+(qg h w 20 i+1 -i) -1))
    refine⟨?_,λr hr=> ?_⟩
    ·show List.length (_++zaz 1 _)<=_
     rw[ye0,zca];omega
    ·have hr:r∈(res l h w i (qg h w 20 i+1 -i) m).1++zaz 1 (cutL (res l h w i (qg h w 20 i+1 -i) m).2.1 (end0 l h w (i+(qg h w 20 i+1 -i) -1)) l):=hr
     rcases yu0.1 hr with hr|hr
     ·unfold res at hr
      exact qfi hb _ _ (λx hx=>hbh x (q9e hx)) (λr hr=>by cases hr) r hr
     ·exact zqn 1 (λs hs=>hb s (zkv hs)) r hr
   ·exact i2 x hx
  ·rw[yw0 hi']
   exact⟨ye1 _,λx hx=>by cases hx⟩
def goOk (l:TX)(h:HK)(w:Int):Bool:=zfe l h&&inI w 0 20
def goR (l:TX)(h:HK)(w:Int):GR:=bif goOk l h w then zcn l h w 20 0 0 else[]
theorem zwr {l:TX}{h:HK}{w:Int}(hk:goOk l h w=true):l.length<=40/\zar (l.length:Int) h=true/\0<=w/\w<=20/\h.length<=20:=by
 unfold goOk zfe inI at hk;simp only[yh0,yr0] at hk;obtain⟨⟨h1,h2,h3⟩,h4,h5⟩:=hk;obtain⟨_,_,h20,_⟩:=zbx h2;exact⟨qbi h1,h2,h4,h5,h20⟩
theorem z9i {l:TX}{h:HK}{w:Int}(hl:Sm l)(hh:SmH h):zlv l h w=some ((goR l h w,goOk l h w,()),()):=by
 unfold zlv goR;rw[q9c hl hh,ya0];dsimp only;cases hp:zfe l h
 ·unfold goOk;rw[hp];rfl
 ·rw[ys0,yd0,in_S,ya0,ya0]
  dsimp only;rw[show(decide (w>=0)&&decide (w<=20))=inI w 0 20 from rfl];cases hw:inI w 0 20
  ·unfold goOk;rw[hp,hw];rfl
  ·have hk:goOk l h w=true:=by unfold goOk;rw[hp,hw];rfl
   obtain⟨k1,k2,k3,k4,k5⟩:=zwr hk;rw[hk,ys0,yd0,yb0];unfold ztl;rw[show zon (l,h,w,[],0,0,())=_ from qtf k1 k2 k3 k4 20 0 [] 0 (by omega) (by omega) (ym0 _) (by simp) (by simp),ya0,ya0];rfl
theorem zrk {l:TX}{h:HK}{w:Int}(hb:SmB l)(hbh:SmBH h):SmG (goR l h w):=by
 unfold goR;cases hk:goOk l h w
 ·exact⟨by simp,λx hx=>by cases hx⟩
 ·obtain⟨k1,k2,k3,k4,k5⟩:=zwr hk
  obtain⟨q1,q2⟩:=q1y k1 k2 k3 k4 hb hbh 20 0 0 (by omega) (by simp) (by simp);exact⟨by rw[yb0];omega,q2⟩
def utOk (l:TX)(h:HK)(w:Int):Bool:=goOk l h w&&gtOk (goR l h w)
def utR (l:TX)(h:HK)(w:Int):List UInt8:=bif goOk l h w then gtR (goR l h w) else[]
end R.G
end

section
/- Good hunks: both sides answer the same. -/
open Go Go.Dn
namespace R.G
theorem qet (many:Int)(h:List (PV zl))(hs:SmH h){i:Nat}(hi:i<h.length):
 zen many h h h.length i=some (if badK many h i then .inr (.inr (false,())) else .inl (many,h,h,(h.length:Int),(i:Int)+1,())):=by
 have hl:=hs.len;have hm:=hs.mem hi;unfold zen;rw[yc0 (by omega:(i:Int)<(h.length:Int)),yb0,zq hi,yb0,toNat_cast];unfold badK badP;generalize hx:h.getD i H0=x at*;rw[in_I,in_I,z8n _ hm,ya0,ya0];unfold badH inI;dsimp only;cases decide (x.1>=0)&&decide (x.1<=many)
 ·rfl
 ·cases decide (x.2.1>=0)&&decide (x.2.1<=IntKind.wrap .i64 (many -x.1))
  ·rfl
  ·cases zcr x.2.2.1
   ·rfl
   ·simp only[ys0,yd0,ya0,yd2]
    have hb:((bif x.2.1==0 then some (many,h,(i:Int),x,h,(h.length:Int),(i:Int),(List.length x.2.2.1:Int)==0,()) else some (many,h,(i:Int),x,h,(h.length:Int),(i:Int),false,())):Option (Int×List (PV zl)×Int×PV zl×List (PV zl)×Int×Int×Bool×Unit))=
     some (many,h,(i:Int),x,h,(h.length:Int),(i:Int),(x.2.1==0)&&((List.length x.2.2.1:Int)==0),()):=by
     cases x.2.1==0<;>rfl
    rw[hb,ya0];dsimp only;cases(x.2.1==0)&&((List.length x.2.2.1:Int)==0)
    ·simp only[yd0,yd2]
     cases i with
     |zero=>rw[yi0 (by omega:¬(((0:Nat):Int)>0))];rfl
     |succ j=>
      rw[yc0 (by omega:((j+1:Nat):Int)>0),yb0,show IntKind.wrap .i64 (((j+1:Nat):Int) -1)=(j:Int) from by rw[wrap64 (by omega) (by omega)];omega,zq (by omega:j<h.length),yb0,yb0,toNat_cast,ya0,yx1,Nat.add_sub_cancel];dsimp only;rw[wrap64 (x:=((j+1:Nat):Int)+1) (by omega) (by omega)];cases decide (x.1<=IntKind.wrap .i64 ((h.getD j (dflt zl)).1+(h.getD j (dflt zl)).2.1))<;>rfl
    ·rfl
theorem q9f (many:Int)(h:List (PV zl))(hs:SmH h):zor many h=some ((zar many h,()),()):=by
 have hl:=hs.len;unfold zor zar;rw[in_I,ya0];dsimp only;unfold inI;cases decide (many>=0)&&decide (many<=40)
 ·rfl
 ·rw[ys0,yd0,ya0]
  dsimp only;by_cases hn:h.length<=20
  ·rw[yi0 (by omega:¬((h.length:Int)>20)),yd0,yc0 hn,yx1,yx1]
   rw[show z0k (many,h,h,(h.length:Int),0,())=_ from zcb (B:=λd=>zen d.1 d.2.1 d.2.2.1 d.2.2.2.1 d.2.2.2.2.1) h.length (badK many h) (λi=>(many,h,h,(h.length:Int),(i:Int),())) (λ_=>.inr (false,())) (.inl ())
    (λi hi hq=>by show zen many h h h.length i=_;rw[qet many h hs hi,hq];rfl)
    (λi hi hq=>by show zen many h h h.length i=_;rw[qet many h hs hi,hq];rfl)
    (by
      show zen many h h h.length h.length=_;unfold zen;rw[yi0 (yi1 _),yd0])]
   cases anyN h.length (badK many h)<;>rfl
  ·rw[yc0 (by omega:(h.length:Int)>20),yb0,yi0 hn];rfl
end R.G
end

section
/- Lines behind hunks: both sides make the same. -/
open Go Go.Dn
namespace R.G
theorem qwr {l:List (List UInt8)}{h:List (PV zl)}(hl:Sm l)(hh:SmH h)(hg:zar (l.length:Int) h=true):
 z2w (l,([]:List (List UInt8)),0,h,(h.length:Int),0,())=some (l,(zdp l h).1,(zdp l h).2,())/\InvP l h h.length (zdp l h):=by
 have:=za8 (B:=λd=>zhh d.1 d.2.1 d.2.2.1 d.2.2.2.1 d.2.2.2.2.1 d.2.2.2.2.2.1) h (zi5 l) (λa i=>(l,a.1,a.2,h,(h.length:Int),(i:Int),())) (λa=>(l,a.1,a.2,())) (InvP l h)
  (λi hi a hI=>by
    obtain⟨q0,q1,q2,q3,q4,q5,q6,q7,q8⟩:=zv7 hl hh hg hi hI;refine⟨q0,?_⟩;show zhh l a.1 a.2 h h.length i=_;have hlen:=hh.len;unfold zhh;rw[yc0 (by omega:(i:Int)<(h.length:Int)),yb0,zq hi,yb0,toNat_cast,ql hi];have hc:(cutL a.2 h[i].1 l).length<=40:=yo1 zis q8;rw[zdh q1 q2 q3,yb0,jc (by omega),yb0,jc (by rw[ye0];omega),yb0];have e:∀A G:Int,0<=A->0<=G->A+G<=(l.length:Int)->IntKind.wrap .i64 (A+G)=A+G:=λA G p1 p2 p3=>wrap64 (by omega) (by omega);rw[e _ _ (Int.le_trans q1 q2) q4 q5,wrap64 (by omega) (by omega)];simp[zi5])
  (λa _=>by
    show zhh l a.1 a.2 h h.length h.length=_;unfold zhh;rw[yi0 (yi1 _),yd0]) ([],0) ⟨by simp,Int.le_refl _,by simp,λ_=>rfl,λh=>by omega,λs hs=>by cases hs⟩
 exact this
theorem q4r {l:List (List UInt8)}{h:List (PV zl)}(hl:Sm l)(hh:SmH h)(hg:zar (l.length:Int) h=true):
 zo7 l h=some ((zc1 l h,()),())/\Sm (zc1 l h)/\(zc1 l h).length<=1640:=by
 obtain⟨h1,h2⟩:=qwr hl hh hg;obtain⟨f1,f2,f3,_⟩:=zbx hg;obtain⟨i1,i2,i3,_,_,i6⟩:=h2;have hc:(cutL (zdp l h).2 (l.length:Int) l).length<=40:=yo1 zis (by omega);refine⟨?_,⟨?_,λs hs=> ?_⟩,?_⟩
 ·unfold zo7
  rw[h1,ya0];dsimp only;rw[zdh i2 i3 (Int.le_refl _),yb0,jc (by omega),yb0];rfl
 ·unfold zc1;rw[ye0];omega
 ·rcases yu0.1 hs with hs|hs
  ·exact i6 s hs
  ·exact hl.2 s (zkv hs)
 ·unfold zc1;rw[ye0];omega
theorem q9g {l:List (List UInt8)}{h:List (PV zl)}(hl:Sm l)(hh:SmH h):zp4 l h=some ((zrl l h,zfe l h,()),()):=by
 unfold zp4 zrl zfe;rw[zpe l hl,ya0,q9f _ h hh];dsimp only;cases zbc l
 ·rfl
 ·cases hg:zar (l.length:Int) h
  ·rfl
  ·obtain⟨p1,p2,_⟩:=q4r hl hh hg
   simp only[ys0,yd0,ya0,p1,zpe _ p2];cases zbc (zc1 l h)<;>rfl
end R.G
end

section
/- Groups of hunks: both sides make the same. -/
open Go Go.Dn
namespace R.G
theorem qzs {t0:PV zf}{t1:PV zn}{t2:PV (.int .i64)}{t7:PV zk}{t8:PV (.int .i64)}{t9:PV (.int .i64)}{t10:PV (.int .i64)}{t11:PV (.int .i64)}{t12:PV (.int .i64)}{t15:PV zl}{t82:PV (.int .i64)}{t83:PV (.int .i64)}{t84:PV .bool}{t87:PV zn}{t88:PV (.int .i64)}{t89:PV zl}{t90:PV zl}{t92:PV zf}{t93:PV (.int .i64)}{t95:PV (.int .i64)}{t96:PV zf}{t137:PV (.int .i64)}{g1 g2:Int}{rows:RW}{lines:TX}(hr:rows.length+lines.length<=1000000):
 zx8 (t0,t1,t2,t7,t8,t9,t10,t11,t12,(g1,(g2,(rows,()))),t15,t82,t83,t84,t87,t88,t89,t90,t92,t93,t95,t96,t137,lines,(lines.length:Int),0,())=some (t0,t1,t2,t7,t8,t9,t10,t11,t12,(g1,(g2,((rows++zaz t137 lines),()))),t15,t82,t83,t84,t87,t88,t89,t90,t92,t93,t95,t96,()):=by
 have hf:=za8 (B:=λd=>zg4 d.1 d.2.1 d.2.2.1 d.2.2.2.1 d.2.2.2.2.1 d.2.2.2.2.2.1 d.2.2.2.2.2.2.1 d.2.2.2.2.2.2.2.1 d.2.2.2.2.2.2.2.2.1 d.2.2.2.2.2.2.2.2.2.1 d.2.2.2.2.2.2.2.2.2.2.1 d.2.2.2.2.2.2.2.2.2.2.2.1 d.2.2.2.2.2.2.2.2.2.2.2.2.1 d.2.2.2.2.2.2.2.2.2.2.2.2.2.1 d.2.2.2.2.2.2.2.2.2.2.2.2.2.2.1 d.2.2.2.2.2.2.2.2.2.2.2.2.2.2.2.1 d.2.2.2.2.2.2.2.2.2.2.2.2.2.2.2.2.1 d.2.2.2.2.2.2.2.2.2.2.2.2.2.2.2.2.2.1 d.2.2.2.2.2.2.2.2.2.2.2.2.2.2.2.2.2.2.1 d.2.2.2.2.2.2.2.2.2.2.2.2.2.2.2.2.2.2.2.1 d.2.2.2.2.2.2.2.2.2.2.2.2.2.2.2.2.2.2.2.2.1 d.2.2.2.2.2.2.2.2.2.2.2.2.2.2.2.2.2.2.2.2.2.1 d.2.2.2.2.2.2.2.2.2.2.2.2.2.2.2.2.2.2.2.2.2.2.1 d.2.2.2.2.2.2.2.2.2.2.2.2.2.2.2.2.2.2.2.2.2.2.2.1 d.2.2.2.2.2.2.2.2.2.2.2.2.2.2.2.2.2.2.2.2.2.2.2.2.1 d.2.2.2.2.2.2.2.2.2.2.2.2.2.2.2.2.2.2.2.2.2.2.2.2.2.1) lines (λ(a:RW) s=>a++[((t137,(s,())):PV zo)]) (λa i=>(t0,t1,t2,t7,t8,t9,t10,t11,t12,(g1,(g2,(a,()))),t15,t82,t83,t84,t87,t88,t89,t90,t92,t93,t95,t96,t137,lines,(lines.length:Int),(i:Int),())) (λa=>(t0,t1,t2,t7,t8,t9,t10,t11,t12,(g1,(g2,(a,()))),t15,t82,t83,t84,t87,t88,t89,t90,t92,t93,t95,t96,())) (λi a=>a.length=rows.length+i)
  (λi hi a hI=>by
    refine⟨by simp[hI];omega,?_⟩;show zg4 t0 t1 t2 t7 t8 t9 t10 t11 t12 (g1,(g2,(a,()))) t15 t82 t83 t84 t87 t88 t89 t90 t92 t93 t95 t96 t137 lines (lines.length:Int) (i:Int)=_;unfold zg4;rw[yc0 (by omega:(i:Int)<(lines.length:Int)),yb0,zq hi,yb0,toNat_cast,ql hi];dsimp only;rw[jc (by simp only[yf0,yp0];omega),yb0,wrap64 (x:=(i:Int)+1) (by omega) (by omega)];rfl)
  (λa _=>by
    show zg4 t0 t1 t2 t7 t8 t9 t10 t11 t12 (g1,(g2,(a,()))) t15 t82 t83 t84 t87 t88 t89 t90 t92 t93 t95 t96 t137 lines (lines.length:Int) (lines.length:Int)=_;unfold zg4;rw[yi0 (yi1 _),yd0]) rows rfl
 rw[zkf] at hf;exact hf.1
theorem qws {t0:PV zf}{t1:PV zn}{t2:PV (.int .i64)}{t7:PV zk}{t8:PV (.int .i64)}{t9:PV (.int .i64)}{t10:PV (.int .i64)}{t11:PV (.int .i64)}{t12:PV (.int .i64)}{t15:PV zl}{t82:PV (.int .i64)}{t83:PV (.int .i64)}{t84:PV .bool}{t87:PV zn}{t88:PV (.int .i64)}{t89:PV zl}{t90:PV zl}{t92:PV zf}{t93:PV (.int .i64)}{t95:PV (.int .i64)}{t96:PV zf}{t99:PV zf}{t101:PV (.int .i64)}{t103:PV (.int .i64)}{t105:PV (.int .i64)}{t106:PV (.int .i64)}{t107:PV zf}{t137:PV (.int .i64)}{g1 g2:Int}{rows:RW}{lines:TX}(hr:rows.length+lines.length<=1000000):
 zx4 (t0,t1,t2,t7,t8,t9,t10,t11,t12,(g1,(g2,(rows,()))),t15,t82,t83,t84,t87,t88,t89,t90,t92,t93,t95,t96,t99,t101,t103,t105,t106,t107,t137,lines,(lines.length:Int),0,())=some (t0,t1,t2,t7,t8,t9,t10,t11,t12,(g1,(g2,((rows++zaz t137 lines),()))),t15,t82,t83,t84,t87,t88,t89,t90,t92,t93,t95,t96,t99,t101,t103,t105,t106,t107,()):=by
 have hf:=za8 (B:=λd=>zg1 d.1 d.2.1 d.2.2.1 d.2.2.2.1 d.2.2.2.2.1 d.2.2.2.2.2.1 d.2.2.2.2.2.2.1 d.2.2.2.2.2.2.2.1 d.2.2.2.2.2.2.2.2.1 d.2.2.2.2.2.2.2.2.2.1 d.2.2.2.2.2.2.2.2.2.2.1 d.2.2.2.2.2.2.2.2.2.2.2.1 d.2.2.2.2.2.2.2.2.2.2.2.2.1 d.2.2.2.2.2.2.2.2.2.2.2.2.2.1 d.2.2.2.2.2.2.2.2.2.2.2.2.2.2.1 d.2.2.2.2.2.2.2.2.2.2.2.2.2.2.2.1 d.2.2.2.2.2.2.2.2.2.2.2.2.2.2.2.2.1 d.2.2.2.2.2.2.2.2.2.2.2.2.2.2.2.2.2.1 d.2.2.2.2.2.2.2.2.2.2.2.2.2.2.2.2.2.2.1 d.2.2.2.2.2.2.2.2.2.2.2.2.2.2.2.2.2.2.2.1 d.2.2.2.2.2.2.2.2.2.2.2.2.2.2.2.2.2.2.2.2.1 d.2.2.2.2.2.2.2.2.2.2.2.2.2.2.2.2.2.2.2.2.2.1 d.2.2.2.2.2.2.2.2.2.2.2.2.2.2.2.2.2.2.2.2.2.2.1 d.2.2.2.2.2.2.2.2.2.2.2.2.2.2.2.2.2.2.2.2.2.2.2.1 d.2.2.2.2.2.2.2.2.2.2.2.2.2.2.2.2.2.2.2.2.2.2.2.2.1 d.2.2.2.2.2.2.2.2.2.2.2.2.2.2.2.2.2.2.2.2.2.2.2.2.2.1 d.2.2.2.2.2.2.2.2.2.2.2.2.2.2.2.2.2.2.2.2.2.2.2.2.2.2.1 d.2.2.2.2.2.2.2.2.2.2.2.2.2.2.2.2.2.2.2.2.2.2.2.2.2.2.2.1 d.2.2.2.2.2.2.2.2.2.2.2.2.2.2.2.2.2.2.2.2.2.2.2.2.2.2.2.2.1 d.2.2.2.2.2.2.2.2.2.2.2.2.2.2.2.2.2.2.2.2.2.2.2.2.2.2.2.2.2.1 d.2.2.2.2.2.2.2.2.2.2.2.2.2.2.2.2.2.2.2.2.2.2.2.2.2.2.2.2.2.2.1 d.2.2.2.2.2.2.2.2.2.2.2.2.2.2.2.2.2.2.2.2.2.2.2.2.2.2.2.2.2.2.2.1) lines (λ(a:RW) s=>a++[((t137,(s,())):PV zo)]) (λa i=>(t0,t1,t2,t7,t8,t9,t10,t11,t12,(g1,(g2,(a,()))),t15,t82,t83,t84,t87,t88,t89,t90,t92,t93,t95,t96,t99,t101,t103,t105,t106,t107,t137,lines,(lines.length:Int),(i:Int),())) (λa=>(t0,t1,t2,t7,t8,t9,t10,t11,t12,(g1,(g2,(a,()))),t15,t82,t83,t84,t87,t88,t89,t90,t92,t93,t95,t96,t99,t101,t103,t105,t106,t107,())) (λi a=>a.length=rows.length+i)
  (λi hi a hI=>by
    refine⟨by simp[hI];omega,?_⟩;show zg1 t0 t1 t2 t7 t8 t9 t10 t11 t12 (g1,(g2,(a,()))) t15 t82 t83 t84 t87 t88 t89 t90 t92 t93 t95 t96 t99 t101 t103 t105 t106 t107 t137 lines (lines.length:Int) (i:Int)=_;unfold zg1;rw[yc0 (by omega:(i:Int)<(lines.length:Int)),yb0,zq hi,yb0,toNat_cast,ql hi];dsimp only;rw[jc (by simp only[yf0,yp0];omega),yb0,wrap64 (x:=(i:Int)+1) (by omega) (by omega)];rfl)
  (λa _=>by
    show zg1 t0 t1 t2 t7 t8 t9 t10 t11 t12 (g1,(g2,(a,()))) t15 t82 t83 t84 t87 t88 t89 t90 t92 t93 t95 t96 t99 t101 t103 t105 t106 t107 t137 lines (lines.length:Int) (lines.length:Int)=_;unfold zg1;rw[yi0 (yi1 _),yd0]) rows rfl
 rw[zkf] at hf;exact hf.1
theorem qwt {t0:PV zf}{t1:PV zn}{t2:PV (.int .i64)}{t7:PV zk}{t8:PV (.int .i64)}{t9:PV (.int .i64)}{t10:PV (.int .i64)}{t11:PV (.int .i64)}{t12:PV (.int .i64)}{t15:PV zl}{t82:PV (.int .i64)}{t83:PV (.int .i64)}{t84:PV .bool}{t87:PV zn}{t88:PV (.int .i64)}{t89:PV zl}{t90:PV zl}{t92:PV zf}{t93:PV (.int .i64)}{t95:PV (.int .i64)}{t96:PV zf}{t99:PV zf}{t101:PV (.int .i64)}{t103:PV (.int .i64)}{t105:PV (.int .i64)}{t106:PV (.int .i64)}{t107:PV zf}{t111:PV zf}{t137:PV (.int .i64)}{g1 g2:Int}{rows:RW}{lines:TX}(hr:rows.length+lines.length<=1000000):
 zx5 (t0,t1,t2,t7,t8,t9,t10,t11,t12,(g1,(g2,(rows,()))),t15,t82,t83,t84,t87,t88,t89,t90,t92,t93,t95,t96,t99,t101,t103,t105,t106,t107,t111,t137,lines,(lines.length:Int),0,())=some (t0,t1,t2,t7,t8,t9,t10,t11,t12,(g1,(g2,((rows++zaz t137 lines),()))),t15,t82,t83,t84,t87,t88,t89,t90,t92,t93,t95,t96,t99,t101,t103,t105,t106,t107,t111,()):=by
 have hf:=za8 (B:=λd=>zg2 d.1 d.2.1 d.2.2.1 d.2.2.2.1 d.2.2.2.2.1 d.2.2.2.2.2.1 d.2.2.2.2.2.2.1 d.2.2.2.2.2.2.2.1 d.2.2.2.2.2.2.2.2.1 d.2.2.2.2.2.2.2.2.2.1 d.2.2.2.2.2.2.2.2.2.2.1 d.2.2.2.2.2.2.2.2.2.2.2.1 d.2.2.2.2.2.2.2.2.2.2.2.2.1 d.2.2.2.2.2.2.2.2.2.2.2.2.2.1 d.2.2.2.2.2.2.2.2.2.2.2.2.2.2.1 d.2.2.2.2.2.2.2.2.2.2.2.2.2.2.2.1 d.2.2.2.2.2.2.2.2.2.2.2.2.2.2.2.2.1 d.2.2.2.2.2.2.2.2.2.2.2.2.2.2.2.2.2.1 d.2.2.2.2.2.2.2.2.2.2.2.2.2.2.2.2.2.2.1 d.2.2.2.2.2.2.2.2.2.2.2.2.2.2.2.2.2.2.2.1 d.2.2.2.2.2.2.2.2.2.2.2.2.2.2.2.2.2.2.2.2.1 d.2.2.2.2.2.2.2.2.2.2.2.2.2.2.2.2.2.2.2.2.2.1 d.2.2.2.2.2.2.2.2.2.2.2.2.2.2.2.2.2.2.2.2.2.2.1 d.2.2.2.2.2.2.2.2.2.2.2.2.2.2.2.2.2.2.2.2.2.2.2.1 d.2.2.2.2.2.2.2.2.2.2.2.2.2.2.2.2.2.2.2.2.2.2.2.2.1 d.2.2.2.2.2.2.2.2.2.2.2.2.2.2.2.2.2.2.2.2.2.2.2.2.2.1 d.2.2.2.2.2.2.2.2.2.2.2.2.2.2.2.2.2.2.2.2.2.2.2.2.2.2.1 d.2.2.2.2.2.2.2.2.2.2.2.2.2.2.2.2.2.2.2.2.2.2.2.2.2.2.2.1 d.2.2.2.2.2.2.2.2.2.2.2.2.2.2.2.2.2.2.2.2.2.2.2.2.2.2.2.2.1 d.2.2.2.2.2.2.2.2.2.2.2.2.2.2.2.2.2.2.2.2.2.2.2.2.2.2.2.2.2.1 d.2.2.2.2.2.2.2.2.2.2.2.2.2.2.2.2.2.2.2.2.2.2.2.2.2.2.2.2.2.2.1 d.2.2.2.2.2.2.2.2.2.2.2.2.2.2.2.2.2.2.2.2.2.2.2.2.2.2.2.2.2.2.2.1 d.2.2.2.2.2.2.2.2.2.2.2.2.2.2.2.2.2.2.2.2.2.2.2.2.2.2.2.2.2.2.2.2.1) lines (λ(a:RW) s=>a++[((t137,(s,())):PV zo)]) (λa i=>(t0,t1,t2,t7,t8,t9,t10,t11,t12,(g1,(g2,(a,()))),t15,t82,t83,t84,t87,t88,t89,t90,t92,t93,t95,t96,t99,t101,t103,t105,t106,t107,t111,t137,lines,(lines.length:Int),(i:Int),())) (λa=>(t0,t1,t2,t7,t8,t9,t10,t11,t12,(g1,(g2,(a,()))),t15,t82,t83,t84,t87,t88,t89,t90,t92,t93,t95,t96,t99,t101,t103,t105,t106,t107,t111,())) (λi a=>a.length=rows.length+i)
  (λi hi a hI=>by
    refine⟨by simp[hI];omega,?_⟩;show zg2 t0 t1 t2 t7 t8 t9 t10 t11 t12 (g1,(g2,(a,()))) t15 t82 t83 t84 t87 t88 t89 t90 t92 t93 t95 t96 t99 t101 t103 t105 t106 t107 t111 t137 lines (lines.length:Int) (i:Int)=_;unfold zg2;rw[yc0 (by omega:(i:Int)<(lines.length:Int)),yb0,zq hi,yb0,toNat_cast,ql hi];dsimp only;rw[jc (by simp only[yf0,yp0];omega),yb0,wrap64 (x:=(i:Int)+1) (by omega) (by omega)];rfl)
  (λa _=>by
    show zg2 t0 t1 t2 t7 t8 t9 t10 t11 t12 (g1,(g2,(a,()))) t15 t82 t83 t84 t87 t88 t89 t90 t92 t93 t95 t96 t99 t101 t103 t105 t106 t107 t111 t137 lines (lines.length:Int) (lines.length:Int)=_;unfold zg2;rw[yi0 (yi1 _),yd0]) rows rfl
 rw[zkf] at hf;exact hf.1
theorem qwu {t0:PV zf}{t1:PV zn}{t2:PV (.int .i64)}{t7:PV zk}{t8:PV (.int .i64)}{t9:PV (.int .i64)}{t11:PV (.int .i64)}{t12:PV (.int .i64)}{t127:PV zf}{t128:PV (.int .i64)}{t129:PV (.int .i64)}{t130:PV zf}{t137:PV (.int .i64)}{g1 g2:Int}{rows:RW}{lines:TX}(hr:rows.length+lines.length<=1000000):
 zx6 (t0,t1,t2,t7,t8,t9,t11,t12,(g1,(g2,(rows,()))),t127,t128,t129,t130,t137,lines,(lines.length:Int),0,())=some (t0,t1,t2,t7,t8,t9,t11,t12,(g1,(g2,((rows++zaz t137 lines),()))),t127,t128,t129,t130,()):=by
 have hf:=za8 (B:=λd=>zg3 d.1 d.2.1 d.2.2.1 d.2.2.2.1 d.2.2.2.2.1 d.2.2.2.2.2.1 d.2.2.2.2.2.2.1 d.2.2.2.2.2.2.2.1 d.2.2.2.2.2.2.2.2.1 d.2.2.2.2.2.2.2.2.2.1 d.2.2.2.2.2.2.2.2.2.2.1 d.2.2.2.2.2.2.2.2.2.2.2.1 d.2.2.2.2.2.2.2.2.2.2.2.2.1 d.2.2.2.2.2.2.2.2.2.2.2.2.2.1 d.2.2.2.2.2.2.2.2.2.2.2.2.2.2.1 d.2.2.2.2.2.2.2.2.2.2.2.2.2.2.2.1 d.2.2.2.2.2.2.2.2.2.2.2.2.2.2.2.2.1) lines (λ(a:RW) s=>a++[((t137,(s,())):PV zo)]) (λa i=>(t0,t1,t2,t7,t8,t9,t11,t12,(g1,(g2,(a,()))),t127,t128,t129,t130,t137,lines,(lines.length:Int),(i:Int),())) (λa=>(t0,t1,t2,t7,t8,t9,t11,t12,(g1,(g2,(a,()))),t127,t128,t129,t130,())) (λi a=>a.length=rows.length+i)
  (λi hi a hI=>by
    refine⟨by simp[hI];omega,?_⟩;show zg3 t0 t1 t2 t7 t8 t9 t11 t12 (g1,(g2,(a,()))) t127 t128 t129 t130 t137 lines (lines.length:Int) (i:Int)=_;unfold zg3;rw[yc0 (by omega:(i:Int)<(lines.length:Int)),yb0,zq hi,yb0,toNat_cast,ql hi];dsimp only;rw[jc (by simp only[yf0,yp0];omega),yb0,wrap64 (x:=(i:Int)+1) (by omega) (by omega)];rfl)
  (λa _=>by
    show zg3 t0 t1 t2 t7 t8 t9 t11 t12 (g1,(g2,(a,()))) t127 t128 t129 t130 t137 lines (lines.length:Int) (lines.length:Int)=_;unfold zg3;rw[yi0 (yi1 _),yd0]) rows rfl
 rw[zkf] at hf;exact hf.1
end R.G
end

section
/- Groups of hunks, the whole: both sides make the same. -/
open Go Go.Dn
namespace R.G
theorem ja0 {l:TX}{h:HK}{i n:Nat}(hl:l.length<=40)(hg:zar (l.length:Int) h=true)(hn:i+n<=h.length)(hn1:1<=n){w:Int}{out:GR}{e g1 g2 m at0:Int}(hm0: -10000<=m)(hm1:m<=10000)
 (ha0:0<=at0)(ha1:at0<=(l.length:Int))(ha2:at0<=(h.getD i H0).1):
 z0m (l,h,w,out,m,(i:Int),((i+n -1:Nat):Int),at0,e,(g1,(g2,([],()))),())=
  some (l,h,w,out,((segL h i n).foldl (zbw l) ([],at0,m)).2.2,((i+n:Nat):Int),((segL h i n).foldl (zbw l) ([],at0,m)).2.1,e,(g1,(g2,(((segL h i n).foldl (zbw l) ([],at0,m)).1,()))),())/\
 SegI l (segL h i n) m n ((segL h i n).foldl (zbw l) ([],at0,m)):=by
 have ho:=zry hl hg hn;have hsl:=zgg hn;obtain⟨_,_,h20,_⟩:=zbx hg
 have hf:=za8 (B:=λd=>zg9 d.1 d.2.1 d.2.2.1 d.2.2.2.1 d.2.2.2.2.1 d.2.2.2.2.2.1 d.2.2.2.2.2.2.1 d.2.2.2.2.2.2.2.1 d.2.2.2.2.2.2.2.2.1 d.2.2.2.2.2.2.2.2.2.1) (segL h i n) (zbw l)
  (λa k=>(l,h,w,out,a.2.2,((i+k:Nat):Int),((i+n -1:Nat):Int),a.2.1,e,(g1,(g2,(a.1,()))),())) (λa=>(l,h,w,out,a.2.2,((i+n:Nat):Int),a.2.1,e,(g1,(g2,(a.1,()))),())) (SegI l (segL h i n) m)
  (λk hk a hI=>by
    have hk':=hk;rw[hsl] at hk';have hx:(segL h i n)[k]=(segL h i n).getD k H0:=(ql hk).symm;have nx:=seg_next ho hk hI;rw[hx];refine⟨nx,?_⟩;obtain⟨q1,q2,q3,q4,q5⟩:=ho.at_ k hk;have z1:=hI.rows;have z2:=hI.at0;have z4:=hI.next hk;have z5:=hI.m0;have z6:=hI.m1;rw[zgn hn hk'] at q1 q2 q3 q4 z4 ⊢;show zg9 l h w out a.2.2 ((i+k:Nat):Int) ((i+n -1:Nat):Int) a.2.1 e (g1,(g2,(a.1,())))=_;unfold zg9;rw[yc0 (by omega:((i+k:Nat):Int)<=((i+n -1:Nat):Int)),yb0,zq (by omega),yb0,toNat_cast];generalize h.getD (i+k) H0=x at*;have c1:= @zff l a.2.1 x.1;have c2:= @zff l x.1 (x.1+x.2.1);have hxl:x.1<=(l.length:Int):=Int.le_trans (Int.le_add_of_nonneg_right q2) q3;have hg40:x.2.1<=40:=Int.le_trans (Int.le_trans (Int.le_add_of_nonneg_left q1) q3) (by omega);rw[zdh z2 z4 hxl,yb0,qzs (by omega),ya0];dsimp only;rw[zxp (L:=(l.length:Int)) (by omega) q1 q2 q3,zdh q1 (Int.le_add_of_nonneg_right q2) q3,yb0,qws (by rw[ye0,zca];omega),ya0];dsimp only;rw[qwt (by rw[ye0,ye0,zca,zca];omega),ya0];dsimp only;rw[wrapM (by omega) (by omega) (Int.natCast_nonneg _) (by omega) q2 hg40,wrap64 (x:=((i+k:Nat):Int)+1) (by omega) (by omega)];rw[zxp (L:=(l.length:Int)) (by omega) q1 q2 q3];rfl)
  (λa _=>by
    show zg9 l h w out a.2.2 ((i+(segL h i n).length:Nat):Int) ((i+n -1:Nat):Int) a.2.1 e (g1,(g2,(a.1,())))=_;unfold zg9;rw[hsl,yi0 (by omega:¬((i+n:Nat):Int)<=((i+n -1:Nat):Int)),yd0]) ([],at0,m)
  ⟨ye1 _,ha0,ha1,λhk=>by rw[zgn hn (by omega)];exact ha2,by show m -100*((0:Nat):Int)<=m;omega,by show m<=m+100*((0:Nat):Int);omega⟩
 rw[hsl] at hf;exact hf
theorem jap {l:TX}{h:HK}{w:Int}{out:GR}{m i:Int}(h20:h.length<=20):∀(f k:Nat),k<h.length->h.length -1 -k<=f->z1k (l,h,w,out,m,i,(k:Int),())=some (l,h,w,out,m,i,((qg h w f k:Nat):Int),()):=by
 intro f
 induction f with
 |zero=>
  intro k hk hf;refine jh (B:=λd=>zb7 d.1 d.2.1 d.2.2.1 d.2.2.2.1 d.2.2.2.2.1 d.2.2.2.2.2.1 d.2.2.2.2.2.2.1) ?_;show zb7 l h w out m i k=_;unfold zb7;rw[wrap64 (by omega) (by omega),yi0 (by omega:¬((k:Int)+1<(h.length:Int))),yd0];rfl
 |succ f ih=>
  intro k hk hf;have e:IntKind.wrap .i64 ((k:Int)+1)=((k+1:Nat):Int):=by rw[wrap64 (by omega) (by omega)];omega
  by_cases hk1:k+1<h.length
  ·have step:zb7 l h w out m i k=some (if zi6 h w k then .inl (l,h,w,out,m,i,((k+1:Nat):Int),()) else .inr (l,h,w,out,m,i,(k:Int),())):=by
    unfold zb7 zi6;rw[e,yc0 (by omega:((k+1:Nat):Int)<(h.length:Int)),yb0,zq hk1,yb0,zq hk,yb0,yb0,toNat_cast,toNat_cast];cases decide (IntKind.wrap .i64 ((h.getD (k+1) H0).1 -IntKind.wrap .i64 ((h.getD k H0).1+(h.getD k H0).2.1))<=IntKind.wrap .i64 (2*w))<;>rfl
   simp only[qg];cases hb:zi6 h w k
   ·rw[yw0 (by simp)]
    exact jh (B:=λd=>zb7 d.1 d.2.1 d.2.2.1 d.2.2.2.1 d.2.2.2.2.1 d.2.2.2.2.2.1 d.2.2.2.2.2.2.1) (by show zb7 l h w out m i k=_;rw[step,hb];rfl)
   ·rw[yx0 ⟨hk1,rfl⟩]
    exact Eq.trans (zal (B:=λd=>zb7 d.1 d.2.1 d.2.2.1 d.2.2.2.1 d.2.2.2.2.1 d.2.2.2.2.2.1 d.2.2.2.2.2.2.1) (by show zb7 l h w out m i k=_;rw[step,hb];rfl)) (ih (k+1) hk1 (by omega))
  ·simp only[qg]
   rw[yw0 (by omega)];refine jh (B:=λd=>zb7 d.1 d.2.1 d.2.2.1 d.2.2.2.1 d.2.2.2.2.1 d.2.2.2.2.2.1 d.2.2.2.2.2.2.1) ?_;show zb7 l h w out m i k=_;unfold zb7;rw[e,yi0 (by omega:¬(((k+1:Nat):Int)<(h.length:Int))),yd0]
theorem jaq {l:TX}{h:HK}{w m:Int}{out:GR}{i:Nat}(hl:l.length<=40)(hg:zar (l.length:Int) h=true)(hw0:0<=w)(hw1:w<=20)(hi:i<h.length)(hm0: -10000<=m)(hm1:m<=10000)(hout:out.length<=100):
 zfx l h w out m i=some (.inl (l,h,w,out++[grp l h w i (qg h w 20 i+1 -i) m],(res l h w i (qg h w 20 i+1 -i) m).2.2,((qg h w 20 i+1:Nat):Int),()))/\
 m -100*((qg h w 20 i+1 -i:Nat):Int)<=(res l h w i (qg h w 20 i+1 -i) m).2.2/\(res l h w i (qg h w 20 i+1 -i) m).2.2<=m+100*((qg h w 20 i+1 -i:Nat):Int)/\(res l h w i (qg h w 20 i+1 -i) m).1.length<=2400:=by
 obtain⟨_,_,h20,_⟩:=zbx hg;obtain⟨l1,l2⟩:=zgh h w 20 i hi;have hG:=gOk hl hg hw0 hi;have hn:i+(qg h w 20 i+1 -i)<=h.length:=by omega
 obtain⟨s1,s2⟩:=ja0 (w:=w) (out:=out) (e:=end0 l h w (qg h w 20 i)) (g1:=at0 h w i) (g2:=at0 h w i+m) hl hg hn (by omega) hm0 hm1 hG.a0 hG.a1 hG.a2;rw[show i+(qg h w 20 i+1 -i) -1=qg h w 20 i from by omega,show i+(qg h w 20 i+1 -i)=qg h w 20 i+1 from by omega] at s1;have hr:=qfh (l:=l) (w:=w) (m:=m) hn (by omega);rw[show i+(qg h w 20 i+1 -i) -1=qg h w 20 i from by omega] at hr;obtain⟨e1,e2,e3,e4,e5,e6⟩:=hG.e1 (qg h w 20 i) l2;obtain⟨_,_,f3,f4,f5,f6⟩:=hG.e1 i hi;obtain⟨w1,_⟩:=zrz e3 e4 e5 e6 hw0 hw1;obtain⟨_,w2⟩:=zrz f3 f4 f5 f6 hw0 hw1;have hga0:=hG.a0;have hga1:=hG.a1;have r0:=s2.rows;have r1:=s2.at0;have r2:=s2.m0;have r3:=s2.m1;have hN:qg h w 20 i+1 -i<=20:=by omega
 refine⟨?_,?_,?_,?_⟩
 ·unfold zfx
  rw[yc0 (by omega:(i:Int)<(h.length:Int)),yb0,jap h20 20 i hi (by omega),ya0];dsimp only;rw[zq hi,yb0,zq l2,yb0,yb0,toNat_cast,toNat_cast,w2,w1]
  have ea:(bif decide ((0:Int)>(h.getD i H0).1 -w) then(0:Int) else(h.getD i H0).1 -w)=at0 h w i:=by
   unfold at0;generalize (h.getD i H0).1=A;by_cases c:A -w<0
   ·rw[yx0 c,yc0 c];rfl
   ·rw[yw0 c,yi0 c];rfl
  have ee:(bif decide ((l.length:Int)<(h.getD (qg h w 20 i) H0).1+(h.getD (qg h w 20 i) H0).2.1+w) then(l.length:Int) else(h.getD (qg h w 20 i) H0).1+(h.getD (qg h w 20 i) H0).2.1+w)=end0 l h w (qg h w 20 i):=by
   unfold end0;generalize (h.getD (qg h w 20 i) H0).1+(h.getD (qg h w 20 i) H0).2.1+w=A;by_cases c:(l.length:Int)<A
   ·rw[yx0 c,yc0 c];rfl
   ·rw[yw0 c,yi0 c];rfl
  rw[ea,ee,wrap64 (x:=at0 h w i+m) (by omega) (by omega),s1,ya0];dsimp only;unfold res at hr;rw[hr,zdh (Int.add_nonneg e3 e5) e1 e2,yb0,qwu (by have:= @zff l ((h.getD (qg h w 20 i) H0).1+(h.getD (qg h w 20 i) H0).2.1) (end0 l h w (qg h w 20 i));omega),ya0];dsimp only;rw[jc (by simp only[yf0,yp0];omega),yb0];unfold grp res;rw[show i+(qg h w 20 i+1 -i) -1=qg h w 20 i from by omega,hr]
 ·show _<=((segL h i (qg h w 20 i+1 -i)).foldl (zbw l) ([],at0 h w i,m)).2.2
  omega
 ·show((segL h i (qg h w 20 i+1 -i)).foldl (zbw l) ([],at0 h w i,m)).2.2<=_
  omega
 ·show((segL h i (qg h w 20 i+1 -i)).foldl (zbw l) ([],at0 h w i,m)).1.length<=_
  omega
theorem qtg {l:TX}{h:HK}{w:Int}(hl:l.length<=40)(hg:zar (l.length:Int) h=true)(hw0:0<=w)(hw1:w<=20):∀(f i:Nat) (out:GR) (m:Int),h.length -i<=f->i<=h.length->out.length<=i->-100*(i:Int)<=m->m<=100*(i:Int)->
 zol (l,h,w,out,m,(i:Int),())=some (out++zcn l h w f i m,()):=by
 obtain⟨_,_,h20,_⟩:=zbx hg
 have stop:∀(i:Nat) (out:GR) (m:Int),¬i<h.length->zol (l,h,w,out,m,(i:Int),())=some (out,()):=by
  intro i out m hi';refine jh (B:=λd=>zfx d.1 d.2.1 d.2.2.1 d.2.2.2.1 d.2.2.2.2.1 d.2.2.2.2.2.1) ?_;show zfx l h w out m i=_;unfold zfx;rw[yi0 (by omega:¬((i:Int)<(h.length:Int))),yd0]
 intro f
 induction f with
 |zero=>
  intro i out m hf hi ho hm0 hm1;rw[stop i out m (by omega)];simp[zcn]
 |succ f ih=>
  intro i out m hf hi ho hm0 hm1;by_cases hi':i<h.length
  ·obtain⟨s1,s2,s3,s4⟩:=jaq (m:=m) (out:=out) hl hg hw0 hw1 hi' (by omega) (by omega) (by omega)
   obtain⟨l1,l2⟩:=zgh h w 20 i hi';refine Eq.trans (zal (B:=λd=>zfx d.1 d.2.1 d.2.2.1 d.2.2.2.1 d.2.2.2.2.1 d.2.2.2.2.2.1) s1) ?_;refine Eq.trans (ih (qg h w 20 i+1) _ _ (by omega) (by omega) (by rw[ye0,yf0,yp0];omega) (by omega) (by omega)) ?_;simp only[zcn,yx0 hi',yj0,yw1,yp1]
  ·rw[stop i out m hi']
   simp[zcn,hi']
end R.G
end

section
/- Groups of hunks as the reference makes them; the text all in one. -/
open Go Go.Dn
namespace R.G
theorem z9h {l:TX}{h:HK}{w:Int}(hl:Sm l)(hh:SmH h):zly l h w=some ((goR l h w,goOk l h w,()),()):=by
 unfold zly ztz goR;rw[q9g hl hh,ya0];dsimp only;cases hp:zfe l h
 ·unfold goOk;rw[hp];rfl
 ·rw[ys0,yd0,in_I,ya0,ya0,ya0]
  dsimp only;rw[show(decide (w>=0)&&decide (w<=20))=inI w 0 20 from rfl];cases hw:inI w 0 20
  ·unfold goOk;rw[hp,hw];rfl
  ·have hk:goOk l h w=true:=by unfold goOk;rw[hp,hw];rfl
   obtain⟨k1,k2,k3,k4,k5⟩:=zwr hk;rw[hk,ys0,yd0,yb0];unfold ztk;rw[show zol (l,h,w,([]:PV zk),0,0,())=_ from qtg k1 k2 k3 k4 20 0 [] 0 (by omega) (by omega) (ym0 _) (by simp) (by simp),ya0,ya0];rfl
theorem q4o {l:TX}{h:HK}{w:Int}(hl:Sm l)(hh:SmH h)(hb:SmB l)(hbh:SmBH h):zof l h w=some ((utR l h w,utOk l h w,()),()):=by
 unfold zof utR utOk;rw[z9h hl hh,ya0];dsimp only;cases hk:goOk l h w
 ·rfl
 ·rw[ys0,yd0,U.qtd (zrk hb hbh),ya0]
  rfl
theorem q4n {l:TX}{h:HK}{w:Int}(hl:Sm l)(hh:SmH h)(hb:SmB l)(hbh:SmBH h):zod l h w=some ((utR l h w,utOk l h w,()),()):=by
 unfold zod utR utOk;rw[z9i hl hh,ya0];dsimp only;cases hk:goOk l h w
 ·rfl
 ·rw[ys0,yd0,U.qte (zrk hb hbh),ya0]
  rfl
end R.G
end

section
/- The drawn inputs: choices, lines, hunks; what is drawn is small. -/
open Go Go.Dn
namespace R.G
abbrev Cur:=PV qh
structure CurOk (K:Int)(c:Cur):Prop where
 by_:∀x∈(c.1:List Int),0<=x/\x<=255
 a0:(0:Int)<=c.2.1
 a1:(c.2.1:Int)<=K
theorem CurOk.up {K K':Int}{c:Cur}(h:CurOk K c)(hk:K<=K'):CurOk K' c:=⟨h.by_,h.a0,Int.le_trans h.a1 hk⟩
theorem jaw {n:Nat}(h:n<=255):IntKind.wrap .u64 (n:Int)=n:=by
 simp[IntKind.wrap,IntKind.min,IntKind.max,IntKind.signed,IntKind.bits];omega
theorem jal (X:Int):(BitVec.ofInt (IntKind.bits .u64) X&&&BitVec.ofInt (IntKind.bits .u64) 255).toNat<=255:=by
 rw[BitVec.toNat_and];exact yo1 Nat.and_le_right (by decide)
theorem qeo (X:Int):0<=IntKind.wrap .i64 (IntKind.wrap .u64 ((BitVec.ofInt (IntKind.bits .u64) X&&&BitVec.ofInt (IntKind.bits .u64) 255).toNat:Int))/\IntKind.wrap .i64 (IntKind.wrap .u64 ((BitVec.ofInt (IntKind.bits .u64) X&&&BitVec.ofInt (IntKind.bits .u64) 255).toNat:Int))<=255:=by
 have h:=jal X;generalize (BitVec.ofInt (IntKind.bits .u64) X&&&BitVec.ofInt (IntKind.bits .u64) 255).toNat=n at*;rw[jaw h,wrap64 (by omega) (by omega)];omega
theorem qep {K:Int}{c:Cur}(h:CurOk K c)(hK:K<=4611686018427387904):∃(r:Int) (c':Cur),zlm c=some ((r,()),(c',()))/\0<=r/\r<=255/\CurOk (K+1) c':=by
 obtain⟨code,at_,seed,u⟩:=c;obtain⟨h1,h2,h3⟩:=h;have h1:∀x∈(code:List Int),0<=x/\x<=255:=h1;have h2:(0:Int)<=at_:=h2;have h3:(at_:Int)<=K:=h3;have e:∀a:Int,0<=a->a<=K->IntKind.wrap .i64 (a+1)=a+1/\0<=a+1/\a+1<=K+1:=λa _ _=>⟨wrap64 (by omega) (by omega),by omega,by omega⟩;obtain⟨e1,e2,e3⟩:=e _ h2 h3
 have fin:∀(b:Int),0<=b->b<=255->∃(r:Int) (c':Cur),(bif (decide ((IntKind.wrap .i64 (at_+1))<=(List.length code:Int))) then
  some ((b,()),((code,((IntKind.wrap .i64 (at_+1)),((IntKind.wrap .u64 ((IntKind.wrap .u64 ((IntKind.wrap .u64 (seed*6364136223846793005))+(IntKind.wrap .u64 b)))+1442695040888963407)),u))),()))
  else
   bif decide ((0:Int)<=40) then
    some (((IntKind.wrap .i64 (IntKind.wrap .u64 ((BitVec.ofInt (IntKind.bits .u64) ((IntKind.wrap .u64 ((IntKind.wrap .u64 ((IntKind.wrap .u64 (seed*6364136223846793005))+(IntKind.wrap .u64 b)))+1442695040888963407)).fdiv (2^(min (40:Int).toNat (IntKind.bits .u64))))&&&BitVec.ofInt (IntKind.bits .u64) 255).toNat:Int))),()),((code,((IntKind.wrap .i64 (at_+1)),((IntKind.wrap .u64 ((IntKind.wrap .u64 ((IntKind.wrap .u64 (seed*6364136223846793005))+(IntKind.wrap .u64 b)))+1442695040888963407)),u))),()))
   else
    none:Option (PVs [(.int .i64)]×PVs [qh]))=some ((r,()),(c',()))/\0<=r/\r<=255/\CurOk (K+1) c':=by
  intro b b0 b1;cases decide ((IntKind.wrap .i64 (at_+1))<=(List.length code:Int))
  ·rw[yd0,yc0 (by omega:(0:Int)<=40),yb0]
   refine⟨_,_,rfl,(qeo _).1,(qeo _).2,h1,?_,?_⟩
   ·show 0<=IntKind.wrap .i64 (at_+1);rw[e1];exact e2
   ·show IntKind.wrap .i64 (at_+1)<=K+1;rw[e1];exact e3
  ·rw[yb0]
   refine⟨_,_,rfl,b0,b1,h1,?_,?_⟩
   ·show 0<=IntKind.wrap .i64 (at_+1);rw[e1];exact e2
   ·show IntKind.wrap .i64 (at_+1)<=K+1;rw[e1];exact e3
 unfold zlm;dsimp only;cases hc:decide (at_<(List.length code:Int))
 ·rw[yd0,ya0]
  exact fin 0 (by omega) (by omega)
 ·have hlt:at_<(List.length code:Int):=of_decide_eq_true hc
  obtain⟨i,rfl⟩:∃i:Nat,at_=(i:Int):=⟨at_.toNat,(yx2 h2).symm⟩;have hi:i<List.length code:=Int.ofNat_lt.1 hlt;obtain⟨b0,b1⟩:=h1 _ (ym1 hi);rw[yb0,zq hi,yb0,ya0];dsimp only;rw[toNat_cast,ql hi];have e4:∀b:Int,0<=b->b<=255->IntKind.wrap .i64 b=b:=λb _ _=>wrap64 (by omega) (by omega);rw[e4 _ b0 b1];exact fin _ b0 b1
theorem zbn {K n:Int}{c:Cur}(h:CurOk K c)(hK:K<=4611686018427387000)(hn:n<=1000000):∃(r:Int) (c':Cur),zau c n=some ((r,()),(c',()))/\0<=r/\(1<=n->r<n)/\(n<=1->r=0)/\CurOk (K+2) c':=by
 unfold zau;by_cases h1:n<=1
 ·rw[yc0 h1,yb0]
  exact⟨0,c,rfl,Int.le_refl _,λ_=>by omega,λ_=>rfl,h.up (by omega)⟩
 ·rw[yi0 h1,yd0]
  obtain⟨r,c1,q1,q2,q3,q4⟩:=qep h (by omega);rw[q1,ya0];dsimp only
  have fin:∀(x:Int) (c2:Cur),0<=x->CurOk (K+2) c2->∃(r:Int) (c':Cur),(bif n==0 then none else some ((x.tmod n,()),(c2,())):Option (PVs [(.int .i64)]×PVs [qh]))=some ((r,()),(c',()))/\0<=r/\(1<=n->r<n)/\(n<=1->r=0)/\CurOk (K+2) c':=by
   intro x c2 hx hc;rw[show(n==0)=false from by rw[yo0];omega,yd0];exact⟨_,_,rfl,Int.tmod_nonneg n hx,λ_=>Int.tmod_lt_of_pos x (by omega),λq=>absurd q h1,hc⟩
  by_cases h2:n>200
  ·obtain⟨r2,c2,p1,p2,p3,p4⟩:=qep q4 (by omega)
   rw[yc0 h2,yb0,p1,ya0,ya0];dsimp only;rw[wrap64 (x:=r*256) (by omega) (by omega),wrap64 (x:=r*256+r2) (by omega) (by omega)];exact fin _ _ (by omega) (p4.up (by omega))
  ·rw[yi0 h2,yd0,ya0]
   exact fin _ _ q2 (q4.up (by omega))
theorem qff {K n:Int}{c:Cur}(h:CurOk K c)(hK:K<=4611686018427387000)(hn:n<=1000000):∃(r:Bool) (c':Cur),zlq c n=some ((r,()),(c',()))/\CurOk (K+2) c':=by
 obtain⟨r,c1,q1,_,_,_,q4⟩:=zbn h hK hn;unfold zlq;rw[q1,ya0];exact⟨_,_,rfl,q4⟩
def wl:List (List UInt8):=[[97],[98],[99],[100],[],[46],[46,46],[111,110,101,32,116,119,111],[43,120],[45,121],[92,32,122],[64,64]]
theorem jax:∀i<12,(wl.getD i []).length<=8:=by decide
def wl3:List (List UInt8):=[[97],[101,110,100],[46]]
theorem qfg:∀i<3,1<=(wl3.getD i []).length/\(wl3.getD i []).length<=8:=by decide
theorem zwp {K:Int}{c:Cur}(h:CurOk K c)(hK:K<=4611686018427387000):∃(s:List UInt8) (c':Cur),zjb c=some ((s,()),(c',()))/\s.length<=8/\CurOk (K+2) c':=by
 obtain⟨r,c1,q1,q2,q3,_,q4⟩:=zbn (n:=12) h hK (by omega);have e:zjb c=(zau c 12).bind λr1=>bif inB r1.1.1 12 then some ((wl.getD r1.1.1.toNat [],()),(r1.2.1,())) else none:=rfl;obtain⟨i,rfl⟩:∃i:Nat,r=(i:Int):=⟨r.toNat,(yx2 q2).symm⟩;have hi:i<12:=by have:=q3 (by omega);omega
 rw[e,q1,ya0];dsimp only;rw[show inB (i:Int) 12=true from zq hi,yb0,toNat_cast];exact⟨_,_,rfl,jax i hi,q4⟩
def SmL (l:TX):Prop:=∀s∈l,1<=s.length/\s.length<=9
theorem SmL.snoc {l:TX}{s:List UInt8}(h:SmL l)(h1:1<=s.length)(h2:s.length<=9):SmL (l++[s]):=by
 intro x hx;rcases yu0.1 hx with hx|hx
 ·exact h x hx
 ·obtain rfl:=yl1.1 hx
  exact⟨h1,h2⟩
theorem SmL.sm {l:TX}(h:SmL l)(hl:l.length<=1000):Sm l:=⟨by omega,λs hs=>by have:=h s hs;omega⟩
theorem qbg:∀(n:Nat) {K:Int} {c:Cur} {l:TX},CurOk K c->K+2*(n:Int)<=4611686018427380000->n<=100->l.length+n<=500->SmL l->∃(c':Cur) (l':TX),zzk (c,l,(n:Int),())=some (c',l',())/\l'.length=l.length+n/\SmL l'/\CurOk (K+2*n) c'
 |0,K,c,l,h,hK,hn,hl,hs=>by
  refine⟨c,l,jh (B:=λd=>zft d.1 d.2.1 d.2.2.1) ?_,rfl,hs,h.up (by omega)⟩;show zft c l 0=_;unfold zft;rw[yi0 (by omega:¬((0:Int)>0)),yd0]
 |n+1,K,c,l,h,hK,hn,hl,hs=>by
  obtain⟨s,c1,q1,q2,q3⟩:=zwp h (by omega);obtain⟨c',l',p1,p2,p3,p4⟩:=qbg n (c:=c1) (l:=l++[s++[10]]) q3 (by omega) (by omega) (by simp;omega) (hs.snoc (by simp) (by simp;omega));refine⟨c',l',?_,by rw[p2];simp;omega,p3,p4.up (by omega)⟩;rw[<-p1];refine zal (B:=λd=>zft d.1 d.2.1 d.2.2.1) ?_;show zft c l ((n+1:Nat):Int)=_;unfold zft;rw[yc0 (by omega:((n+1:Nat):Int)>0),yb0,q1,ya0];dsimp only;rw[yc0 (by rw[yf0,yp0];omega),yb0,jc (by rw[yf0,yp0];omega),yb0,show IntKind.wrap .i64 (((n+1:Nat):Int) -1)=(n:Int) from by rw[wrap64 (by omega) (by omega)];omega]
theorem q8y {K:Int}{c:Cur}(h:CurOk K c)(hK:K<=4611686018427370000):∃(l:TX) (c':Cur),zoi c=some ((l,()),(c',()))/\l.length<=9/\SmL l/\CurOk (K+30) c':=by
 obtain⟨r,c1,q1,q2,q3,_,q4⟩:=zbn (n:=9) h (by omega) (by omega);obtain⟨n,rfl⟩:∃n:Nat,r=(n:Int):=⟨r.toNat,(yx2 q2).symm⟩;have hn:n<9:=by have:=q3 (by omega);omega
 obtain⟨c2,l,p1,p2,p3,p4⟩:=qbg n (l:=[]) q4 (by omega) (by omega) (by simp;omega) (λs hs=>by cases hs);obtain⟨b,c3,o1,o2⟩:=qff (n:=5) p4 (by omega) (by omega);have hl:l.length<=8:=by rw[p2];simp;omega
 unfold zoi;rw[q1,ya0];dsimp only;rw[p1,ya0];dsimp only;rw[o1,ya0];dsimp only;cases b
 ·rw[yd0,ya0]
  exact⟨_,_,rfl,by show List.length l<=9;omega,p3,o2.up (by omega)⟩
 ·obtain⟨r4,c4,s1,s2,s3,_,s4⟩:=zbn (n:=3) o2 (by omega) (by omega)
  obtain⟨i,rfl⟩:∃i:Nat,r4=(i:Int):=⟨r4.toNat,(yx2 s2).symm⟩;have hi:i<3:=by have:=s3 (by omega);omega
  rw[yb0,show([[97],[101,110,100],[46]].length:Int)=3 from rfl,s1,ya0];dsimp only;rw[show inB (i:Int) [[97],[101,110,100],[46]].length=true from zq hi,yb0,jc (by rw[yf0,yp0];omega),yb0,ya0,toNat_cast];have hw:=qfg i hi;exact⟨_,_,rfl,by rw[ye0,yf0,yp0];omega,p3.snoc hw.1 (by have:=hw.2;show List.length (wl3.getD i [])<=9;omega),s4.up (by omega)⟩
def SmX (x:PV zl):Prop:=List.length x.2.2.1<=200/\SmL x.2.2.1
theorem qc9:∀(n:Nat) {K:Int} {c:Cur} {x:PV zl} (l:TX) (out:HK) (p len:Int) (bb:Bool),CurOk K c->K+2*(n:Int)<=4611686018427380000->n<=10->List.length x.2.2.1+n<=100->SmL x.2.2.1->
 ∃(c':Cur) (x':PV zl),zzb (c,l,out,p,x,(n:Int),len,bb,())=some (c',l,out,p,x',len,bb,())/\x'.1=x.1/\x'.2.1=x.2.1/\List.length x'.2.2.1=List.length x.2.2.1+n/\SmL x'.2.2.1/\CurOk (K+2*n) c'
 |0,K,c,x,l,out,p,len,bb,h,hK,hn,hl,hs=>by
  refine⟨c,x,jh (B:=λd=>zfr d.1 d.2.1 d.2.2.1 d.2.2.2.1 d.2.2.2.2.1 d.2.2.2.2.2.1 d.2.2.2.2.2.2.1 d.2.2.2.2.2.2.2.1) ?_,rfl,rfl,rfl,hs,h.up (by omega)⟩;show zfr c l out p x 0 len bb=_;unfold zfr;rw[yi0 (by omega:¬((0:Int)>0)),yd0]
 |n+1,K,c,x,l,out,p,len,bb,h,hK,hn,hl,hs=>by
  obtain⟨s,c1,q1,q2,q3⟩:=zwp h (by omega);obtain⟨c',x',p1,p2,p3,p4,p5,p6⟩:=qc9 n (c:=c1) (x:=(x.1,(x.2.1,((x.2.2.1++[s++[10]]),x.2.2.2)))) l out p len bb q3 (by omega) (by omega) (by show List.length (x.2.2.1++[s++[10]])+n<=100;rw[ye0,yf0,yp0];omega) (hs.snoc (by simp) (by simp;omega));refine⟨c',x',?_,p2,p3,by rw[p4];show List.length (x.2.2.1++[s++[10]])+n=_;rw[ye0,yf0,yp0];omega,p5,p6.up (by omega)⟩;rw[<-p1];refine zal (B:=λd=>zfr d.1 d.2.1 d.2.2.1 d.2.2.2.1 d.2.2.2.2.1 d.2.2.2.2.2.1 d.2.2.2.2.2.2.1 d.2.2.2.2.2.2.2.1) ?_;show zfr c l out p x ((n+1:Nat):Int) len bb=_;unfold zfr;rw[yc0 (by omega:((n+1:Nat):Int)>0),yb0,q1,ya0];dsimp only;rw[yc0 (by rw[yf0,yp0];omega),yb0,jc (by rw[yf0,yp0];omega),yb0,show IntKind.wrap .i64 (((n+1:Nat):Int) -1)=(n:Int) from by rw[wrap64 (by omega) (by omega)];omega]
theorem q8z (a b:Int):zh1 a b=some ((if a<b then a else b,()),()):=by
 unfold zh1;by_cases h:a<b
 ·rw[yc0 h,yx0 h];rfl
 ·rw[yi0 h,yw0 h];rfl
theorem q9a {l:TX}(hl:l.length<=100)(hs:∀h:l.length -1<l.length,1<=(l[l.length -1]).length/\(l[l.length -1]).length<=9):∃b:Bool,zh2 l=some ((b,()),()):=by
 unfold zh2;by_cases h:l.length=0
 ·rw[show((l.length:Int)==0)=true from by rw[h];rfl]
  exact⟨_,rfl⟩
 ·have hi:l.length -1<l.length:=by omega
  obtain⟨h1,h2⟩:=hs hi;rw[show((l.length:Int)==0)=false from by rw[yo0];omega,yd0,show IntKind.wrap .i64 ((l.length:Int) -1)=((l.length -1:Nat):Int) from by rw[wrap64 (by omega) (by omega)];omega,zq hi,yb0,toNat_cast,ql hi,zix _ h1 (by omega),ya0];exact⟨_,rfl⟩
def SmHK (h:HK):Prop:=∀x∈h,SmX x
theorem q1w {l:TX}(hl:l.length<=100)(hs:∃b:Bool,zh2 l=some ((b,()),())):∀(f:Nat) {K:Int} {c:Cur} {out:HK} {p:Int},CurOk K c->K+20*(f:Int)<=4611686018427300000->f<=200->(l.length:Int)+1 -p<=f->0<=p->p<=1000->out.length<=6->SmHK out->
 ∃(c':Cur) (h:HK),zg6 (c,l,out,p,())=some (c',h,())/\h.length<=6/\SmHK h/\CurOk (K+20*f) c':=by
 have stop:∀{K:Int} {c:Cur} {out:HK} {p:Int},¬(p<=(l.length:Int)/\(out.length:Int)<6)->zg6 (c,l,out,p,())=some (c,out,()):=by
  intro K c out p hp;refine jh (B:=λd=>zei d.1 d.2.1 d.2.2.1 d.2.2.2.1) ?_;show zei c l out p=_;unfold zei;by_cases h1:p<=(l.length:Int)
  ·rw[yc0 h1,yb0,yi0 (λq=>hp ⟨h1,q⟩),yd0]
  ·rw[yi0 h1,yd0]
 intro f
 induction f with
 |zero=>
  intro K c out p h hK hf hm hp0 hp1 ho hso;exact⟨c,out,stop (K:=K) (λq=>by omega),ho,hso,h.up (by omega)⟩
 |succ f ih=>
  intro K c out p h hK hf hm hp0 hp1 ho hso;by_cases hg:p<=(l.length:Int)/\(out.length:Int)<6
  ·obtain⟨g1,g2⟩:=hg
   generalize hL:(if (3:Int)<(l.length:Int) -p then(3:Int) else(l.length:Int) -p)=m;have hm0:0<=m/\m<=3:=by rw[<-hL];split<;>omega
   obtain⟨r1,c1,a1,a2,a3,a4,a5⟩:=zbn (n:=m+1) h (by omega) (by omega);have a3:=a3 (by omega);obtain⟨r2,c2,b1,b2,b3,b4,b5⟩:=zbn (n:=3) a5 (by omega) (by omega);have b3:=b3 (by omega);obtain⟨n,rfl⟩:∃n:Nat,r2=(n:Int):=⟨r2.toNat,(yx2 b2).symm⟩;obtain⟨c3,x,d1,d2,d3,d4,d5,d6⟩:=qc9 n (x:=(p,(r1,(([]:PV zf),())))) l out p (out.length:Int) (decide ((out.length:Int)<6)) b5 (by omega) (by omega) (by show 0+n<=100;omega) (λs hs=>by cases hs);have d4:List.length x.2.2.1=n:=by rw[d4];show 0+n=n;omega
   obtain⟨r3,c4,e1,e2,e3,e4,e5⟩:=zbn (n:=3) d6 (by omega) (by omega);have e3:=e3 (by omega);obtain⟨wb,hw⟩:=hs;have hx:SmX x:=⟨by omega,d5⟩
   have key:∃out2:HK,out2.length<=6/\SmHK out2/\zg6 (c,l,out,p,())=zg6 (c4,l,out2,p+(r1+1+r3),()):=by
    have hgo:∀{s t},zei s.1 s.2.1 s.2.2.1 s.2.2.2.1=some (.inl t)->zg6 s=zg6 t:=λhh=>zal (B:=λd=>zei d.1 d.2.1 d.2.2.1 d.2.2.2.1) hh
    have hbody:∃bb:Bool,zei c l out p=some (.inl (c4,l,(if bb then out++[x] else out),p+(r1+1+r3),())):=by
     unfold zei;rw[yc0 g1,yb0,yc0 g2,yb0,wrap64 (x:=(l.length:Int) -p) (by omega) (by omega),q8z,ya0];dsimp only;rw[hL,wrap64 (x:=m+1) (by omega) (by omega),a1,ya0];dsimp only;rw[b1,ya0];dsimp only;rw[yc0 g2] at d1;rw[d1,ya0];dsimp only;rw[d3,hw,ya0];dsimp only
     have w1:IntKind.wrap .i64 (p+IntKind.wrap .i64 (IntKind.wrap .i64 (r1+1)+r3))=p+(r1+1+r3):=by
      rw[wrap64 (x:=r1+1) (by omega) (by omega),wrap64 (x:=r1+1+r3) (by omega) (by omega),wrap64 (by omega) (by omega)]
     have hroom:qm (out.length+[x].length)=true:=jc (by rw[yf0,yp0];omega)
     have tail:∀q:Bool,(bif q then
      bif qm (out.length+[x].length) then
       (zau c3 3).bind λr32=>
         some (.inl (r32.2.1,l,(out++[x]),(IntKind.wrap .i64 (p+(IntKind.wrap .i64 ((IntKind.wrap .i64 (r1+1))+r32.1.1)))),()))
      else
       none
      else
       (zau c3 3).bind λr33=>
         some (.inl (r33.2.1,l,out,(IntKind.wrap .i64 (p+(IntKind.wrap .i64 ((IntKind.wrap .i64 (r1+1))+r33.1.1)))),())):Option ((PV qh×PV zf×PV zn×PV (.int .i64)×Unit)⊕((PV qh×PV zn×Unit))))=some (.inl (c4,l,(if q then out++[x] else out),p+(r1+1+r3),())):=by
      intro q;cases q
      ·rw[yd0,e1,ya0]
       dsimp only;rw[w1];rfl
      ·rw[yb0,hroom,yb0,e1,ya0]
       dsimp only;rw[w1];rfl
     cases decide (IntKind.wrap .i64 (r1+(List.length x.2.2.1:Int))>0)
     ·refine⟨false,?_⟩
      rw[yd0,ya0];dsimp only;rw[d3];exact tail false
     ·rw[yb0]
      cases decide (IntKind.wrap .i64 (p+r1)<(l.length:Int))
      ·rw[yd0]
       cases wb
       ·refine⟨decide (r1>0),?_⟩
        rw[yd0,ya0];dsimp only;rw[d3];exact tail _
       ·refine⟨true,?_⟩
        rw[yb0,ya0];dsimp only;rw[d3];exact tail true
      ·refine⟨true,?_⟩
       rw[yb0,ya0];dsimp only;rw[d3];exact tail true
    obtain⟨bb,hbody⟩:=hbody;refine⟨if bb then out++[x] else out,?_,?_,hgo (s:=(c,l,out,p,())) hbody⟩
    ·cases bb
     ·exact ho
     ·rw[yx0 rfl,ye0,yf0,yp0];omega
    ·cases bb
     ·exact hso
     ·intro y hy
      rw[yx0 rfl] at hy;rcases yu0.1 hy with hy|hy
      ·exact hso y hy
      ·obtain rfl:=yl1.1 hy
       exact hx
   obtain⟨out2,k1,k2,k3⟩:=key;obtain⟨c',h',i1,i2,i3,i4⟩:=ih (out:=out2) (p:=p+(r1+1+r3)) e5 (by omega) (by omega) (by omega) (by omega) (by omega) k1 k2;exact⟨c',h',k3.trans i1,i2,i3,i4.up (by omega)⟩
  ·exact⟨c,out,stop (K:=K) hg,ho,hso,h.up (by omega)⟩
theorem qda {l:TX}(hl:l.length<=100)(hs:∃b:Bool,zh2 l=some ((b,()),())){K:Int}{c:Cur}(h:CurOk K c)(hK:K<=4611686018427200000):∃(hh:HK) (c':Cur),zlg c l=some ((hh,()),(c',()))/\hh.length<=6/\SmHK hh/\CurOk (K+5000) c':=by
 obtain⟨r,c1,q1,q2,q3,_,q4⟩:=zbn (n:=3) h (by omega) (by omega);have q3:=q3 (by omega);obtain⟨c2,hh,p1,p2,p3,p4⟩:=q1w hl hs 150 (out:=[]) (p:=r) q4 (by omega) (by omega) (by omega) q2 (by omega) (by simp) (λx hx=>by cases hx);unfold zlg;rw[q1,ya0];dsimp only;rw[p1,ya0];exact⟨_,_,rfl,p2,p3,p4.up (by omega)⟩
theorem SmHK.sm {h:HK}(hl:h.length<=1000)(hs:SmHK h):SmH h:=⟨by omega,λx hx=>(hs x hx).2.sm (by have:=(hs x hx).1;omega)⟩
end R.G
end

section
/- What the law draws: lines and hunks, good or not; they are small. -/
open Go Go.Dn
namespace R.G
theorem qdb {t:PV xu}(hw:WfV xu t):CurOk 0 ((t,(0,(0,()))):Cur):=⟨λx hx=>by have:=hw.2 x hx;exact this,Int.le_refl _,Int.le_refl _⟩
theorem jay {t0 t1:PV xu}:∃b:Bool,zq1 t0 t1=some ((b,()),()):=by
 unfold zq1;cases decide ((List.length t0:Int)>1048576)
 ·exact⟨_,rfl⟩
 ·exact⟨_,rfl⟩
structure TOk (l:TX):Prop where
 len:l.length<=12
 mem:∀s∈l,s.length<=9
 last:∀h:l.length -1<l.length,1<=(l[l.length -1]).length/\(l[l.length -1]).length<=9
theorem TOk.of {l:TX}(h:l.length<=12)(hs:SmL l):TOk l:=⟨h,λs h=>(hs s h).2,λh=>hs _ (ym1 h)⟩
theorem TOk.set {l:TX}{x:List UInt8}(h:TOk l)(h1:1<l.length)(hx:x.length<=9):TOk (l.set 0 x):=by
 refine⟨by rw[yc2];exact h.len,λs hs=> ?_,λhh=> ?_⟩
 ·rcases List.mem_or_eq_of_mem_set hs with hs|rfl
  ·exact h.mem s hs
  ·exact hx
 ·have e:(l.set 0 x)[(l.set 0 x).length -1]=l[l.length -1]:=by
   rw[List.getElem_set_ne (by rw[yc2];omega)];congr 1;rw[yc2]
  rw[e];exact h.last (by omega)
theorem TOk.sm {l:TX}(h:TOk l):Sm l:=⟨by have:=h.len;omega,λs hs=>by have:=h.mem s hs;omega⟩
theorem TOk.smB {l:TX}(h:TOk l):SmB l:=λs hs=>by have:=h.mem s hs;omega
theorem TOk.whole {l:TX}(h:TOk l):∃b:Bool,zh2 l=some ((b,()),()):=q9a (by have:=h.len;omega) h.last
theorem qdc:∀(n:Nat) {K:Int} {c:Cur} {l z:TX},CurOk K c->K+2*(n:Int)<=4611686018427380000->n<=100->l.length+n<=500->SmL l->∃(c':Cur) (l':TX),zx2 (c,z,l,(n:Int),())=some (c',z,l',())/\l'.length=l.length+n/\SmL l'/\CurOk (K+2*n) c'
 |0,K,c,l,z,h,hK,hn,hl,hs=>by
  refine⟨c,l,jh (B:=λd=>zfo d.1 d.2.1 d.2.2.1 d.2.2.2.1) ?_,rfl,hs,h.up (by omega)⟩;show zfo c z l 0=_;unfold zfo;rw[yi0 (by omega:¬((0:Int)>0)),yd0]
 |n+1,K,c,l,z,h,hK,hn,hl,hs=>by
  obtain⟨s,c1,q1,q2,q3⟩:=zwp h (by omega);obtain⟨c',l',p1,p2,p3,p4⟩:=qdc n (c:=c1) (l:=l++[s++[10]]) (z:=z) q3 (by omega) (by omega) (by simp;omega) (hs.snoc (by simp) (by simp;omega));refine⟨c',l',?_,by rw[p2];simp;omega,p3,p4.up (by omega)⟩;rw[<-p1];refine zal (B:=λd=>zfo d.1 d.2.1 d.2.2.1 d.2.2.2.1) ?_;show zfo c z l ((n+1:Nat):Int)=_;unfold zfo;rw[yc0 (by omega:((n+1:Nat):Int)>0),yb0,q1,ya0];dsimp only;rw[yc0 (by rw[yf0,yp0];omega),yb0,jc (by rw[yf0,yp0];omega),yb0,show IntKind.wrap .i64 (((n+1:Nat):Int) -1)=(n:Int) from by rw[wrap64 (by omega) (by omega)];omega]
theorem qdd {K:Int}{c:Cur}{l:TX}(h:CurOk K c)(hK:K<=4611686018427380000)(hl:l.length<=9)(hs:SmL l):∃(c':Cur) (l':TX),((
 bif (decide ((l.length:Int)>1)) then
  (zau c 25).bind λr29=>
    bif (r29.1.1==0) then
     bif inB 0 l.length then
      some (r29.2.1,(l.set ((0:Int).toNat) [120]),())
     else
      none
    else
     bif (r29.1.1==1) then
      bif inB 0 l.length then
       some (r29.2.1,(l.set ((0:Int).toNat) []),())
      else
       none
     else
      bif (r29.1.1==2) then
       bif inB 0 l.length then
        some (r29.2.1,(l.set ((0:Int).toNat) [97,10,98,10]),())
       else
        none
      else
       some (r29.2.1,l,())
 else
  some (c,l,()):Option ((PV qh×PV zf×Unit))))=some (c',l',())/\TOk l'/\CurOk (K+2) c':=by
 by_cases h1:(l.length:Int)>1
 ·obtain⟨r,c1,q1,q2,q3,_,q4⟩:=zbn (n:=25) h (by omega) (by omega)
  have h2:1<l.length:=by omega
  rw[yc0 h1,yb0,q1,ya0];dsimp only;rw[show inB 0 l.length=true from zq (i:=0) (by omega),yb0,yb0,yb0,show((0:Int).toNat)=0 from rfl];have ht:=TOk.of (by omega) hs;cases(r==0)
  ·rw[yd0]
   cases(r==1)
   ·rw[yd0]
    cases(r==2)
    ·exact⟨_,_,rfl,ht,q4⟩
    ·exact⟨_,_,rfl,ht.set h2 (by show 4<=9;omega),q4⟩
   ·exact⟨_,_,rfl,ht.set h2 (ye1 _),q4⟩
  ·exact⟨_,_,rfl,ht.set h2 (by show 1<=9;omega),q4⟩
 ·rw[yi0 h1,yd0]
  exact⟨_,_,rfl,TOk.of (by omega) hs,h.up (by omega)⟩
theorem q1x {K:Int}{c:Cur}(h:CurOk K c)(hK:K<=4611686018427370000):∃(l:TX) (c':Cur),zn7 c=some ((l,()),(c',()))/\TOk l/\CurOk (K+30) c':=by
 obtain⟨r,c1,q1,q2,q3,_,q4⟩:=zbn (n:=9) h (by omega) (by omega);obtain⟨n,rfl⟩:∃n:Nat,r=(n:Int):=⟨r.toNat,(yx2 q2).symm⟩;have hn:n<9:=by have:=q3 (by omega);omega
 obtain⟨c2,l,p1,p2,p3,p4⟩:=qdc n (l:=[]) (z:=[]) q4 (by omega) (by omega) (by simp;omega) (λs hs=>by cases hs);obtain⟨b,c3,o1,o2⟩:=qff (n:=5) p4 (by omega) (by omega);have hl:l.length<=8:=by rw[p2];simp;omega
 unfold zn7;rw[q1,ya0];dsimp only;rw[p1,ya0];dsimp only;rw[o1,ya0];dsimp only;cases b
 ·rw[yd0,ya0]
  dsimp only;obtain⟨c',l',e,ht,hc⟩:=qdd o2 (by omega) (by omega) p3;rw[e,ya0];exact⟨_,_,rfl,ht,hc.up (by omega)⟩
 ·obtain⟨r4,c4,s1,s2,s3,_,s4⟩:=zbn (n:=3) o2 (by omega) (by omega)
  obtain⟨i,rfl⟩:∃i:Nat,r4=(i:Int):=⟨r4.toNat,(yx2 s2).symm⟩;have hi:i<3:=by have:=s3 (by omega);omega
  rw[yb0,show([[97],[101,110,100],[46]].length:Int)=3 from rfl,s1,ya0];dsimp only;rw[show inB (i:Int) [[97],[101,110,100],[46]].length=true from zq hi,yb0,jc (by rw[yf0,yp0];omega),yb0,ya0,toNat_cast];dsimp only;have hw:=qfg i hi;obtain⟨c',l',e,ht,hc⟩:=qdd (l:=l++[wl3.getD i []]) s4 (by omega) (by rw[ye0,yf0,yp0];omega) (p3.snoc hw.1 (by have:=hw.2;omega));have e':=congrArg (λ(o:Option (PV qh×PV zf×Unit))=>o.bind λj30=>(some ((j30.2.1,()),(j30.1,())):Option (PVs [zf]×PVs [qh]))) e;exact⟨l',c',e',ht,hc.up (by omega)⟩
structure SmA (h:HK):Prop where
 len:h.length<=6
 mem:∀x∈h,List.length (x:PV zl).2.2.1<=300/\∀s∈(x.2.2.1:TX),s.length<=9
theorem SmA.of {h:HK}(hl:h.length<=6)(hs:SmHK h):SmA h:=⟨hl,λx hx=>⟨by have:=(hs x hx).1;omega,λs h=>((hs x hx).2 s h).2⟩⟩
theorem SmA.set {h:HK}{i:Nat}{x:PV zl}(hs:SmA h)(h1:List.length x.2.2.1<=300)(h2:∀s∈(x.2.2.1:TX),s.length<=9):SmA (h.set i x):=by
 refine⟨by rw[yc2];exact hs.len,λy hy=> ?_⟩;rcases List.mem_or_eq_of_mem_set hy with hy|rfl
 ·exact hs.mem y hy
 ·exact⟨h1,h2⟩
theorem SmA.sm {h:HK}(hs:SmA h):SmH h:=⟨by have:=hs.len;omega,λx hx=>⟨by have:=(hs.mem x hx).1;omega,λs h=>by have:=(hs.mem x hx).2 s h;omega⟩⟩
theorem SmA.smB {h:HK}(hs:SmA h):SmBH h:=λx hx s h=>by have:=(hs.mem x hx).2 s h;omega
theorem qde {K:Int}{c:Cur}(h:CurOk K c)(hK:K<=4611686018427380000)(L:List Int)(h1:1<=L.length)(h2:L.length<=1000):∃(v:Int) (c':Cur),zlk c L=some ((v,()),(c',()))/\CurOk (K+2) c':=by
 obtain⟨r,c1,q1,q2,q3,_,q4⟩:=zbn (n:=(L.length:Int)) h (by omega) (by omega);obtain⟨n,rfl⟩:∃n:Nat,r=(n:Int):=⟨r.toNat,(yx2 q2).symm⟩;have hn:n<L.length:=by have:=q3 (by omega);omega
 unfold zlk;rw[q1,ya0];dsimp only;rw[zq hn,yb0];exact⟨_,_,rfl,q4⟩
theorem q6s {K:Int}{c:Cur}(h:CurOk K c)(hK:K<=4611686018427370000):∃(v:Int) (c':Cur),zog c=some ((v,()),(c',())):=by
 obtain⟨v,c1,e1,q1⟩:=qde h (by omega) [0,1,2,3,3,20] (by decide) (by decide);obtain⟨r,c2,e2,_⟩:=zbn (n:=30) q1 (by omega) (by omega);unfold zog;rw[e1,ya0];dsimp only;rw[e2,ya0];exact⟨_,_,rfl⟩
theorem qzq {l:TX}(hl:TOk l){K:Int}{c:Cur}(h:CurOk K c)(hK:K<=4611686018427200000):∃(hh:HK) (c':Cur),zn6 c l=some ((hh,()),(c',()))/\SmA hh/\CurOk (K+6000) c':=by
 obtain⟨g,c1,e1,g1,g2,q1⟩:=qda (by have:=hl.len;omega) hl.whole h hK;have hg:=SmA.of g1 g2;unfold zn6;rw[e1,ya0];dsimp only;by_cases h0:(g.length:Int)>0
 ·rw[yc0 h0,yb0]
  obtain⟨r,c2,e2,a2,b2,_,q2⟩:=zbn (n:=(g.length:Int)) q1 (by omega) (by omega);obtain⟨i,rfl⟩:∃i:Nat,r=(i:Int):=⟨r.toNat,(yx2 a2).symm⟩;have hi:i<g.length:=by have:=b2 (by omega);omega
  obtain⟨r2,c3,e3,a3,b3,_,q3⟩:=zbn (n:=25) q2 (by omega) (by omega);obtain⟨v,c4,e4,q4⟩:=qde q3 (by omega) [(-1),40,3] (by decide) (by decide)
  have hx:List.length ((g.getD i (dflt zl)).2.2.1:TX)<=200/\SmL (g.getD i (dflt zl)).2.2.1:=by
   rw[ql hi];exact g2 _ (ym1 hi)
  have hxs:∀s∈((g.getD i (dflt zl)).2.2.1:TX),s.length<=9:=λs hs=>(hx.2 s hs).2;rw[e2,ya0];dsimp only;rw[e3,ya0];dsimp only;rw[show inB (i:Int) g.length=true from zq hi,toNat_cast];simp only[yb0];cases(r2==0)
  ·rw[yd0]
   cases(r2==1)
   ·rw[yd0]
    cases(r2==2)
    ·rw[yd0]
     cases(r2==3)
     ·rw[yd0,ya0]
      exact⟨_,_,rfl,hg,q3.up (by omega)⟩
     ·rw[yb0,jc (by rw[yf0,yp0];omega),yb0,yc0 (by omega:(0:Int)<=(i:Int)),yn1,yx1,yb0,yb0,yb0,ya0]
      exact⟨_,_,rfl,hg.set (by show List.length (((g.getD i (dflt zl)).2.2.1:TX)++[[101,110,100]])<=300;rw[ye0,yf0,yp0];omega) (λs hs=>by
       rcases yu0.1 hs with hs|hs
       ·exact hxs s hs
       ·obtain rfl:=yl1.1 hs
        show 3<=9;omega),q3.up (by omega)⟩
    ·rw[yb0,ya0]
     exact⟨_,_,rfl,hg.set (by show 1<=300;omega) (λs hs=>by obtain rfl:=yl1.1 hs;exact ye1 _),q3.up (by omega)⟩
   ·rw[yb0,ya0]
    exact⟨_,_,rfl,hg.set (by show List.length ((g.getD i (dflt zl)).2.2.1:TX)<=300;omega) hxs,q3.up (by omega)⟩
  ·rw[yb0,e4,ya0]
   dsimp only;rw[ya0];exact⟨_,_,rfl,hg.set (by show List.length ((g.getD i (dflt zl)).2.2.1:TX)<=300;omega) hxs,q4.up (by omega)⟩
 ·rw[yi0 h0,yd0,ya0]
  exact⟨_,_,rfl,hg,q1.up (by omega)⟩
theorem qqi {t:PV xu}(hw:WfV xu t):∃(l:TX) (h:HK) (w:Int),zn4 t=some ((l,h,w,()),())/\TOk l/\SmA h:=by
 obtain⟨l,c1,e1,hl,q1⟩:=q1x (qdb hw) (by omega);obtain⟨h,c2,e2,hh,q2⟩:=qzq hl q1 (by omega);obtain⟨w,c3,e3⟩:=q6s q2 (by omega);unfold zn4 zsi zsh;rw[e1,ya0];dsimp only;rw[e2,ya0,ya0];dsimp only;rw[e3,ya0,ya0];exact⟨l,h,w,rfl,hl,hh⟩
end R.G
end

section
/- The same groups: the law. -/
open Go Go.Dn
namespace R.G
theorem qwp {g:GR}(hs:SmG g):zou g=some ((stR g,stOk g,()),()):=by
 unfold zou stR stOk;rw[zqi hs,ya0];dsimp only;cases hg:jo g
 ·rfl
 ·rw[ys0,yd0,ztq hs hg,ya0,ya0]
  dsimp only;by_cases h:(zam g).length<=3000
  ·rw[yi0 (by omega:¬((zam g).length:Int)>3000),yc0 h,yd0,ztq hs hg,ya0];rfl
  ·rw[yc0 (by omega:((zam g).length:Int)>3000),yi0 h];rfl
theorem jam {g:GR}(h:stOk g=true):zi9 (zam g)=some ((g,0,true,()),()):=by
 unfold stOk at h;rw[yh0,yr0] at h;obtain⟨gs,c,q,e,h1⟩:=zno (zam g);rcases h1 with⟨a1,a2,a3,rfl,rfl⟩|⟨a1,_⟩
 ·have r1:=zm3 a1 (by rw[a2];exact a3)
  have r2:=zm3 h.1 h.2;rw[a2] at r1;rw[r1] at r2;have:gs=g:=(yk1 (yk1 (yl0 r2)).1).1;subst this;exact e
 ·exact(a1 g h.1 rfl h.2).elim
def ctOk (l:TX)(h:HK)(w:Int):Bool:=goOk l h w&&stOk (goR l h w)
def ctR (l:TX)(h:HK)(w:Int):List UInt8:=bif goOk l h w then stR (goR l h w) else[]
theorem q4l {l:TX}{h:HK}{w:Int}(hl:Sm l)(hh:SmH h)(hb:SmB l)(hbh:SmBH h):zoe l h w=some ((ctR l h w,ctOk l h w,()),()):=by
 unfold zoe ctR ctOk;rw[z9h hl hh,ya0];dsimp only;cases hk:goOk l h w
 ·rfl
 ·rw[ys0,yd0,z5r (zrk hb hbh),ya0]
  rfl
theorem qbh {l:TX}{h:HK}{w:Int}(hl:Sm l)(hh:SmH h)(hb:SmB l)(hbh:SmBH h):zlh l h w=some ((ctR l h w,ctOk l h w,()),()):=by
 unfold zlh ctR ctOk;rw[z9i hl hh,ya0];dsimp only;cases hk:goOk l h w
 ·rfl
 ·rw[ys0,yd0,qwp (zrk hb hbh),ya0]
  rfl
theorem q4m {l:TX}{h:HK}{w:Int}(h1:ctOk l h w=true)(h2:utOk l h w=true):zf0 (ctR l h w) (utR l h w)=some ((true,true,()),()):=by
 unfold ctOk at h1;unfold utOk at h2;rw[yh0] at h1 h2;obtain⟨a1,a2⟩:=h1;have b2:=h2.2;unfold ctR utR;rw[a1,yb0,yb0];generalize goR l h w=g at*;unfold stR gtR;rw[a2,b2,yb0,yb0];have hg:=b2;unfold gtOk at hg;rw[yh0,yr0] at hg;obtain⟨k1,k2⟩:=z9g hg.1;unfold zf0;rw[jam a2,ya0];dsimp only;rw[ys0,U.q4k hg.1 hg.2,ya0];dsimp only;rw[yd0,ya0];dsimp only;rw[ys0,yd0,qc8 g k1 k2,q1v];rfl
theorem qzr {t:PV xu}(hw:WfV xu t):∃a b:List UInt8,zld t=some ((a,b,()),()):=by
 obtain⟨l,c1,e1,hl,hs,q1⟩:=q8y (qdb hw) (by omega);have ht:TOk l:=TOk.of (by omega) hs;obtain⟨h,c2,e2,g1,g2,q2⟩:=qda (by omega) ht.whole q1 (by omega);have hh:=SmA.of g1 g2;obtain⟨r,c3,e3,_,_,_,q3⟩:=zbn (n:=3) q2 (by omega) (by omega);obtain⟨r2,c4,e4,_⟩:=zbn (n:=5) q3 (by omega) (by omega);unfold zld;rw[e1,ya0];dsimp only;rw[e2,ya0];dsimp only;rw[e3,ya0];dsimp only;rw[qbh ht.sm hh.sm ht.smB hh.smB,ya0];dsimp only;rw[e4,ya0];dsimp only;rw[q4n ht.sm hh.sm ht.smB hh.smB,ya0];exact⟨_,_,rfl⟩
theorem zwq {t:PV xu}(hw:WfV xu t):((zld t).bind λr25=>
              (zf0 r25.1.1 r25.1.2.1).bind λr27=>
                (zlr r25.1.1 r25.1.2.1).bind λr29=>
                  bif (r27.1.2.1==r29.1.2.1) then
                   some (((r27.1.1==r29.1.1),()),())
                  else
                   some ((false,()),()):Option (PVs [.bool]×PVs []))=some ((true,()),()):=by
 obtain⟨a,b,e⟩:=qzr hw;obtain⟨p,q,e1,e2⟩:=q1u a b;rw[e,ya0];dsimp only;rw[e1,ya0,e2,ya0];dsimp only;rw[yn1,yn1];rfl
end R.G
namespace R
open R.G
theorem qqj (t0 t1:PV xu)(hw:WfV xu t0)(hw1:WfV xu t1):zsf t0 t1=some ((true,()),()):=by
 obtain⟨b,eb⟩:=G.jay (t0:=t0) (t1:=t1);obtain⟨l,h,w,e,ht,hh⟩:=G.qqi hw;unfold zsf;rw[eb,ya0];dsimp only;cases b
 case true=>rfl
 rw[yd0,e,ya0];dsimp only;rw[q4l ht.sm hh.sm ht.smB hh.smB,ya0];dsimp only;rw[qbh ht.sm hh.sm ht.smB hh.smB,ya0];dsimp only;rw[q4o ht.sm hh.sm ht.smB hh.smB,ya0];dsimp only;simp only[yn1,ys0,yd0,ya0];cases h1:ctOk l h w
 ·rw[yd0,ya0]
  dsimp only;rw[yd0,ya0];exact G.zwq hw1
 ·rw[yb0,ya0]
  dsimp only;cases h2:utOk l h w
  ·rw[yd0,ya0]
   exact G.zwq hw1
  ·rw[yb0,q4m h1 h2,ya0]
   dsimp only;simp only[ys0,yd0,ya0];exact G.zwq hw1
end R
end
