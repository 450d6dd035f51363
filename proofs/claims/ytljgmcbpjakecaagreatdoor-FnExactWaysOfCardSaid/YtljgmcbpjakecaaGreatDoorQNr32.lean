/- Parts of the proof: Nf4 Ng2 Ng3 Nh1 Nh2 Nh3 Nh4 Nh5 Nl1 Ni1 Ni2 Ni3 Ni4 Ni5 Ni6 Ni7 Ni8 Ni9 Nj1 Nj2 Nj3 Nk1 Nk2. -/
import Derived.Test.YtljgmcbpjakecaaGreatDoorQNr31
import Derived.Test.YtljgmcbpjakecaaGreatDoorL3
import Derived.Lib.ItoaLen
set_option linter.unusedVariables false
section
/- Groups, as the reference reads them. -/
open Go Go.Dn
namespace R.U
theorem zr1 (a m:Nat):zal a m=Go.Dn.zal a m:=by
 unfold zal Go.Dn.zal numb;by_cases h:m=1
 ·rw[yx0 h,yx0 h,yz0]
 ·rw[yw0 h,yw0 h];rfl
theorem q7c {a m:Nat}:∀c∈zal a m,isDg c=true\/c=44:=by
 intro c hc;rw[zr1] at hc;unfold Go.Dn.zal at hc;rcases yu0.1 hc with h|h
 ·exact .inl (yu2.1 (zks _).1 c h)
 ·split at h
  ·cases h
  ·rcases yg1.1 h with h|h
   ·exact .inr h
   ·exact .inl (yu2.1 (zks _).1 c h)
theorem zgw {a m:Nat}{d:UInt8}(h1:isDg d=false)(h2:d≠44):d∉zal a m:=λh=>by
 rcases q7c d h with h|h
 ·rw[h1] at h;cases h
 ·exact h2 h
theorem q3n {a m:Nat}(ha:a<=999)(hm:999<m)(hm2:m<=9999):countP (zal a m)=none:=by
 have h44:∀u,(44:UInt8)∉Lib.decDigits u:=λu hu=>by
  have:=yu2.1 (zks u).1 44 hu;cases this
 rw[zr1];unfold Go.Dn.zal;rw[yw0 (by omega:¬m=1),yx0 (by omega:0<m)];unfold countP;rw[zd2 _ (h44 _)];dsimp only;obtain⟨d1,d2⟩:=zbs (n:=m) (by omega);obtain⟨c1,c2⟩:=zbs (n:=a+1) (by omega);rw[yx0 ⟨c1,d1⟩,c2,d2];unfold rngP;rw[yw0 (by omega)]
theorem qar {a m m':Nat}(ha:a<=999)(hm:m<=999)(hm':m'<=9999)(h:zal a m=zal a m'):m=m':=by
 have h1:countP (zal a m)=some ((a:Int),(m:Int)):=by rw[zr1];exact qd0 ha hm
 by_cases h9:m'<=999
 ·have h2:countP (zal a m')=some ((a:Int),(m':Int)):=by rw[zr1];exact qd0 ha h9
  rw[h,h2] at h1;have:=(yk1 (yl0 h1)).2;omega
 ·rw[h,q3n ha (by omega) hm'] at h1;cases h1
theorem zya {o f:List UInt8}(h1:(10:UInt8)∉o)(h2:(10:UInt8)∉f):isL (hdP o f):=by
 refine⟨hdQ o f,zl1 o f,?_⟩;unfold hdQ;simp[h1,h2]
def hdC (a m b k:Int):List UInt8:=hdP (zal a.toNat m.toNat) (zal b.toNat k.toNat)
theorem qeh (x:PV zh):zav x=hdP (zal x.1.toNat (zy x.2.2.1 3).length) (zal x.2.1.toNat (zy x.2.2.1 2).length):=rfl
theorem jbj (a m b k:Int):isL (hdC a m b k):=zya (zgw (by decide) (by decide)) (zgw (by decide) (by decide))
theorem qcp (x:PV zh):isL (zav x):=zya (zgw (by decide) (by decide)) (zgw (by decide) (by decide))
theorem jbk {a m b k:Int}{rows:RW}(h:((zy rows 3).length:Int)=m/\((zy rows 2).length:Int)=k):zav (a,(b,(rows,())))=hdC a m b k:=by
 rw[qeh];unfold hdC;rw[<-h.1,<-h.2,toNat_cast,toNat_cast]
theorem jbl {a m b k:Int}{rows:RW}(hr:rows.length<=3000)(ha:0<=a/\a<=999/\0<=m/\m<=999)(hb:0<=b/\b<=999/\0<=k/\k<=999)(h:¬(((zy rows 3).length:Int)=m/\((zy rows 2).length:Int)=k)):hdC a m b k≠zav (a,(b,(rows,()))):=by
 intro e;rw[qeh] at e;unfold hdC at e;obtain⟨e1,e2⟩:=qfu e (zgw (by decide) (by decide)) (zgw (by decide) (by decide)) (zgw (by decide) (by decide)) (zgw (by decide) (by decide));have l1:=zg0 (rows:=rows) (c:=3);have l2:=zg0 (rows:=rows) (c:=2);have q1:=qar (by omega) (by omega) (by show(zy rows 3).length<=9999;omega) e1;have q2:=qar (by omega) (by omega) (by show(zy rows 2).length<=9999;omega) e2;refine h ⟨?_,?_⟩
 ·have:m.toNat=(zy rows 3).length:=q1
  omega
 ·have:k.toNat=(zy rows 2).length:=q2
  omega
theorem jbm (l:TX)(hl:l.length<=3000)(h:∀s∈l,s.length<=3000):ziv l=some ((l.flatten,()),())/\l.flatten.length<=3000*l.length:=by
 have hF:=zb2 (B:=λd=>zc8 d.1 d.2.1 d.2.2.1 d.2.2.2.1) l (λ(o:List UInt8) s=>o++s) (λo i=>(o,l,(l.length:Int),(i:Int),())) (λo=>(o,())) (λi o=>o.length<=3000*i)
  (λi hi o hI=>by
    have h0:=h _ (ym1 hi);refine⟨by rw[ye0];omega,?_⟩;show zc8 o l l.length i=_;unfold zc8;rw[yc0 (by omega:(i:Int)<(l.length:Int)),yb0,zq hi,yb0,toNat_cast,qo hi,yc0 (by omega),yb0,wrap64 (by omega) (by omega)];rfl)
  (λo hI=>by
    show zc8 o l l.length l.length=_;unfold zc8;rw[yi0 (yi1 _),yd0]) [] (ye1 _)
 have hm:∀(l:TX) (o:List UInt8),l.foldl (λ(o:List UInt8) s=>o++s) o=o++l.flatten:=by
  intro l
  induction l with
  |nil=>intro o;simp
  |cons s l ih=>intro o;rw[List.foldl_cons,ih,yd1,yj0]
 have h2:=hF.2;rw[hm,yp1] at h2;refine⟨?_,h2⟩;unfold ziv;rw[show zu9 ([],l,(l.length:Int),0,())=_ from hF.1,ya0];dsimp only;rw[hm,yp1]
theorem q9o {l:List UInt8}(h:endP l=true):l=qp l++[10]:=by
 unfold qp;rw[h,yb0];unfold endP at h;have:=yr2 (l.length -1) l;rw[yy0.1 h] at this;exact this.symm
theorem jbn (l:List UInt8)(rest:TX)(out:GR)(want:List UInt8)(hr:rest.length<=2999)(hLN:LN (l::rest))(h3:∀x∈l::rest,x.length<=3000)(ho:out.length<=3000)(hw:want.length<=10000000*out.length):
 (∃(o f:List UInt8) (a m b k:Int) (rows:RW) (u r:TX),zev l o f a m b k/\rest=u++r/\Rw rows 3000/\((vk rest.length rest m k=some (rows,r))\/(vk rest.length rest m k=none/\¬(((zy rows 3).length:Int)=m/\((zy rows 2).length:Int)=k)))/\
   u.flatten.length<=9000000/\zhm (l::rest) out want=some (.inl (r,out++[(a,(b,(rows,())))],want++(hdC a m b k++u.flatten),())))\/
 ((∀o f a m b k,¬zev l o f a m b k)/\zhm (l::rest) out want=some (.inr (.inr ([],1,false,())))):=by
 have hl:=h3 l (yk0 ..);have hl1:1<=l.length:=ys2.2 hLN.1;have hpl:=qae l;have hpos:decide ((((l::rest:TX)).length:Int)>0)=true:=yc0 (by simp);have e0:inB 0 (l::rest:TX).length=true:=zq (i:=0) (by simp);have eg:(l::rest:TX).getD ((0:Int).toNat) []=l:=rfl
 have hqp:∀{o f:List UInt8},endP l=true->(l=hdP o f↔qp l=hdQ o f):=by
  intro o f he;have:=q9o he;constructor
  ·intro h
   rw[h,zl1] at this;rw[h,zl1];exact(List.append_cancel_right this).symm
  ·intro h
   rw[this,h,<-zl1]
 rcases zoo (qp l) (by omega) with⟨o,f,a,m,b,k,hp,c1,c2,hT⟩|⟨hno,g,m,k,hT⟩
 ·have g1:=zeh c1
  have g2:=zeh c2;obtain⟨rows,u,r,j1,j2,j3,j4⟩:=jbh rest.length rest [] rest [] m k rfl (ym0 _) (by omega) hLN.2.2 (λx hx=>h3 x (yg0 _ hx)) ⟨λr hr=>(by cases hr),ye1 _⟩ (by omega) (by omega);rw[yp1] at j2 j3;have hul:u.length+r.length=rest.length:=by rw[j1];simp
  obtain⟨t1,t2⟩:=jbm u (by omega) (λx hx=>h3 x (yg0 _ (by rw[j1];simp[hx])))
  have hR:zq2 rest m k=some ((rows,((u.length:Nat):Int),()),()):=by
   unfold zq2;rw[show zj5 (rest,m,k,[],0,())=some (rows,(((([]:TX).length+u.length:Nat)):Int),()) from j3,ya0];dsimp only;rw[show([]:TX).length+u.length=u.length by simp]
  have hC1:zfw a m=some ((zal a.toNat m.toNat,()),()):=by
   have:=zs3 a.toNat m.toNat (by omega) (by omega)
   rwa [yz2 g1.1,yz2 g1.2.2.1] at this
  have hC2:zfw b k=some ((zal b.toNat k.toNat,()),()):=by
   have:=zs3 b.toNat k.toNat (by omega) (by omega)
   rwa [yz2 g2.1,yz2 g2.2.2.1] at this
  have k1:=zgr (a:=a.toNat) (m:=m.toNat) (by omega) (by omega);have k2:=zgr (a:=b.toNat) (m:=k.toNat) (by omega) (by omega)
  have hcu:cutL 1 (((1+u.length:Nat)):Int) (l::rest:TX)=u:=by
   unfold cutL;rw[toNat_cast,j1,show((1:Int)).toNat=1 from rfl,Nat.add_comm,List.take_succ_cons,List.drop_succ_cons,List.drop_zero,List.take_left' rfl]
  have hcr:cutL (((1+u.length:Nat)):Int) ((l::rest:TX).length:Int) (l::rest:TX)=r:=by
   unfold cutL;rw[toNat_cast,toNat_cast,List.take_length,j1,Nat.add_comm,List.drop_succ_cons,List.drop_left' rfl]
  have hgo:zhm (l::rest) out want=bif !(endP l) then some (.inr (.inr ([],1,false,()))) else some (.inl (r,out++[(a,(b,(rows,())))],want++(hdC a m b k++u.flatten),())):=by
   unfold zhm;rw[hpos,yb0,e0,yb0,eg,zog l hl1 (by omega),ya0,hT,ya0];dsimp only;rw[ys0,yd0,zak,yb0,drop_one,hR,ya0,hC1,ya0];dsimp only;rw[yc0 (by simp only[yf0,yp0];omega),yb0,yc0 (by simp only[ye0,yf0,yp0];omega),yb0,hC2,ya0];dsimp only;rw[yc0 (by simp only[ye0,yf0,yp0];omega),yb0,yc0 (by simp only[ye0,yf0,yp0];omega),yb0,wrap64 (by omega) (by omega),show(1:Int)+((u.length:Nat):Int)=((1+u.length:Nat):Int) by omega];rw[show cutB 1 (((1+u.length:Nat)):Int) (l::rest:TX).length=true from by unfold cutB;simp;omega,yb0,hcu,t1,ya0];dsimp only;rw[yc0 (by simp only[ye0,yf0,yp0];omega),yb0,yc0 (by simp only[ye0,yf0,yp0];omega),yb0,yb0,zhb l hl1 (by omega),ya0];dsimp only;rw[hcr,show cutB (((1+u.length:Nat)):Int) ((l::rest:TX).length:Int) (l::rest:TX).length=true from by unfold cutB;simp;omega,yb0,jr (by simp;omega),yb0];rfl
  cases he:endP l with
  |true=>
   rw[he] at hgo;exact .inl ⟨o,f,a,m,b,k,rows,u,r,⟨(hqp he).2 hp,c1,c2⟩,j1,j2,j4,by omega,hgo⟩
  |false=>
   rw[he] at hgo;refine .inr ⟨λo f a m b k h=> ?_,hgo⟩;rw[h.1,zx9] at he;cases he
 ·refine .inr ⟨λo f a m b k h=> ?_,?_⟩
  ·have he:endP l=true:=by rw[h.1,zx9]
   exact hno o f a m b k ((hqp he).1 h.1) h.2.1 h.2.2
  ·unfold zhm
   rw[hpos,yb0,e0,yb0,eg,zog l hl1 (by omega),ya0,hT,ya0];rfl
def Bad (want:List UInt8)(out:GR):Prop:=∃A h1 h2 B C,isL h1/\isL h2/\h1≠h2/\want=A++(h1++B)/\zcn out=A++(h2++C)
theorem zq3 (out:GR)(x:PV zh):zcn (out++[x])=zcn out++zhc x:=by
 unfold zcn;rw[List.flatMap_append,List.flatMap_singleton]
theorem Bad.more {want:List UInt8}{out:GR}(h:Bad want out)(W:List UInt8)(x:PV zh):Bad (want++W) (out++[x]):=by
 obtain⟨A,h1,h2,B,C,q1,q2,q3,q4,q5⟩:=h;exact⟨A,h1,h2,B++W,C++zhc x,q1,q2,q3,by rw[q4];simp,by rw[zq3,q5];simp⟩
theorem Bad.ne {want:List UInt8}{out:GR}(h:Bad want out):zcn out≠want:=by
 obtain⟨A,h1,h2,B,C,q1,q2,q3,q4,q5⟩:=h;rw[q4,q5];intro e;have:=congrArg cutP (List.append_cancel_left e);rw[zxh q2,zxh q1] at this;exact q3 (List.cons.inj this).1.symm
theorem q7d:∀(n:Nat) (ls:TX) (out:GR) (want:List UInt8),ls.length<=n->out.length+ls.length<=3000->LN ls->(∀x∈ls,x.length<=3000)->(∀x∈out,Rw x.2.2.1 3000)->want.length<=10000000*out.length->
 (zjq (ls,out,want,())=some (.inr ([],1,false,()))/\∀gs,¬GQ ls gs)\/
 ∃(out':GR) (want':List UInt8),zjq (ls,out,want,())=some (.inl (out',want',()))/\out'.length<=3000/\(∀x∈out',Rw x.2.2.1 3000)/\(Bad want out->Bad want' out')/\(ls≠[]\/out≠[]->out'≠[])/\((¬∀l∈ls,isL l)->endP want'=false)/\
  ((∃gs,GQ ls gs/\out'=out++gs/\(want=zcn out->(∀l∈ls,isL l)->want'=zcn out'))\/((∀gs,¬GQ ls gs)/\(want=zcn out->(∀l∈ls,isL l)->Bad want' out'))):=by
 intro n
 induction n with
 |zero=>
  intro ls out want hl h3 hn hx ho hw;obtain rfl:=yt0 (Nat.le_zero.1 hl);exact .inr ⟨out,want,jg rfl,by omega,ho,id,λh=>h.elim (λh=>absurd rfl h) id,λh=>absurd (λl hl=>by cases hl) h,.inl ⟨[],.nil,by simp,λh _=>h⟩⟩
 |succ n ih=>
  intro ls out want hl h3 hn hx ho hw;cases ls with
  |nil=>exact .inr ⟨out,want,jg rfl,by omega,ho,id,λh=>h.elim (λh=>absurd rfl h) id,λh=>absurd (λl hl=>by cases hl) h,.inl ⟨[],.nil,by simp,λh _=>h⟩⟩
  |cons l rest=>
   rw[yf0] at hl h3;rcases jbn l rest out want (by omega) hn hx (by omega) hw with⟨o,f,a,m,b,k,rows,u,r,hH,j1,j2,j3,j4,j5⟩|⟨hno,hT⟩
   ·have hst:zjq (l::rest,out,want,())=zjq (r,out++[(a,(b,(rows,())))],want++(hdC a m b k++u.flatten),()):=zae j5
    rw[hst];have hrl:u.length+r.length=rest.length:=by rw[j1];simp
    have k1:=zgr (a:=a.toNat) (m:=m.toNat) (by have:=zeh hH.2.1;omega) (by have:=zeh hH.2.1;omega);have k2:=zgr (a:=b.toNat) (m:=k.toNat) (by have:=zeh hH.2.2;omega) (by have:=zeh hH.2.2;omega);have hhd:(hdC a m b k).length<=100:=by unfold hdC hdP;simp only[ye0,yf0,yp0];omega
    have hrn:LN r:=by have:=hn.2.2;rw[j1] at this;exact jbf this
    have hlL:isL l:=by rw[hH.1];exact zya (qam hH.2.1) (qam hH.2.2)
    have ih1:=ih r (out++[(a,(b,(rows,())))]) (want++(hdC a m b k++u.flatten)) (by omega) (by rw[ye0];simp;omega) hrn (λx hx'=>hx x (yg0 _ (by rw[j1];simp[hx'])))
     (λx hx'=>by
       rcases yu0.1 hx' with hx'|hx'
       ·exact ho x hx'
       ·obtain rfl:=yl1.1 hx';exact j2) (by simp only[ye0,yf0,yp0];omega)
    have hE:(∀x∈l::rest,isL x)->∀x∈r,isL x:=λh x hx'=>h x (yg0 _ (by rw[j1];simp[hx']))
    have hgood:vk rest.length rest m k=some (rows,r)->want=zcn out->(∀x∈l::rest,isL x)->want++(hdC a m b k++u.flatten)=zcn (out++[(a,(b,(rows,())))]):=by
     intro hq he hL;obtain⟨q1,_⟩:=zv6 _ (λx hx'=>hL x (yg0 _ hx')) hq;rw[j1,yd3] at q1;rw[zq3,<-he,List.append_cancel_right q1,<-jbk (qao _ hq)];rfl
    have hbad:¬(((zy rows 3).length:Int)=m/\((zy rows 2).length:Int)=k)->want=zcn out->Bad (want++(hdC a m b k++u.flatten)) (out++[(a,(b,(rows,())))]):=by
     intro hd he;exact⟨want,_,_,u.flatten,zbj rows,jbj a m b k,qcp (a,(b,(rows,()))),jbl j2.2 (zeh hH.2.1) (zeh hH.2.2) hd,rfl,by rw[zq3,<-he];rfl⟩
    have hGQ:∀gs,GQ (l::rest) gs->∃rs' r' gs',vk rest.length rest m k=some (rs',r')/\GQ r' gs'/\gs=(a,(b,(rs',())))::gs':=by
     intro gs hg;cases hg with
     |cons hd' hr' hg'=>
      obtain⟨rfl,rfl,rfl,rfl⟩:=zr0 hH hd';exact⟨_,_,_,hr',hg',rfl⟩
    rcases ih1 with⟨i1,i2⟩|⟨out',want',i1,i2,i3,i4,i5,i6,i7⟩
    ·refine .inl ⟨i1,λgs hg=> ?_⟩
     obtain⟨rs',r',gs',q1,q2,_⟩:=hGQ gs hg;rcases j3 with j3|j3
     ·rw[j3] at q1
      obtain⟨rfl,rfl⟩:=yk1 (yl0 q1);exact i2 _ q2
     ·rw[j3.1] at q1;cases q1
    ·refine .inr ⟨out',want',i1,i2,i3,λh=>i4 (h.more _ _),λ_=>i5 (.inr (by simp)),λhU=> ?_,?_⟩
     ·by_cases hr:∀x∈r,isL x
      ·have hu:u.flatten≠[]/\endP u.flatten=false:=by
        rcases zop hn with h|h
        ·exact absurd h hU
        ·rcases zop hn.2.2 with h2|⟨h2,h4⟩
         ·exact absurd (λx hx'=>(yg1.1 hx').elim (λe=>e▸hlL) (h2 x)) hU
         ·rw[j1,yd3] at h2 h4
          by_cases hr0:r=[]
          ·subst hr0
           rw[List.flatten_nil,yz0] at h2 h4;exact⟨h2,h4⟩
          ·have hrf:r.flatten≠[]:=by
            obtain⟨y,ys,rfl⟩:=List.exists_cons_of_ne_nil hr0;rw[yd1];have:=hrn.1;simp[this]
           rcases zop hrn with h5|⟨_,h5⟩
           ·have h6:∀{q:TX},q≠[]->(∀x∈q,isL x)->endP q.flatten=true:=by
             intro q
             induction q with
             |nil=>intro h;exact absurd rfl h
             |cons y q ihq=>
              intro _ hq;rw[yd1];by_cases h0:q=[]
              ·subst h0;rw[List.flatten_nil,yz0];exact zsd (hq y (yk0 ..))
              ·have:=ihq h0 λx hx'=>hq x (yg0 _ hx')
               rw[zci (zlh this),this]
            rw[zci hrf,h6 hr0 h5] at h4;cases h4
           ·exfalso
            have h6:∀{q:TX},q≠[]->(∀x∈q,isL x)->endP q.flatten=true:=by
             intro q
             induction q with
             |nil=>intro h;exact absurd rfl h
             |cons y q ihq=>
              intro _ hq;rw[yd1];by_cases h0:q=[]
              ·subst h0;rw[List.flatten_nil,yz0];exact zsd (hq y (yk0 ..))
              ·have:=ihq h0 λx hx'=>hq x (yg0 _ hx')
               rw[zci (zlh this),this]
            rw[h6 hr0 hr] at h5;cases h5
       have hr0:r=[]:=by
        refine Classical.byContradiction λh0=> ?_
        have h7:∀{q p:TX},LN (q++p)->p≠[]->∀x∈q,isL x:=by
         intro q
         induction q with
         |nil=>intro p _ _ x hx';cases hx'
         |cons y q ihq=>
          intro p h hp x hx';rcases yg1.1 hx' with rfl|hx'
          ·exact h.2.1.resolve_right λq'=>hp (List.append_eq_nil_iff.1 q'.2).2
          ·exact ihq h.2.2 hp x hx'
        have h8:=hn.2.2;rw[j1] at h8
        exact hU λx hx'=>(yg1.1 hx').elim (λe=>e▸hlL) λhx'=>by
         rw[j1] at hx';rcases yu0.1 hx' with hx'|hx'
         ·exact h7 h8 h0 x hx'
         ·exact hr x hx'
       subst hr0;have:zjq ([],out++[(a,(b,(rows,())))],want++(hdC a m b k++u.flatten),())=some (.inl (out++[(a,(b,(rows,())))],want++(hdC a m b k++u.flatten),())):=jg rfl;rw[this] at i1;have e:=Sum.inl.inj (yl0 i1);have e2:want++(hdC a m b k++u.flatten)=want':=congrArg (λz=>z.2.1) e;rw[<-e2,<-yj0,zci hu.1,hu.2]
      ·exact i6 hr
     ·rcases j3 with j3|j3
      ·rcases i7 with⟨gs,q1,q2,q3⟩|⟨q1,q2⟩
       ·exact .inl ⟨(a,(b,(rows,())))::gs,.cons hH j3 q1,by rw[q2];simp,λhe hL=>q3 (hgood j3 he hL) (hE hL)⟩
       ·refine .inr ⟨λgs hg=> ?_,λhe hL=>q2 (hgood j3 he hL) (hE hL)⟩
        obtain⟨rs',r',gs',q3,q4,_⟩:=hGQ gs hg;rw[j3] at q3;obtain⟨rfl,rfl⟩:=yk1 (yl0 q3);exact q1 _ q4
      ·refine .inr ⟨λgs hg=> ?_,λhe _=>i4 (hbad j3.2 he)⟩
       obtain⟨rs',r',gs',q3,_⟩:=hGQ gs hg;rw[j3.1] at q3;cases q3
   ·refine .inl ⟨jg hT,λgs hg=> ?_⟩
    cases hg with
    |cons hd _ _=>exact hno _ _ _ _ _ _ hd
theorem q7e {out:GR}(h:out≠[]):endP (zcn out)=true:=by
 rcases List.eq_nil_or_concat out with rfl|⟨q,x,rfl⟩
 ·exact absurd rfl h
 ·rw[List.concat_eq_append,zq3]
  have h2:endP (zhc x)=true:=by unfold zhc;exact zw0 (zsd (qcp x))
  rw[zci (zlh h2),h2]
theorem zjf (s:List UInt8):∃res,zmc s=some (res,())/\
 ((∃gs,s.length<=3000/\GQ (cutP s) gs/\(∀l∈cutP s,isL l)/\zaf gs=true/\res=(gs,0,true,()))\/
  ((∀gs,s.length<=3000->GQ (cutP s) gs->(∀l∈cutP s,isL l)->zaf gs=true->False)/\res=([],1,false,()))):=by
 unfold zmc;by_cases hs:s.length<=3000
 ·rw[yi0 (by omega:¬(s.length:Int)>3000),yd0,zsy s (by omega),ya0]
  dsimp only;have hln:=zcx s;rcases q7d (cutP s).length (cutP s) [] [] (ym0 _) (by simp;omega) (zyv s.length s (ym0 _)) (λx hx=>by have:=zd0 hx;omega) (λx hx=>by cases hx) (ye1 _) with⟨i1,i2⟩|⟨out',want',i1,i2,i3,i4,i5,i6,i7⟩
  ·rw[i1,ya0]
   exact⟨([],1,false,()),rfl,.inr ⟨λgs _ h _ _=>i2 gs h,rfl⟩⟩
  ·rw[i1,ya0]
   dsimp only;have hS:SmG out':=qgk (by omega) i3;rw[qd2 hS,ya0];dsimp only;cases hg:zaf out'
   ·refine⟨([],1,false,()),rfl,.inr ⟨λgs _ h1 h2 h3=> ?_,rfl⟩⟩
    rcases i7 with⟨gs',q1,q2,_⟩|⟨q1,_⟩
    ·rw[q2,yp1,zx8 q1 h1,h3] at hg;cases hg
    ·exact q1 gs h1
   ·rw[ys0,yd0,qr1 hS hg,ya0,ya0]
    dsimp only;by_cases hE:∀l∈cutP s,isL l
    ·rcases i7 with⟨gs,q1,q2,q3⟩|⟨q1,q2⟩
     ·rw[yp1] at q2
      subst q2;rw[q3 rfl hE,yn1,ys0,yd0];exact⟨(out',0,true,()),rfl,.inl ⟨out',hs,q1,hE,hg,rfl⟩⟩
     ·rw[yo0.2 (q2 rfl hE).ne,yb1,yb0]
      exact⟨([],1,false,()),rfl,.inr ⟨λgs _ h _ _=>q1 gs h,rfl⟩⟩
    ·have hne:cutP s≠[]:=λh=>hE (by rw[h];intro l hl;cases hl)
     have h1:=q7e (i5 (.inl hne));have h2:=i6 hE;have:zcn out'≠want':=λe=>by rw[e,h2] at h1;cases h1
     rw[yo0.2 this,yb1,yb0];exact⟨([],1,false,()),rfl,.inr ⟨λgs _ _ h _=>hE h,rfl⟩⟩
 ·rw[yc0 (by omega:(s.length:Int)>3000)]
  exact⟨([],1,false,()),rfl,.inr ⟨λgs h _ _ _=>hs h,rfl⟩⟩
end R.U
end

section
/- Good orders: both sides answer the same. -/
open Go Go.Dn
namespace R.O
def badO (s:List UInt8):Bool:= !jl s||(!endP s||s==[46,10])
def zdg (l:List (List UInt8)):Bool:=inI (l.length:Int) 1 40&& !(l.any badO)
def za7 (x:PV qh):Bool:=
 (inI x.2.1 0 1000&&inI x.2.2.1 x.2.1 1000)&&
   bif x.1==1 then(x.2.2.1==x.2.1)&&zdg x.2.2.2.1
   else bif x.1==2 then(x.2.2.1==x.2.1)&&(decide (x.2.1>=1)&&zdg x.2.2.2.1)
   else bif x.1==3 then decide (x.2.1>=1)&&zdg x.2.2.2.1
   else bif x.1==4 then decide (x.2.1>=1)&&((List.length x.2.2.2.1:Int)==0)
   else bif x.1==5 then decide (x.2.1>=1)&&((x.2.2.1==x.2.1)&&((List.length x.2.2.2.1:Int)==0))
   else false
def zbg (l:List (PV qh)):Bool:=decide (l.length<=60)&& !(l.any λx=> !za7 x)
theorem qg7 (s:List UInt8)(hs:s.length<=4611686018427387904):zpf s=some ((badO s,()),()):=by
 unfold zpf badO;rw[zth s hs,zlm s hs,ya0,ya0];dsimp only;cases jl s<;>cases endP s<;>rfl
theorem jbo (t0:List (List UInt8))(hs:Sm t0):zka t0=some ((zdg t0,()),()):=by
 have hl:=hs.len;unfold zka
 have hr:∀i,i<t0.length->(((zgq (t0.getD i [])).bind λr4=>bif !r4.1.1 then some (t0,t0,(t0.length:Int),(i:Int),true,()) else
  (zei (t0.getD i [])).bind λr5=>bif !r5.1.1 then some (t0,t0,(t0.length:Int),(i:Int),true,()) else some (t0,t0,(t0.length:Int),(i:Int),(t0.getD i [])==[46,10],())):Option (PV zf×PV zf×Int×Int×Bool×Unit))=
  some (t0,t0,(t0.length:Int),(i:Int),badO (t0.getD i []),()):=by
  intro i hi;unfold badO;rw[qo hi,zys _ (hs.mem hi),ya0];dsimp only;cases hL:jl t0[i]
  ·rfl
  ·rw[ys0,yd0,yf2,zhb _ (zca hL).1 (hs.mem hi),ya0]
   dsimp only;cases endP t0[i]<;>rfl
 rw[show z4k (t0,t0,(t0.length:Int),0,())=_ from zgz (B:=λd=>zfl d.1 d.2.1 d.2.2.1 d.2.2.2.1) t0.length (λk=>badO (t0.getD k []))
    (λi=>(t0,t0,(t0.length:Int),(i:Int),())) (λ_=>.inr (false,())) (.inl (t0,()))
    (λi hi hq=>by
      show zfl t0 t0 t0.length i=_;unfold zfl;rw[yc0 (by omega:(i:Int)<(t0.length:Int)),yb0,zq hi,yb0,toNat_cast,hr i hi,hq,ya0];dsimp only;rw[yd0,wrap64 (by omega) (by omega)];rfl)
    (λi hi hq=>by
      show zfl t0 t0 t0.length i=_;unfold zfl;rw[yc0 (by omega:(i:Int)<(t0.length:Int)),yb0,zq hi,yb0,toNat_cast,hr i hi,hq,ya0];rfl)
    (by
      show zfl t0 t0 t0.length t0.length=_;unfold zfl;rw[yi0 (yi1 _),yd0])]
 rw[qb4 (f:=badO)];unfold zdg;cases t0.any badO
 ·simp only[Bool.false_eq_true,if_false,ya0,in_S];simp[inI]
 ·simp
theorem qfv (x:PV qh)(hs:Sm x.2.2.2.1):zqe x=some ((za7 x,()),()):=by
 unfold zqe za7;rw[in_S,in_S,ya0,ya0];dsimp only;unfold inI;cases decide (x.2.1>=0)&&decide (x.2.1<=1000)
 ·rfl
 ·rw[ys0,yd0,ya0]
  dsimp only;cases decide (x.2.2.1>=x.2.1)&&decide (x.2.2.1<=1000)
  ·rfl
  ·rw[ys0,yd0,jbo _ hs]
   simp only[ya0,yx1];cases x.1==1<;>cases x.1==2<;>cases x.1==3<;>cases x.1==4<;>cases x.1==5<;>cases x.2.2.1==x.2.1<;>cases decide (x.2.1>=1)<;>rfl
theorem jcr (x:PV qh)(a:Bool)(l:List (List UInt8))(b:Bool)(hs:Sm l):
 zz7 (x,a,l,(l.length:Int),b,true,l,l,false,l,l,(l.length:Int),0,())=some (if l.any badO then .inr (x,a,l,(l.length:Int),b,true,l,l,false,l,((l.findIdx badO:Nat):Int),()) else .inl (x,a,l,(l.length:Int),b,true,l,l,false,l,())):=by
 have hl:=hs.len
 exact zck (B:=λd=>ze2 d.1 d.2.1 d.2.2.1 d.2.2.2.1 d.2.2.2.2.1 d.2.2.2.2.2.1 d.2.2.2.2.2.2.1 d.2.2.2.2.2.2.2.1 d.2.2.2.2.2.2.2.2.1 d.2.2.2.2.2.2.2.2.2.1 d.2.2.2.2.2.2.2.2.2.2.1 d.2.2.2.2.2.2.2.2.2.2.2.1 d.2.2.2.2.2.2.2.2.2.2.2.2.1) l badO
  (λi=>(x,a,l,(l.length:Int),b,true,l,l,false,l,l,(l.length:Int),(i:Int),())) (λi=>.inr (x,a,l,(l.length:Int),b,true,l,l,false,l,(i:Int),())) (.inl (x,a,l,(l.length:Int),b,true,l,l,false,l,()))
  (λi hi hq=>by
    show ze2 _ _ _ _ _ _ _ _ _ _ l l.length i=_;unfold ze2;rw[yc0 (by omega:(i:Int)<(l.length:Int)),yb0,zq hi,yb0,toNat_cast,qo hi,qg7 _ (hs.mem hi),ya0];dsimp only;rw[hq,yd0,wrap64 (by omega) (by omega)];rfl)
  (λi hi hq=>by
    show ze2 _ _ _ _ _ _ _ _ _ _ l l.length i=_;unfold ze2;rw[yc0 (by omega:(i:Int)<(l.length:Int)),yb0,zq hi,yb0,toNat_cast,qo hi,qg7 _ (hs.mem hi),ya0];dsimp only;rw[hq,yb0])
  (by
    show ze2 _ _ _ _ _ _ _ _ _ _ l l.length l.length=_;unfold ze2;rw[yi0 (yi1 _),yd0])
theorem qfw (x:PV qh)(hs:Sm x.2.2.2.1):zpq x=some ((za7 x,()),()):=by
 unfold zpq za7;rw[in_I,in_I,ya0,ya0];dsimp only;unfold inI;cases decide (x.2.1>=0)&&decide (x.2.1<=1000)
 ·rfl
 ·rw[ys0,yd0,ya0]
  dsimp only;cases decide (x.2.2.1>=x.2.1)&&decide (x.2.2.1<=1000)
  ·rfl
  ·rw[ys0,yd0,in_I,ya0]
   dsimp only;unfold zdg inI;generalize hb:(decide ((List.length x.2.2.2.1:Int)>=1)&&decide ((List.length x.2.2.2.1:Int)<=40))=b;cases b
   ·rw[yd0,ya0]
    dsimp only;simp only[yx1];cases x.1==1<;>cases x.1==2<;>cases x.1==3<;>cases x.1==4<;>cases x.1==5<;>cases x.2.2.1==x.2.1<;>cases decide (x.2.1>=1)<;>cases((List.length x.2.2.2.1:Int)==0)<;>rfl
   ·rw[yb0,jcr x _ _ _ hs]
    cases List.any x.2.2.2.1 badO
    ·rw[yw0 (by simp),ya0]
     dsimp only;rw[yb0,ya0];dsimp only;simp only[yx1];cases x.1==1<;>cases x.1==2<;>cases x.1==3<;>cases x.1==4<;>cases x.1==5<;>cases x.2.2.1==x.2.1<;>cases decide (x.2.1>=1)<;>cases((List.length x.2.2.2.1:Int)==0)<;>rfl
    ·rw[yx0 rfl,ya0]
     dsimp only;rw[yb0,yc0 (by omega:((List.findIdx badO x.2.2.2.1:Nat):Int)>=0),ya0];dsimp only;simp only[yx1];cases x.1==1<;>cases x.1==2<;>cases x.1==3<;>cases x.1==4<;>cases x.1==5<;>cases x.2.2.1==x.2.1<;>cases decide (x.2.1>=1)<;>cases((List.length x.2.2.2.1:Int)==0)<;>rfl
theorem Sm.order {l:List (PV qh)}(hs:tot zn l<=4611686018427387904){i:Nat}(hi:i<l.length):Sm l[i].2.2.2.1:=by
 have h:=yo1 (zoa (e:=103) (t:=qh) hi) hs;refine Sm.of (n:=4611686018427387904) ?_ (ym0 _);simp only[tot] at h ⊢;omega
theorem q9p (t0:List (PV qh))(hs:tot zn t0<=4611686018427387904):zq4 t0=some ((zbg t0,()),()):=by
 have hl:t0.length<=4611686018427387904:=yo1 (Nat.le_add_right _ _) (zcr (e:=103) (t:=qh)▸hs);unfold zq4
 rw[show z6t (t0,t0,(t0.length:Int),0,())=_ from zck (B:=λd=>zfs d.1 d.2.1 d.2.2.1 d.2.2.2.1) t0 (λx=> !za7 x) (λi=>(t0,t0,(t0.length:Int),(i:Int),())) (λ_=>.inr (false,())) (.inl (t0,()))
  (λi hi hq=>by
    show zfs t0 t0 t0.length i=_;unfold zfs;rw[yc0 (by omega:(i:Int)<(t0.length:Int)),yb0,zq hi,yb0,toNat_cast,qo hi,qfv _ (Sm.order hs hi),ya0];dsimp only;rw[hq,yd0,wrap64 (by omega) (by omega)];rfl)
  (λi hi hq=>by
    show zfs t0 t0 t0.length i=_;unfold zfs;rw[yc0 (by omega:(i:Int)<(t0.length:Int)),yb0,zq hi,yb0,toNat_cast,qo hi,qfv _ (Sm.order hs hi),ya0];dsimp only;rw[hq,yb0])
  (by
    show zfs t0 t0 t0.length t0.length=_;unfold zfs;rw[yi0 (yi1 _),yd0])]
 unfold zbg;cases h:t0.any λx=> !za7 x
 ·simp;omega
 ·simp
theorem q9q (t0:List (PV qh))(hs:tot zn t0<=4611686018427387904):zpi t0=some ((zbg t0,()),()):=by
 unfold zpi zbg;by_cases hl:t0.length<=60
 ·rw[yc0 (by omega:(t0.length:Int)<=60),yb0,yc0 hl,yx1]
  rw[show zzw (t0,false,t0,(t0.length:Int),true,true,t0,t0,false,t0,t0,(t0.length:Int),0,())=_ from
   zck (B:=λd=>ze0 d.1 d.2.1 d.2.2.1 d.2.2.2.1 d.2.2.2.2.1 d.2.2.2.2.2.1 d.2.2.2.2.2.2.1 d.2.2.2.2.2.2.2.1 d.2.2.2.2.2.2.2.2.1 d.2.2.2.2.2.2.2.2.2.1 d.2.2.2.2.2.2.2.2.2.2.1 d.2.2.2.2.2.2.2.2.2.2.2.1 d.2.2.2.2.2.2.2.2.2.2.2.2.1) t0 (λx=> !za7 x)
   (λi=>(t0,false,t0,(t0.length:Int),true,true,t0,t0,false,t0,t0,(t0.length:Int),(i:Int),())) (λi=>.inr (t0,false,t0,(t0.length:Int),true,true,t0,t0,false,t0,(i:Int),())) (.inl (t0,false,t0,(t0.length:Int),true,true,t0,t0,false,t0,()))
   (λi hi hq=>by
     show ze0 _ _ _ _ _ _ _ _ _ _ t0 t0.length i=_;unfold ze0 zpd;rw[yc0 (by omega:(i:Int)<(t0.length:Int)),yb0,zq hi,yb0,toNat_cast,qo hi,qfw _ (Sm.order hs hi),ya0,ya0];dsimp only;rw[hq,yd0,wrap64 (by omega) (by omega)];rfl)
   (λi hi hq=>by
     show ze0 _ _ _ _ _ _ _ _ _ _ t0 t0.length i=_;unfold ze0 zpd;rw[yc0 (by omega:(i:Int)<(t0.length:Int)),yb0,zq hi,yb0,toNat_cast,qo hi,qfw _ (Sm.order hs hi),ya0,ya0];dsimp only;rw[hq,yb0])
   (by
     show ze0 _ _ _ _ _ _ _ _ _ _ t0 t0.length t0.length=_;unfold ze0;rw[yi0 (yi1 _),yd0])]
  cases h:t0.any λx=> !za7 x
  ·rfl
  ·simp
 ·rw[yi0 (by omega:¬(t0.length:Int)<=60),yd0,yi0 hl];rfl
end R.O
end

section
/- Orders as texts: both sides write the same. -/
open Go Go.Dn
namespace R.O
def pairT (a b:Nat):List UInt8:=if a=b then dec a else(dec a++[44])++dec b
theorem zb0 {a b:Nat}(ha:a<=10000)(hb:b<=10000):(pairT a b).length<=43:=by
 have:=zbu a (by omega);have:=zbu b (by omega);unfold pairT;split
 ·omega
 ·simp only[ye0,yf0,yp0];omega
theorem zlp {a b:Nat}(ha:a<=10000)(hb:b<=10000):zdx (a:Int) (b:Int)=some ((pairT a b,()),()):=by
 have h1:=zbu a (by omega);have h2:=zbu b (by omega);unfold zdx pairT;rw[ztu a (by omega),ztu b (by omega)];by_cases h:a=b
 ·rw[yx0 h,show((a:Int)==(b:Int))=true from by rw[h];exact yn1 _];rfl
 ·rw[yw0 h,show((a:Int)==(b:Int))=false from yo0.2 (by omega),yd0,ya0]
  dsimp only;rw[yc0 (by simp only[yf0,yp0];omega),yb0,ya0];dsimp only;rw[yc0 (by simp only[ye0,yf0,yp0];omega),yb0]
theorem zlo {a b:Nat}(ha:a<=10000)(hb:b<=10000):zjz (a:Int) (b:Int)=some ((pairT a b,()),()):=by
 have h1:=zbu a (by omega);have h2:=zbu b (by omega);unfold zjz pairT;rw[zlz a (by omega),zlz b (by omega)];by_cases h:a=b
 ·rw[yx0 h,show((a:Int)==(b:Int))=true from by rw[h];exact yn1 _];rfl
 ·rw[yw0 h,show((a:Int)==(b:Int))=false from yo0.2 (by omega),yd0,ya0]
  dsimp only;rw[yc0 (by simp only[yf0,yp0];omega),yb0,ya0];dsimp only;rw[yc0 (by simp only[ye0,yf0,yp0];omega),yb0]
theorem q3o:∀xs:TX,Go.Lib.join xs []=xs.flatten
 |[]=>rfl
 |x::r=>by
  rw[Go.Lib.join_cons]
  have:∀r:TX,Go.Lib.joinTail [] r=r.flatten:=λr=>by
   unfold Go.Lib.joinTail;rw[show(r.map λs=>([]:List UInt8)++s)=r from by rw[show(λs:List UInt8=>([]:List UInt8)++s)=id from funext λs=>rfl,List.map_id]]
  rw[this,yd1]
theorem znt:∀{l:TX},(∀s∈l,s.length<=30)->l.flatten.length<=30*l.length
 |[],_=>by simp
 |s::l,h=>by
  have h1:=h s (yk0 ..);have h2:=znt (l:=l) λy hy=>h y (yg0 _ hy);rw[yd1,ye0,yf0,Nat.mul_add];omega
theorem jcs (l:TX)(hl:l.length<=40)(h:∀s∈l,s.length<=30):ziv l=some ((l.flatten,()),()):=by
 have hF:=zb2 (B:=λd=>zc8 d.1 d.2.1 d.2.2.1 d.2.2.2.1) l (λ(o:List UInt8) s=>o++s) (λo i=>(o,l,(l.length:Int),(i:Int),())) (λo=>(o,())) (λi o=>o.length<=30*i)
  (λi hi o hI=>by
    have h0:=h _ (ym1 hi);refine⟨by rw[ye0];omega,?_⟩;show zc8 o l l.length i=_;unfold zc8;rw[yc0 (by omega:(i:Int)<(l.length:Int)),yb0,zq hi,yb0,toNat_cast,qo hi,yc0 (by omega),yb0,wrap64 (by omega) (by omega)];rfl)
  (λo hI=>by
    show zc8 o l l.length l.length=_;unfold zc8;rw[yi0 (yi1 _),yd0]) [] (ye1 _)
 unfold ziv;rw[show zu9 ([],l,(l.length:Int),0,())=_ from hF.1,ya0];dsimp only
 have hm:∀(l:TX) (o:List UInt8),l.foldl (λ(o:List UInt8) s=>o++s) o=o++l.flatten:=by
  intro l
  induction l with
  |nil=>intro o;simp
  |cons s l ih=>intro o;rw[List.foldl_cons,ih,yd1,yj0]
 rw[hm,yp1]
theorem jct (l:TX)(hl:l.length<=40)(h:∀s∈l,s.length<=30):zpj l []=some ((l.flatten,()),()):=by
 have:=znt h;unfold zpj ztr;rw[q3o,yc0 (by omega),yc0 (by omega)];rfl
def zdo (k:Int):List UInt8:=gs0.getD k.toNat []
def newT (l:TX):List UInt8:=if 0<l.length then l.flatten++[46,10] else[]
def ordT (x:PV qh):List UInt8:=((pairT x.2.1.toNat x.2.2.1.toNat++zdo x.1)++[10])++newT x.2.2.2.1
theorem q9r {l:TX}(h:zdg l=true):l.length<=40/\∀s∈l,s.length<=30:=by
 unfold zdg inI at h;simp only[yh0,yr0,yj1] at h;refine⟨by omega,λs hs=> ?_⟩;have h1:=List.any_eq_false.1 h.2 s hs;unfold badO at h1;cases hl:jl s with
 |false=>rw[hl] at h1;exact absurd rfl h1
 |true=>exact(zca hl).2
theorem kinds {k:Int}{e g f z:Bool}(h:(bif k==1 then e&&f else bif k==2 then e&&(g&&f) else bif k==3 then g&&f else bif k==4 then g&&z else bif k==5 then g&&(e&&z) else false)=true):(1<=k/\k<=5)/\(f=true\/z=true):=by
 by_cases k1:k=1
 ·subst k1;cases e<;>cases g<;>cases f<;>cases z<;>simp_all
 by_cases k2:k=2
 ·subst k2;cases e<;>cases g<;>cases f<;>cases z<;>simp_all
 by_cases k3:k=3
 ·subst k3;cases e<;>cases g<;>cases f<;>cases z<;>simp_all
 by_cases k4:k=4
 ·subst k4;cases e<;>cases g<;>cases f<;>cases z<;>simp_all
 by_cases k5:k=5
 ·subst k5;cases e<;>cases g<;>cases f<;>cases z<;>simp_all
 ·simp[k1,k2,k3,k4,k5] at h
theorem zk9 {x:PV qh}(h:za7 x=true):(∃a:Nat,x.2.1=(a:Int)/\a<=1000)/\(∃b:Nat,x.2.2.1=(b:Int)/\b<=1000)/\(1<=x.1/\x.1<=5)/\List.length x.2.2.2.1<=40/\∀s∈(x.2.2.2.1:TX),s.length<=30:=by
 unfold za7 inI at h;rw[yh0] at h;obtain⟨h1,h2⟩:=h;simp only[yh0,yr0] at h1
 have hk:(1<=x.1/\x.1<=5)/\(zdg x.2.2.2.1=true\/(List.length x.2.2.2.1:Int)=0):=by
  obtain⟨k1,k2⟩:=kinds (k:=x.1) h2;exact⟨k1,k2.imp id λh=>yy0.1 h⟩
 refine⟨⟨x.2.1.toNat,(yz2 (by omega)).symm,by omega⟩,⟨x.2.2.1.toNat,(yz2 (by omega)).symm,by omega⟩,hk.1,?_⟩;rcases hk.2 with hf|h0
 ·exact q9r hf
 ·have:List.length x.2.2.2.1=0:=by omega
  exact⟨by omega,λs hs=>by rw[yt0 this] at hs;cases hs⟩
theorem zxq {k:Int}(h:1<=k/\k<=5):(zdo k).length<=5:=by
 have:k=1\/k=2\/k=3\/k=4\/k=5:=by omega
 rcases this with rfl|rfl|rfl|rfl|rfl<;>decide
theorem q9s {l:TX}(hl:l.length<=40)(h:∀s∈l,s.length<=30):(newT l).length<=1202:=by
 have:=znt h;unfold newT;split
 ·simp only[ye0,yf0,yp0];omega
 ·exact ye1 _
theorem qei {x:PV qh}(h:za7 x=true):(ordT x).length<=1300:=by
 obtain⟨⟨a,ea,ha⟩,⟨b,eb,hb⟩,hk,hl,hs⟩:=zk9 h;have h1:=zb0 (a:=a) (b:=b) (by omega) (by omega);have h2:=zxq hk;have h3:=q9s hl hs;unfold ordT;rw[ea,eb,toNat_cast,toNat_cast];simp only[ye0,yf0,yp0];omega
theorem in6 {k:Int}(h:1<=k/\k<=5):inB k 6=true:=by
 have:k=1\/k=2\/k=3\/k=4\/k=5:=by omega
 rcases this with rfl|rfl|rfl|rfl|rfl<;>decide
theorem zoq {x:PV qh}(h:za7 x=true){l:List (PV qh)}{i:Nat}(hi:i<l.length)(hx:l[i]=x)(hll:l.length<=60){o:List UInt8}(ho:o.length<=1300*i):
 zho o l (l.length:Int) (i:Int)=some (.inl (o++ordT x,l,(l.length:Int),((i+1:Nat):Int),())):=by
 obtain⟨⟨a,ea,ha⟩,⟨b,eb,hb⟩,hk,hl,hs⟩:=zk9 h;have h1:=zb0 (a:=a) (b:=b) (by omega) (by omega);have h2:=zxq hk;have h3:=znt hs;unfold zho;rw[yc0 (by omega:(i:Int)<(l.length:Int)),yb0,zq hi,yb0,toNat_cast,qo hi,hx,ea,eb,zlp (by omega) (by omega),ya0];rw[show gs0.length=6 from rfl,in6 hk,yb0,show gs0.getD x.1.toNat []=zdo x.1 from rfl];dsimp only;rw[yc0 (by omega),yb0,yc0 (by simp only[ye0,yf0,yp0];omega),yb0,jct _ hl hs,ya0];dsimp only;rw[yc0 (by simp only[ye0,yf0,yp0];omega),yb0,yc0 (by simp only[ye0,yf0,yp0];omega),yb0];unfold ordT newT;rw[ea,eb,toNat_cast,toNat_cast];by_cases h0:0<List.length x.2.2.2.1
 ·rw[yc0 (by omega:(List.length x.2.2.2.1:Int)>0),yb0,yc0 (by simp only[ye0,yf0,yp0];omega),yb0,yx0 h0,ya0]
  dsimp only;rw[wrap64 (by omega) (by omega)];simp only[yj0,Int.natCast_add];rfl
 ·rw[yi0 (by omega:¬(List.length x.2.2.2.1:Int)>0),yd0,yw0 h0,ya0]
  dsimp only;rw[wrap64 (by omega) (by omega)];rw[yt0 (l:=x.2.2.2.1) (by omega)];simp only[yj0,List.flatten_nil,yz0,Int.natCast_add];rfl
theorem zor {x:PV qh}(h:za7 x=true){l:List (PV qh)}{i:Nat}(hi:i<l.length)(hx:l[i]=x)(hll:l.length<=60){o:List UInt8}(ho:o.length<=1300*i):
 zie o l (l.length:Int) (i:Int)=some (.inl (o++ordT x,l,(l.length:Int),((i+1:Nat):Int),())):=by
 obtain⟨⟨a,ea,ha⟩,⟨b,eb,hb⟩,hk,hl,hs⟩:=zk9 h;have h1:=zb0 (a:=a) (b:=b) (by omega) (by omega);have h2:=zxq hk;have h3:=znt hs;unfold zie zqf;rw[yc0 (by omega:(i:Int)<(l.length:Int)),yb0,zq hi,yb0,toNat_cast,qo hi,hx,ea,eb,zlo (by omega) (by omega),ya0,ya0];dsimp only;rw[show([[],[97],[105],[99],[100],[115,47,46,47,47]]:TX)=gs0 from rfl,show List.length gs0=6 from rfl,in6 hk,yb0,show gs0.getD x.1.toNat []=zdo x.1 from rfl];rw[yc0 (by omega),yb0,yc0 (by simp only[ye0,yf0,yp0];omega),yb0,yc0 (by simp only[ye0,yf0,yp0];omega),yb0];unfold ordT newT;rw[ea,eb,toNat_cast,toNat_cast];by_cases h0:0<List.length x.2.2.2.1
 ·rw[yc0 (by omega:(List.length x.2.2.2.1:Int)>0),yb0,jcs _ hl hs,ya0]
  dsimp only;rw[yc0 (by simp only[yf0,yp0];omega),yb0,yc0 (by simp only[ye0,yf0,yp0];omega),yb0,yx0 h0,ya0];dsimp only;rw[wrap64 (by omega) (by omega)];simp only[yj0,Int.natCast_add];rfl
 ·rw[yi0 (by omega:¬(List.length x.2.2.2.1:Int)>0),yd0,yw0 h0,ya0]
  dsimp only;rw[wrap64 (by omega) (by omega)];simp only[yj0,yz0,Int.natCast_add];rfl
def zba (l:List (PV qh)):List UInt8:=l.flatMap ordT
theorem zs4 {l:List (PV qh)}(h:zbg l=true):l.length<=60/\∀x∈l,za7 x=true:=by
 unfold zbg at h;rw[yh0,yr0,yj1] at h;exact⟨h.1,λx hx=>by simpa using List.any_eq_false.1 h.2 x hx⟩
theorem zyb {l:List (PV qh)}(h:zbg l=true):zuh ([],l,(l.length:Int),0,())=some (zba l,()):=by
 obtain⟨hl,hg⟩:=zs4 h
 have hF:=zb2 (B:=λd=>zho d.1 d.2.1 d.2.2.1 d.2.2.2.1) l (λ(o:List UInt8) x=>o++ordT x) (λo i=>(o,l,(l.length:Int),(i:Int),())) (λo=>(o,())) (λi o=>o.length<=1300*i)
  (λi hi o hI=>by
    have hx:=hg _ (ym1 hi);have:=qei hx;exact⟨by rw[ye0];omega,zoq hx hi rfl hl hI⟩)
  (λo hI=>by
    show zho o l l.length l.length=_;unfold zho;rw[yi0 (yi1 _),yd0]) [] (ye1 _)
 rw[show zuh ([],l,(l.length:Int),0,())=_ from hF.1,zct];rfl
theorem zyc {l:List (PV qh)}(h:zbg l=true):zva ([],l,(l.length:Int),0,())=some (zba l,()):=by
 obtain⟨hl,hg⟩:=zs4 h
 have hF:=zb2 (B:=λd=>zie d.1 d.2.1 d.2.2.1 d.2.2.2.1) l (λ(o:List UInt8) x=>o++ordT x) (λo i=>(o,l,(l.length:Int),(i:Int),())) (λo=>(o,())) (λi o=>o.length<=1300*i)
  (λi hi o hI=>by
    have hx:=hg _ (ym1 hi);have:=qei hx;exact⟨by rw[ye0];omega,zor hx hi rfl hl hI⟩)
  (λo hI=>by
    show zie o l l.length l.length=_;unfold zie;rw[yi0 (yi1 _),yd0]) [] (ye1 _)
 rw[show zva ([],l,(l.length:Int),0,())=_ from hF.1,zct];rfl
def oOk (l:List (PV qh)):Bool:=zbg l&&decide ((zba l).length<=3000)
def oR (l:List (PV qh)):List UInt8:=if oOk l=true then zba l else[]
theorem zyw {l:List (PV qh)}(hs:tot zn l<=4611686018427387904):zpk l=some ((oR l,oOk l,()),()):=by
 unfold zpk oR oOk zix;rw[q9q l hs,ya0];dsimp only;cases hg:zbg l
 ·rfl
 ·rw[ys0,yd0,zyb hg,ya0]
  dsimp only;by_cases h:(zba l).length<=3000
  ·rw[yi0 (by omega:¬((zba l).length:Int)>3000),yc0 h];rfl
  ·rw[yc0 (by omega:((zba l).length:Int)>3000),yi0 h];rfl
end R.O
end

section
/- Orders, read: the leaves on both sides. -/
open Go Go.Dn
namespace R.O.V
theorem zog (s:List UInt8)(h1:1<=s.length)(hs:s.length<=100000):zgo s=some ((qp s,()),()):=by
 unfold zgo qp;rw[zhb s h1 (by omega),ya0];dsimp only;cases h:endP s
 ·rfl
 ·rw[yb0,yb0,wrap64 (by omega) (by omega),show(s.length:Int) -1=((s.length -1:Nat):Int) by omega]
  rw[show cutB 0 ((s.length -1:Nat):Int) s.length=true from by unfold cutB;simp,yb0];unfold cutL;simp
theorem znu (s:List UInt8):(qp s).length<=s.length:=by
 unfold qp;cases endP s
 ·exact ym0 _
 ·rw[yb0,yr1];omega
theorem zv7 (t:List UInt8):qp (t++[10])=t:=by
 unfold qp endP;simp
def sg5:List UInt8:=[97,105,99,100,115]
def dotL:List UInt8:=[46,10]
theorem zsi (ch:List UInt8):∀l:List UInt8,Lib.indexAny l ch= -1\/(0<=Lib.indexAny l ch/\Lib.indexAny l ch<(l.length:Int))
 |[]=>.inl rfl
 |b::l=>by
  have ih:=zsi ch l;unfold Lib.indexAny;split
  ·right;simp only[yf0];omega
  ·split
   ·left;rfl
   ·rename_i h
    rcases ih with ih|ih
    ·rw[ih] at h;exact absurd rfl h
    ·right;simp only[yf0];omega
theorem zyd {ch:List UInt8}{c:UInt8}(r:List UInt8)(hc:ch.contains c=true):∀{p:List UInt8},(∀b∈p,ch.contains b=false)->Lib.indexAny (p++c::r) ch=(p.length:Int)
 |[],_=>by
  show Lib.indexAny (c::r) ch=0;unfold Lib.indexAny;rw[yx0 hc]
 |b::p,h=>by
  have ih:=zyd (p:=p) r hc λx hx=>h x (yg0 _ hx);show Lib.indexAny (b::(p++c::r)) ch=_;unfold Lib.indexAny;rw[h b (yk0 ..),ih];have:¬((p.length:Int)==-1)=true:=by simp
  rw[yw0 (by simp),yw0 this,yf0];omega
theorem zza (s:List UInt8)(hs:s.length<=100000):zhl s [97,105,99,100,115]=some ((Lib.indexAny s sg5,()),()):=by
 unfold zhl zni;rw[yc0 (by omega:s.length<=4000000000)];rfl
def idx (xs:TX)(u:List UInt8):Int:=if xs.any (u==·)=true then(xs.findIdx (u==·):Nat) else -1
theorem jbp (xs:TX)(u:List UInt8):idx xs u= -1\/(0<=idx xs u/\idx xs u<(xs.length:Int)):=by
 unfold idx;split
 ·rename_i h
  right;have hlt:xs.findIdx (u==·)<xs.length:=List.findIdx_lt_length.2 (by simpa using h);omega
 ·exact .inl rfl
theorem jcu {xs:TX}{u:List UInt8}(r:TX)(h:∀x∈xs,x≠u):idx (xs++u::r) u=(xs.length:Int):=by
 unfold idx;rw[yx0 (by simp),List.findIdx_append,List.findIdx_cons]
 have:xs.findIdx (u==·)=xs.length:=by
  rw[List.findIdx_eq_length];intro x hx;exact yo0.2 λe=>h x hx e.symm
 rw[this];simp
theorem qfx (xs:TX)(u:List UInt8)(hx:xs.length<=100000):zl4 xs u=some ((idx xs u,()),()):=by
 have hF:=zck (B:=λd=>zey d.1 d.2.1 d.2.2.1 d.2.2.2.1) xs (u==·) (λi=>(xs,u,(xs.length:Int),(i:Int),())) (λi=>.inr ((i:Int),())) (.inl ())
  (λi hi hq=>by
    show zey xs u xs.length i=_;unfold zey;rw[yc0 (by omega:(i:Int)<(xs.length:Int)),yb0,zq hi,yb0,toNat_cast,qo hi,hq,yd0,wrap64 (by omega) (by omega)];rfl)
  (λi hi hq=>by
    show zey xs u xs.length i=_;unfold zey;rw[yc0 (by omega:(i:Int)<(xs.length:Int)),yb0,zq hi,yb0,toNat_cast,qo hi,hq,yb0])
  (by
    show zey xs u xs.length xs.length=_;unfold zey;rw[yi0 (yi1 _),yd0])
 unfold zl4;rw[show zzm (xs,u,(xs.length:Int),0,())=_ from hF,ya0];unfold idx;by_cases h:(List.any xs λx=>u==x)=true
 ·rw[yx0 h,yx0 h]
 ·rw[yw0 h,yw0 h]
theorem zen {n j:Nat}(h:j<=n):cutB (j:Int) (n:Int) n=true:=by unfold cutB;simp;omega
theorem zi0 {n j:Nat}(h:j<=n):cutB 0 (j:Int) n=true:=by unfold cutB;simp;omega
theorem zeo {α:Type}(j:Nat)(l:List α):cutL (j:Int) (l.length:Int) l=l.drop j:=by unfold cutL;rw[toNat_cast,toNat_cast,List.take_length]
theorem znv {α:Type}(j:Nat)(l:List α):cutL 0 (j:Int) l=l.take j:=by unfold cutL;rw[toNat_cast];rfl
end R.O.V
end

section
/- Orders, read: one order of a text, on both sides, whatever the lines are. -/
open Go Go.Dn
namespace R.O.V
abbrev OR:=List (PV qh)
def zjm (l0:List UInt8):Option (Int×Nat×Nat):=
 if Lib.indexAny (qp l0) sg5<0 then none else
  match twoN ((qp l0).take (Lib.indexAny (qp l0) sg5).toNat) with
  |none=>none
  |some (n,m,_)=>if idx gs0 ((qp l0).drop (Lib.indexAny (qp l0) sg5).toNat)<1 then none else some (idx gs0 ((qp l0).drop (Lib.indexAny (qp l0) sg5).toNat),n,m)
abbrev RI:=(PV zf×PV zn×Unit)⊕((PV zn×Unit)⊕(PV zn×PV .bool×Unit))
def zd9:Option RI:=some (.inr (.inr ([],false,())))
def zo3 (l0:List UInt8)(t:TX)(out:OR):Option RI:=
 if out.length=60 then zd9 else
  match zjm l0 with
  |none=>zd9
  |some (k,n,m)=>
   if k<=3 then(if idx t dotL<0 then zd9 else some (.inl (t.drop ((idx t dotL).toNat+1),out++[(k,(n:Int),(m:Int),t.take (idx t dotL).toNat,())],())))
   else some (.inl (t,out++[(k,(n:Int),(m:Int),[],())],()))
theorem zoq (l0:List UInt8)(t:TX)(out:OR)(h0:l0.length<=3000)(hn:t.length<=3000)(ho:out.length<=60):zea (l0::t) out=zo3 l0 t out:=by
 have hpl:=znu l0;unfold zea zo3;rw[yc0 (by simp only[yf0];omega:(((l0::t).length:Nat):Int)>0),yb0,show inB 0 (l0::t).length=true from zq (i:=0) (by simp),yb0,show(l0::t).getD ((0:Int).toNat) []=l0 from rfl,zoe l0 (by omega),ya0];dsimp only;rw[zak,yb0,zza _ (by omega),ya0];dsimp only;rw[drop_one];rcases zsi sg5 (qp l0) with hi|⟨hi1,hi2⟩
 ·rw[hi]
  have:zjm l0=none:=by unfold zjm;rw[hi];rfl
  rw[this];dsimp only;split<;>rfl
 ·obtain⟨j,hj⟩:∃j:Nat,Lib.indexAny (qp l0) sg5=(j:Int):=⟨_,(yz2 hi1).symm⟩
  rw[hj] at hi2 ⊢;have hjl:j<=(qp l0).length:=by omega
  rw[yi0 (by omega:¬(j:Int)<0),yd0,ya0];dsimp only;by_cases h60:out.length=60
  ·rw[yx0 h60,show((out.length:Int)==60)=true from by rw[h60];rfl]
   rfl
  ·rw[yw0 h60,show((out.length:Int)==60)=false from yo0.2 (by omega),yd0,zen hjl,yb0,zeo,qfx gs0 _ (by decide),ya0]
   dsimp only;rw[zi0 hjl,yb0,znv];unfold zjm;rw[hj,yw0 (by omega:¬(j:Int)<0),toNat_cast];rcases znk ((qp l0).take j) (by rw[yr1];omega) with⟨n,m,b,h1,h2⟩|⟨h1,n,m,b,h2⟩
   ·rw[h1,h2,ya0]
    dsimp only;rw[ys0,yd0,ya0];dsimp only;by_cases hk:idx gs0 ((qp l0).drop j)<1
    ·rw[yx0 hk,yc0 hk]
     rfl
    ·rw[yw0 hk,yi0 hk,yd0]
     dsimp only;have hr:∀x:List (PV .str),qw (out.length+[((idx gs0 ((qp l0).drop j),((n:Int),((m:Int),(x,())))):PV qh)].length)=true:=λx=>jr (by simp only[yf0,yp0];omega);by_cases hk3:idx gs0 ((qp l0).drop j)<=3
     ·rw[yx0 hk3,yc0 hk3,yb0,show([46,10]:List UInt8)=dotL from rfl,qfx t dotL (by omega),ya0]
      dsimp only;rcases jbp t dotL with he|⟨he1,he2⟩
      ·rw[he]
       rfl
      ·obtain⟨e,hee⟩:∃e:Nat,idx t dotL=(e:Int):=⟨_,(yz2 he1).symm⟩
       rw[hee] at he2 ⊢;have hel:e+1<=t.length:=by omega
       rw[yw0 (by omega:¬(e:Int)<0),yi0 (by omega:¬(e:Int)<0),yd0,zi0 (by omega),yb0,znv];unfold zt4;rw[jr (by rw[yr1];simp only[yp0];omega),yb0,ya0];dsimp only;rw[wrap64 (by omega) (by omega),show(e:Int)+1=((e+1:Nat):Int) by omega,zen hel,yb0,zeo,ya0];dsimp only;rw[yp1,hr,yb0,toNat_cast]
     ·rw[yw0 hk3,yi0 hk3,yd0,ya0]
      dsimp only;rw[hr,yb0]
   ·rw[h1,h2]
    rfl
def zbq (l0:List UInt8):Int×Int×Int×Bool:=
 (kdS gs0 ((qp l0).dropWhile hdB) 6,(endR 0 ((qp l0).takeWhile hdB)).1,(endR 0 ((qp l0).takeWhile hdB)).2.1,(endR 0 ((qp l0).takeWhile hdB)).2.2.1&&decide (0<kdS gs0 ((qp l0).dropWhile hdB) 6))
theorem zoo (s:List UInt8)(hs:s.length<=3000):zq5 (qp s)=some ((((zbq s).1,((zbq s).2.1,((zbq s).2.2.1,([],())))),(zbq s).2.2.2,()),()):=by
 have:=znu s;have h2:=zyq (qp s);unfold zq5 zoz;rw[yc0 (by omega:(qp s).length<=100000),yb0,zqs _ (by omega),ya0];rfl
def nd (x:List UInt8):Bool:= !(x==dotL)
abbrev RS:=(PV .str×PV zf×PV zn×Unit)⊕((PV .str×PV zn×Unit)⊕(PV zn×PV (.int .i64)×PV .bool×Unit))
def ztw:Option RS:=some (.inr (.inr ([],1,false,())))
def stepS (s l0:List UInt8)(t:TX)(out:OR):Option RS:=
 if (zbq l0).2.2.2=false then ztw
 else if (zbq l0).1<=3 then
  (if (t.dropWhile nd).length=0 then ztw else some (.inl (s,(t.dropWhile nd).drop 1,out++[((zbq l0).1,(zbq l0).2.1,(zbq l0).2.2.1,t.takeWhile nd,())],())))
 else some (.inl (s,t,out++[((zbq l0).1,(zbq l0).2.1,(zbq l0).2.2.1,[],())],()))
theorem qgl (s:List UInt8)(out:OR)(k n m:Int):∀(t a:TX),a.length+t.length<=3000->z0q (s,t,out,(k,(n,(m,(a,())))),())=some (s,t.dropWhile nd,out,(k,(n,(m,(a++t.takeWhile nd,())))),())
 |[],a,_=>by
  refine jg (B:=λd=>zdq d.1 d.2.1 d.2.2.1 d.2.2.2.1) ?_;show zdq s [] out _=_;unfold zdq;rw[List.dropWhile_nil,List.takeWhile_nil,yz0];rfl
 |x::t,a,h=>by
  simp only[yf0] at h;have hd:decide ((((x::t).length:Nat):Int)>0)=true:=yc0 (by simp only[yf0];omega);have hi:inB 0 (x::t).length=true:=zq (i:=0) (by simp);cases hx:x==dotL
  ·have hg:zdq s (x::t) out (k,(n,(m,(a,()))))=some (.inl (s,t,out,(k,(n,(m,(a++[x],())))),())):=by
    unfold zdq;rw[hd,yb0,hi,yb0,show(x::t).getD ((0:Int).toNat) []=x from rfl,show(x==[46,10])=false from hx,yb1,yb0,yb0];dsimp only;rw[jr (by simp only[yf0,yp0];omega),yb0,zak,yb0,drop_one]
   have:=qgl s out k n m t (a++[x]) (by rw[ye0];simp only[yf0,yp0];omega);refine Eq.trans (zae (B:=λd=>zdq d.1 d.2.1 d.2.2.1 d.2.2.2.1) (s:=(s,x::t,out,(k,(n,(m,(a,())))),())) hg) (Eq.trans this ?_);rw[List.dropWhile_cons,List.takeWhile_cons,show nd x=true from by unfold nd;rw[hx];rfl,yx0 rfl,yx0 rfl,yj0];rfl
  ·refine jg (B:=λd=>zdq d.1 d.2.1 d.2.2.1 d.2.2.2.1) ?_
   show zdq s (x::t) out _=_;unfold zdq;rw[hd,yb0,hi,yb0,show(x::t).getD ((0:Int).toNat) []=x from rfl,show(x==[46,10])=true from hx,ys0,yd0];rw[List.dropWhile_cons,List.takeWhile_cons,show nd x=false from by unfold nd;rw[hx];rfl];simp
theorem zor (s l0:List UInt8)(t:TX)(out:OR)(h1:1<=l0.length)(h0:l0.length<=3000)(hn:t.length<=3000)(ho:out.length<=3000):zfb s (l0::t) out=stepS s l0 t out:=by
 unfold zfb stepS;rw[yc0 (by simp only[yf0];omega:(((l0::t).length:Nat):Int)>0),yb0,show inB 0 (l0::t).length=true from zq (i:=0) (by simp),yb0,show(l0::t).getD ((0:Int).toNat) []=l0 from rfl,zog l0 h1 (by omega),ya0];dsimp only;rw[zoo l0 h0,ya0];dsimp only;cases hq:(zbq l0).2.2.2
 ·rw[yx0 rfl];rfl
 ·rw[yw0 (by simp),ys0,yd0,zak,yb0,drop_one]
  have hr:∀x:PV qh,qw (out.length+[x].length)=true:=λx=>jr (by simp only[yf0,yp0];omega);by_cases hk:(zbq l0).1<=3
  ·rw[yx0 hk,yc0 hk,yb0,qgl s out _ _ _ t [] (by simp only[yp0];omega),ya0]
   dsimp only;have hdl:(t.dropWhile nd).length<=t.length:=(List.dropWhile_sublist (l:=t) nd).length_le;by_cases hz:(t.dropWhile nd).length=0
   ·rw[yx0 hz,show(((t.dropWhile nd).length:Int)==0)=true from by rw[hz];rfl]
    rfl
   ·rw[yw0 hz,show(((t.dropWhile nd).length:Int)==0)=false from yo0.2 (by omega),yd0]
    rw[show cutB 1 ((t.dropWhile nd).length:Int) (t.dropWhile nd).length=true from zen (j:=1) (by omega),yb0,show cutL 1 ((t.dropWhile nd).length:Int) (t.dropWhile nd)=(t.dropWhile nd).drop 1 from zeo 1 _,ya0];dsimp only;rw[hr,yb0,yp1]
  ·rw[yw0 hk,yi0 hk,yd0,ya0]
   dsimp only;rw[hr,yb0]
end R.O.V
end

section
/- Orders, read: both readers end, whatever the lines are. -/
open Go Go.Dn
namespace R.O.V
def OW (x:PV qh):Prop:=List.length x.2.2.2.1<=3000/\∀l∈(x.2.2.2.1:TX),l.length<=3000
theorem zlt {e:TypeId}{t:Ty}{c:Nat}:∀{l:List (PV t)},(∀x∈l,tot t x<=c)->tot (.slice e t) l<=(c+1)*l.length:=by
 intro l h;have:tot (.slice e t) l=l.length+(l.map (tot t)).sum:=zcr;rw[this]
 have hs:(l.map (tot t)).sum<=c*l.length:=by
  clear this
  induction l with
  |nil=>simp
  |cons x l ih=>
   have h1:=h x (yk0 ..);have h2:=ih λy hy=>h y (yg0 _ hy);rw[List.map_cons,List.sum_cons,yf0,Nat.mul_add];omega
 rw[Nat.add_mul,Nat.one_mul];omega
theorem OW.tot {gs:OR}(hl:gs.length<=3000)(h:∀x∈gs,OW x):tot zn gs<=4611686018427387904:=by
 have hx:∀x∈gs,Go.Dn.tot qh x<=10000000:=λx hx=>by
  obtain⟨h1,h2⟩:=h x hx
  have h3:Go.Dn.tot zf x.2.2.2.1<=(3000+1)*List.length x.2.2.2.1:=zlt λs hs=>by
   have:=h2 s hs;rw[zn9];exact this
  simp only[Go.Dn.tot] at h3 ⊢;omega
 have h5:Go.Dn.tot zn gs<=(10000000+1)*gs.length:=zlt hx;omega
noncomputable abbrev BI (d:PV zf×PV zn×Unit):=zea d.1 d.2.1
theorem go_I {ls:TX}{out:OR}{d r}(h:zea ls out=some (.inl d))(h2:zdr d=some r):zdr (ls,out,())=some r:=Eq.trans (zae (B:=BI) (s:=(ls,out,())) (t:=d) h) h2
theorem zdn {ls:TX}{out:OR}{r}(h:zea ls out=some (.inr r)):zdr (ls,out,())=some r:=jg (B:=BI) (s:=(ls,out,())) h
theorem zzb:∀(n:Nat) (ls:TX) (out:OR),ls.length<=n->ls.length<=3000->(∀l∈ls,l.length<=3000)->out.length<=60->(∀x∈out,OW x)->
 ∃gs:OR,gs.length<=60/\(∀x∈gs,OW x)/\(zdr (ls,out,())=some (.inl (gs,()))\/zdr (ls,out,())=some (.inr (gs,false,()))):=by
 have fail:∀{ls:TX} {out:OR},zea ls out=zd9->∃gs:OR,gs.length<=60/\(∀x∈gs,OW x)/\(zdr (ls,out,())=some (.inl (gs,()))\/zdr (ls,out,())=some (.inr (gs,false,()))):=
  λh=>⟨[],ye1 _,λx hx=>(by cases hx),.inr (zdn h)⟩
 intro n
 induction n with
 |zero=>
  intro ls out h _ _ ho hg;obtain rfl:ls=[]:=yt0 (by omega);exact⟨out,ho,hg,.inl (zdn rfl)⟩
 |succ n ih=>
  intro ls out h h1 hm ho hg;cases ls with
  |nil=>exact⟨out,ho,hg,.inl (zdn rfl)⟩
  |cons l0 t=>
   simp only[yf0] at h h1;have hs:=zoq l0 t out (hm l0 (yk0 ..)) (by omega) ho;have hmt:∀l∈t,l.length<=3000:=λl hl=>hm l (yg0 _ hl)
   have push:∀(x:PV qh) (r:TX),out.length<60->OW x->r.length<=t.length->(∀l∈r,l∈t)->zea (l0::t) out=some (.inl (r,out++[x],()))->
    ∃gs:OR,gs.length<=60/\(∀x∈gs,OW x)/\(zdr (l0::t,out,())=some (.inl (gs,()))\/zdr (l0::t,out,())=some (.inr (gs,false,()))):=by
    intro x r h60 hx hr hmem hb
    obtain⟨gs,q1,q2,q3⟩:=ih r (out++[x]) (by omega) (by omega) (λl hl=>hmt l (hmem l hl)) (by simp;omega) (λy hy=>by
     rcases yu0.1 hy with hy|hy
     ·exact hg y hy
     ·obtain rfl:=yl1.1 hy
      exact hx)
    exact⟨gs,q1,q2,q3.imp (go_I hb) (go_I hb)⟩
   unfold zo3 at hs;by_cases h60:out.length=60
   ·rw[yx0 h60] at hs;exact fail hs
   ·rw[yw0 h60] at hs
    cases hh:zjm l0 with
    |none=>rw[hh] at hs;exact fail hs
    |some q=>
     obtain⟨k,a,b⟩:=q;rw[hh] at hs;dsimp only at hs;by_cases hk:k<=3
     ·rw[yx0 hk] at hs
      by_cases hi:idx t dotL<0
      ·rw[yx0 hi] at hs;exact fail hs
      ·rw[yw0 hi] at hs
       exact push _ _ (by omega) ⟨by show(t.take _).length<=3000;rw[yr1];omega,λl hl=>hmt l (List.mem_of_mem_take hl)⟩ (by rw[yc1];omega) (λl hl=>yb2 hl) hs
     ·rw[yw0 hk] at hs
      exact push _ _ (by omega) ⟨ye1 _,λl hl=>by cases hl⟩ (ym0 _) (λl hl=>hl) hs
theorem zw1 (ls:TX)(h1:ls.length<=3000)(hm:∀l∈ls,l.length<=3000):∃(gs:OR) (q:Bool),zju ls=some ((gs,q,()),())/\tot zn gs<=4611686018427387904:=by
 obtain⟨gs,q1,q2,q3⟩:=zzb ls.length ls [] (ym0 _) h1 hm (ye1 _) (λx hx=>by cases hx);unfold zju;rcases q3 with e|e
 ·rw[e];exact⟨gs,true,rfl,OW.tot (by omega) q2⟩
 ·rw[e];exact⟨gs,false,rfl,OW.tot (by omega) q2⟩
noncomputable abbrev BS (d:PV .str×PV zf×PV zn×Unit):=zfb d.1 d.2.1 d.2.2.1
theorem go_S {s:List UInt8}{ls:TX}{out:OR}{d r}(h:zfb s ls out=some (.inl d))(h2:zds d=some r):zds (s,ls,out,())=some r:=Eq.trans (zae (B:=BS) (s:=(s,ls,out,())) (t:=d) h) h2
theorem zex {s:List UInt8}{ls:TX}{out:OR}{r}(h:zfb s ls out=some (.inr r)):zds (s,ls,out,())=some r:=jg (B:=BS) (s:=(s,ls,out,())) h
theorem zzc (s:List UInt8):∀(n:Nat) (ls:TX) (out:OR),ls.length<=n->out.length+ls.length<=3000->(∀l∈ls,1<=l.length/\l.length<=3000)->(∀x∈out,OW x)->
 (∃gs:OR,gs.length<=3000/\(∀x∈gs,OW x)/\zds (s,ls,out,())=some (.inl (s,gs,())))\/zds (s,ls,out,())=some (.inr ([],1,false,())):=by
 intro n
 induction n with
 |zero=>
  intro ls out h h1 _ hg;obtain rfl:ls=[]:=yt0 (by omega);exact .inl ⟨out,by simpa using h1,hg,zex rfl⟩
 |succ n ih=>
  intro ls out h h1 hm hg;cases ls with
  |nil=>exact .inl ⟨out,by simpa using h1,hg,zex rfl⟩
  |cons l0 t=>
   simp only[yf0] at h h1;have hs:=zor s l0 t out (hm l0 (yk0 ..)).1 (hm l0 (yk0 ..)).2 (by omega) (by omega);have hmt:∀l∈t,1<=l.length/\l.length<=3000:=λl hl=>hm l (yg0 _ hl)
   have push:∀(x:PV qh) (r:TX),OW x->r.length<=t.length->(∀l∈r,l∈t)->zfb s (l0::t) out=some (.inl (s,r,out++[x],()))->
    (∃gs:OR,gs.length<=3000/\(∀x∈gs,OW x)/\zds (s,l0::t,out,())=some (.inl (s,gs,())))\/zds (s,l0::t,out,())=some (.inr ([],1,false,())):=by
    intro x r hx hr hmem hb
    rcases ih r (out++[x]) (by omega) (by simp;omega) (λl hl=>hmt l (hmem l hl)) (λy hy=>by
     rcases yu0.1 hy with hy|hy
     ·exact hg y hy
     ·obtain rfl:=yl1.1 hy
      exact hx) with⟨gs,q1,q2,q3⟩|q3
    ·exact .inl ⟨gs,q1,q2,go_S hb q3⟩
    ·exact .inr (go_S hb q3)
   unfold stepS at hs;by_cases hq:(zbq l0).2.2.2=false
   ·rw[yx0 hq] at hs;exact .inr (zex hs)
   ·rw[yw0 hq] at hs
    by_cases hk:(zbq l0).1<=3
    ·rw[yx0 hk] at hs
     by_cases hz:(t.dropWhile nd).length=0
     ·rw[yx0 hz] at hs;exact .inr (zex hs)
     ·rw[yw0 hz] at hs
      have hdl:(t.dropWhile nd).length<=t.length:=(List.dropWhile_sublist (l:=t) nd).length_le;have htl:(t.takeWhile nd).length<=t.length:=(List.takeWhile_sublist (l:=t) nd).length_le;exact push _ _ ⟨by show(t.takeWhile nd).length<=3000;omega,λl hl=>(hmt l ((List.takeWhile_sublist (l:=t) nd).mem hl)).2⟩ (by rw[yc1];omega) (λl hl=>(List.dropWhile_sublist (l:=t) nd).mem (yb2 hl)) hs
    ·rw[yw0 hk] at hs
     exact push _ _ ⟨ye1 _,λl hl=>by cases hl⟩ (ym0 _) (λl hl=>hl) hs
end R.O.V
end

section
/- Orders, read: what is written of good orders is read back by both; so both sides answer the same. -/
open Go Go.Dn
namespace R.O.V
theorem zxr {x:PV qh}(h:za7 x=true):(1:Int)<=x.1/\(5:Int)>=x.1:=(zk9 h).2.2.1
theorem zq6 {x:PV qh}(h:za7 x=true):(x.2.1:Int)<=(x.2.2.1:Int)/\((3:Int)>=x.1->zdg x.2.2.2.1=true)/\((3:Int)<(x.1:Int)->x.2.2.2.1=([]:TX)):=by
 obtain⟨hk1,hk2⟩:=zxr h;unfold za7 inI at h;simp only[yh0,yr0] at h;obtain⟨⟨_,h1,_⟩,h2⟩:=h;refine⟨h1,λh3=> ?_,λh3=> ?_⟩
 ·have:(1:Int)=x.1\/(2:Int)=x.1\/(3:Int)=x.1:=by omega
  rcases this with e|e|e<;>rw[<-e] at h2<;>simp at h2
  ·exact h2.2
  ·exact h2.2.2
  ·exact h2.2
 ·have:(4:Int)=x.1\/(5:Int)=x.1:=by omega
  have h0:List.length x.2.2.2.1=0:=by
   rcases this with e|e<;>rw[<-e] at h2<;>simp at h2
   ·rw[h2.2];rfl
   ·rw[h2.2.2];rfl
  exact yt0 h0
theorem zse {s:List UInt8}(h1:jl s=true)(h2:endP s=true):isL s:=by
 unfold jl at h1;rw[yh0,yj1] at h1;unfold hasEnd at h1;unfold endP at h2;refine⟨s.take (s.length -1),?_,λhm=> ?_⟩
 ·have:=yr2 (s.length -1) s
  rw[eq_of_beq h2] at this;exact this.symm
 ·have:(s.take (s.length -1)).contains 10=true:=by simpa using hm
  rw[this] at h1;cases h1.2
theorem qej {l:TX}(h:zdg l=true):1<=l.length/\∀s∈l,isL s/\s≠dotL:=by
 unfold zdg inI at h;simp only[yh0,yr0,yj1] at h;refine⟨by omega,λs hs=> ?_⟩;have h1:=List.any_eq_false.1 h.2 s hs;unfold badO at h1;simp only[yq1,yj1,not_or,Bool.not_eq_false,yy0] at h1;exact⟨zse h1.1 h1.2.1,h1.2.2⟩
theorem znz {a b:Nat}(ha:a<10000)(hb:b<10000):∀c∈pairT a b,isDg c=true\/c=44:=by
 intro c hc;unfold pairT at hc;split at hc
 ·exact .inl (zcz (zbs ha).1 c hc)
 ·rcases yu0.1 hc with hc|hc
  ·rcases yu0.1 hc with hc|hc
   ·exact .inl (zcz (zbs ha).1 c hc)
   ·exact .inr (yl1.1 hc)
  ·exact .inl (zcz (zbs hb).1 c hc)
theorem zs5 {c:UInt8}(h:isDg c=true\/c=44):hdB c=true/\sg5.contains c=false/\c≠10:=by
 rcases h with h|rfl
 ·have h':=h
  unfold isDg at h';rw[yh0,yr0,yr0] at h';refine⟨by unfold hdB;rw[yc0 h'.1,yc0 h'.2];rfl,?_,λe=>by rw[e] at h;cases h⟩;have key:∀d:UInt8,isDg d=false->(c==d)=false:=λd hd=>yo0.2 λe=>by rw[e,hd] at h;cases h
  unfold sg5;simp only[List.contains_cons,key 97 rfl,key 105 rfl,key 99 rfl,key 100 rfl,key 115 rfl];rfl
 ·exact⟨rfl,by decide,by decide⟩
theorem zkw {a b:Nat}(ha:a<10000)(hb:b<10000):∃t,twoN (pairT a b)=some (a,b,t):=by
 obtain⟨c1,c2⟩:=zbs ha;obtain⟨c3,c4⟩:=zbs hb;unfold pairT twoN;by_cases h:a=b
 ·rw[yx0 h,zeq (zsc _ ha)]
  dsimp only;rw[yx0 c1,c2,<-h];exact⟨_,rfl⟩
 ·rw[yw0 h,show(dec a++[44])++dec b=dec a++44::dec b from by simp,zd2 _ (zsc _ ha)]
  dsimp only;rw[yx0 ⟨c1,c3⟩,c2,c4];exact⟨_,rfl⟩
theorem zgu {a b:Nat}(hab:a<=b)(hb:b<=1000):endR 0 (pairT a b)=((a:Int),(b:Int),true,()):=by
 obtain⟨t,h⟩:=zkw (a:=a) (b:=b) (by omega) (by omega);unfold endR;rw[h];dsimp only
 have:(decide (a<=1000)&&(decide (b<=1000)&& !(t&&decide (b+0<a))))=true:=by
  rw[yc0 (by omega),yc0 (by omega),yi0 (by omega)];simp
 rw[this];rfl
theorem q7f {k:Int}(h:1<=k/\k<=5):∃c r,zdo k=c::r/\sg5.contains c=true/\hdB c=false/\(10:UInt8)∉zdo k/\idx gs0 (zdo k)=k/\kdS gs0 (zdo k) 6=k:=by
 have:k=1\/k=2\/k=3\/k=4\/k=5:=by omega
 rcases this with rfl|rfl|rfl|rfl|rfl
 ·exact⟨97,[],rfl,by decide,by decide,by decide,by decide,by decide⟩
 ·exact⟨105,[],rfl,by decide,by decide,by decide,by decide,by decide⟩
 ·exact⟨99,[],rfl,by decide,by decide,by decide,by decide,by decide⟩
 ·exact⟨100,[],rfl,by decide,by decide,by decide,by decide,by decide⟩
 ·exact⟨115,[47,46,47,47],rfl,by decide,by decide,by decide,by decide,by decide⟩
theorem qgm {c:UInt8}(r:List UInt8)(hc:hdB c=false):∀{p:List UInt8},(∀b∈p,hdB b=true)->(p++c::r).takeWhile hdB=p/\(p++c::r).dropWhile hdB=c::r
 |[],_=>by
  rw[yp1,List.takeWhile_cons,List.dropWhile_cons,hc];exact⟨rfl,rfl⟩
 |b::p,h=>by
  obtain⟨h1,h2⟩:=qgm (p:=p) r hc λx hx=>h x (yg0 _ hx);rw[yw1,List.takeWhile_cons,List.dropWhile_cons,h b (yk0 ..),yx0 rfl,yx0 rfl,h1,h2];exact⟨rfl,rfl⟩
def hdL (x:PV qh):List UInt8:=(pairT x.2.1.toNat x.2.2.1.toNat++zdo x.1)++[10]
def ordL (x:PV qh):TX:=hdL x::(if 0<List.length x.2.2.2.1 then(x.2.2.2.1:TX)++[dotL] else[])
theorem q7g (x:PV qh):(ordL x).flatten=ordT x:=by
 unfold ordL ordT hdL newT;rw[yd1];by_cases h:0<List.length x.2.2.2.1
 ·rw[yx0 h,yx0 h,yd3]
  rfl
 ·rw[yw0 h,yw0 h]
  rfl
theorem heads {x:PV qh}(h:za7 x=true):isL (hdL x)/\zjm (hdL x)=some (x.1,x.2.1.toNat,x.2.2.1.toNat)/\zbq (hdL x)=(x.1,x.2.1,x.2.2.1,true):=by
 obtain⟨⟨a,ea,ha⟩,⟨b,eb,hb⟩,hk,_,_⟩:=zk9 h;obtain⟨hk1,hk2⟩:=zxr h;obtain⟨hab,_,_⟩:=zq6 h;obtain⟨c,r,hw,c1,c2,c3,c4,c5⟩:=q7f hk;have hch:∀d∈pairT a b,hdB d=true/\sg5.contains d=false/\d≠10:=λd hd=>zs5 (znz (by omega) (by omega) d hd);rw[ea,eb] at hab
 have hpl:qp (hdL x)=pairT a b++zdo x.1:=by
  unfold hdL;rw[zv7,ea,eb,toNat_cast,toNat_cast]
 refine⟨⟨pairT a b++zdo x.1,by unfold hdL;rw[ea,eb,toNat_cast,toNat_cast],λhm=> ?_⟩,?_,?_⟩
 ·rcases yu0.1 hm with hm|hm
  ·exact(hch 10 hm).2.2 rfl
  ·exact c3 hm
 ·have hi:Lib.indexAny (pairT a b++zdo x.1) sg5=((pairT a b).length:Int):=by rw[hw];exact zyd r c1 λd hd=>(hch d hd).2.1
  obtain⟨t,ht⟩:=zkw (a:=a) (b:=b) (by omega) (by omega);unfold zjm;rw[hpl,hi,toNat_cast,yw0 (by omega),ye2,yd2,ht];dsimp only;rw[c4,yw0 (λhh=>by have hh':(1:Int)>x.1:=hh;omega),ea,eb,toNat_cast,toNat_cast]
 ·obtain⟨t1,t2⟩:=qgm r c2 λd hd=>(hch d hd).1
  unfold zbq;rw[hpl,hw,t1,t2,<-hw,c5,zgu (show a<=b by have hab':(a:Int)<=(b:Int):=hab;omega) hb,ea,eb];dsimp only;rw[yc0 (show(0:Int)<(x.1:Int) by omega)];rfl
theorem qgn (r:TX):∀{l:TX},(∀s∈l,s≠dotL)->(l++dotL::r).takeWhile nd=l/\(l++dotL::r).dropWhile nd=dotL::r
 |[],_=>by
  rw[yp1,List.takeWhile_cons,List.dropWhile_cons,show nd dotL=false from rfl];exact⟨rfl,rfl⟩
 |b::p,h=>by
  obtain⟨h1,h2⟩:=qgn (l:=p) r λx hx=>h x (yg0 _ hx);rw[yw1,List.takeWhile_cons,List.dropWhile_cons,show nd b=true from by unfold nd;rw[yo0.2 (h b (yk0 ..))];rfl,yx0 rfl,yx0 rfl,h1,h2];exact⟨rfl,rfl⟩
theorem zr2 (x:PV qh){a b:Nat}(ea:x.2.1=(a:Int))(eb:x.2.2.1=(b:Int)){l:TX}(el:x.2.2.2.1=l):(x.1,(a:Int),(b:Int),l,())=x:=by
 obtain⟨k,n,m,l',u⟩:=x;simp only at ea eb el;rw[<-ea,<-eb,<-el]
theorem zg1 {x:PV qh}(h:za7 x=true)(s:List UInt8)(r:TX)(out:OR)(hm:∀l∈ordL x++r,l.length<=3000)(hn:(ordL x++r).length<=3000):
 (out.length<60->zea (ordL x++r) out=some (.inl (r,out++[x],())))/\(out.length<=60->zfb s (ordL x++r) out=some (.inl (s,r,out++[x],()))):=by
 obtain⟨q1,q2,q3⟩:=heads h;obtain⟨_,f1,f2⟩:=zq6 h;obtain⟨⟨a,ea,ha⟩,⟨b,eb,hb⟩,hk,_,_⟩:=zk9 h;obtain⟨tt,htt,_⟩:=q1;have hl0:1<=(hdL x).length:=by rw[htt];simp
 have e:ordL x++r=hdL x::((if 0<List.length x.2.2.2.1 then(x.2.2.2.1:TX)++[dotL] else[])++r):=by unfold ordL;rw[yw1]
 rw[e] at hm hn ⊢;simp only[yf0] at hn;have hm0:=hm _ (yk0 ..);obtain⟨hk1,hk2⟩:=zxr h;by_cases hk3:x.1<=3
 ·obtain⟨g1,g2⟩:=qej (f1 hk3)
  rw[yx0 (by omega:0<List.length x.2.2.2.1),yj0] at hn ⊢;rw[show[dotL]++r=dotL::r from rfl] at hn ⊢;have hnd:∀s∈(x.2.2.2.1:TX),s≠dotL:=λs hs=>(g2 s hs).2;constructor
  ·intro h60
   rw[zoq _ _ _ hm0 (by omega) (by omega)];unfold zo3;rw[yw0 (by omega),q2];dsimp only;rw[yx0 hk3,jcu r hnd,yw0 (by omega),toNat_cast,ye2,ea,eb,toNat_cast,toNat_cast,zr2 x ea eb rfl];rw[show((x.2.2.2.1:TX)++dotL::r).drop (List.length x.2.2.2.1+1)=r from by rw[<-List.drop_drop,yd2];rfl]
  ·intro h60
   rw[zor s _ _ _ hl0 hm0 (by omega) (by omega)];unfold stepS;obtain⟨n1,n2⟩:=qgn r hnd;rw[q3];dsimp only;rw[yw0 (by simp),yx0 hk3,n1,n2,yw0 (by simp),ea,eb,zr2 x ea eb rfl];rfl
 ·have hnil:=f2 (by have hk3':¬(3:Int)>=x.1:=hk3;omega)
  have h0:List.length x.2.2.2.1=0:=by rw[hnil];rfl
  rw[yw0 (by omega:¬0<List.length x.2.2.2.1),yp1] at hn ⊢;constructor
  ·intro h60
   rw[zoq _ _ _ hm0 (by omega) (by omega)];unfold zo3;rw[yw0 (by omega),q2];dsimp only;rw[yw0 hk3,ea,eb,toNat_cast,toNat_cast,zr2 x ea eb hnil]
  ·intro h60
   rw[zor s _ _ _ hl0 hm0 (by omega) (by omega)];unfold stepS;rw[q3];dsimp only;rw[yw0 (by simp),yw0 hk3,ea,eb,zr2 x ea eb hnil]
end R.O.V
end

section
/- Orders, read: both sides answer the same. -/
open Go Go.Dn
namespace R.O.V
theorem zk0 (x:PV qh)(os:OR):(x::os).flatMap ordL=ordL x++os.flatMap ordL:=yv1
theorem zos:∀(os out:OR),(∀x∈os,za7 x=true)->(out++os).length<=60->(∀l∈os.flatMap ordL,l.length<=3000)->(os.flatMap ordL).length<=3000->
 zdr (os.flatMap ordL,out,())=some (.inl (out++os,()))
 |[],out,_,_,_,_=>by rw[yz0];exact zdn rfl
 |x::os,out,hg,hl,hm,hn=>by
  rw[zk0] at hm hn ⊢;rw[ye0,yf0] at hl;have ih:=zos os (out++[x]) (λy hy=>hg y (yg0 _ hy)) (by simp;omega) (λl hl=>hm l (yq0 _ hl)) (by rw[ye0] at hn;omega);rw[yj0] at ih;exact go_I ((zg1 (hg x (yk0 ..)) [] _ out hm hn).1 (by omega)) ih
theorem zot (s:List UInt8):∀(os out:OR),(∀x∈os,za7 x=true)->(out++os).length<=60->(∀l∈os.flatMap ordL,l.length<=3000)->(os.flatMap ordL).length<=3000->
 zds (s,os.flatMap ordL,out,())=some (.inl (s,out++os,()))
 |[],out,_,_,_,_=>by rw[yz0];exact zex rfl
 |x::os,out,hg,hl,hm,hn=>by
  rw[zk0] at hm hn ⊢;rw[ye0,yf0] at hl;have ih:=zot s os (out++[x]) (λy hy=>hg y (yg0 _ hy)) (by simp;omega) (λl hl=>hm l (yq0 _ hl)) (by rw[ye0] at hn;omega);rw[yj0] at ih;exact go_S ((zg1 (hg x (yk0 ..)) s _ out hm hn).2 (by omega)) ih
theorem jbq:isL dotL:=⟨[46],rfl,by decide⟩
theorem jbr {x:PV qh}(h:za7 x=true):∀l∈ordL x,isL l:=by
 intro l hl;unfold ordL at hl;rcases yg1.1 hl with rfl|hl
 ·exact(heads h).1
 ·by_cases h0:0<List.length x.2.2.2.1
  ·rw[yx0 h0] at hl
   have hk3:(3:Int)>=x.1:=by
    by_cases q:(3:Int)>=x.1
    ·exact q
    ·have:=(zq6 h).2.2 (by omega)
     rw[this] at h0;exact absurd h0 (by simp)
   rcases yu0.1 hl with hl|hl
   ·exact((qej ((zq6 h).2.1 hk3)).2 l hl).1
   ·obtain rfl:=yl1.1 hl
    exact jbq
  ·rw[yw0 h0] at hl;cases hl
theorem zkj {os:OR}(hg:zbg os=true):cutP (zba os)=os.flatMap ordL:=by
 have hL:∀l∈os.flatMap ordL,isL l:=λl hl=>by
  obtain⟨x,hx,hl⟩:=List.mem_flatMap.1 hl;exact jbr ((zs4 hg).2 x hx) l hl
 have flat:∀gs:OR,(gs.flatMap ordL).flatten=zba gs:=by
  intro gs
  induction gs with
  |nil=>rfl
  |cons x gs ih=>
   unfold zba at ih ⊢;rw[yv1,yv1,yd3,ih,q7g]
 rw[<-flat os,zqn hL]
theorem zc0 {os:OR}(hg:zbg os=true)(hl:(zba os).length<=3000)(s:List UInt8):
 zju (cutP (zba os))=some ((os,true,()),())/\zds (s,cutP (zba os),[],())=some (.inl (s,os,())):=by
 obtain⟨h1,h2⟩:=zs4 hg;have hc:=zcx (zba os);have hm:∀l∈cutP (zba os),l.length<=3000:=λl h=>by have:=zd0 h;omega
 rw[zkj hg] at hc hm ⊢;refine⟨?_,zot s os [] h2 (by simpa using h1) hm (by omega)⟩;unfold zju;rw[zos os [] h2 (by simpa using h1) hm (by omega)];rfl
def NoO (s:List UInt8):Prop:=∀gs:OR,zbg gs=true->zba gs=s->s.length<=3000->False
theorem zje (s:List UInt8):∃(gs:OR) (c:Int) (q:Bool),zmf s=some ((gs,c,q,()),())/\
 ((zbg gs=true/\zba gs=s/\s.length<=3000/\c=0/\q=true)\/(NoO s/\gs=[]/\c=1/\q=false)):=by
 unfold zmf;by_cases hs:s.length<=3000
 ·rw[yc0 (by omega:(s.length:Int)<=3000),yb0,zru s (by omega),ya0]
  dsimp only;have hc:=zcx s;obtain⟨gs,q,e,hsm⟩:=zw1 (cutP s) (by omega) (λl h=>by have:=zd0 h;omega);rw[e,ya0];dsimp only;rw[zyw hsm,ya0];dsimp only
  have key:∀gs0,zbg gs0=true->zba gs0=s->gs=gs0/\q=true/\oOk gs=true/\oR gs=s:=λgs0 h1 h2=>by
   have:=(zc0 h1 (by rw[h2];exact hs) s).1;rw[h2,e] at this;have h3:=yl0 this;have h4:=(yk1 h3).1;obtain⟨rfl,h5⟩:=yk1 h4;have h6:=(yk1 h5).1;have h7:oOk gs=true:=by unfold oOk;rw[h1,h2,yc0 hs];rfl
   exact⟨rfl,h6,h7,by unfold oR;rw[yx0 h7,h2]⟩
  by_cases H:q=true/\oOk gs=true/\oR gs=s
  ·obtain⟨h1,h2,h3⟩:=H
   rw[h1,h2,yb0,yb0,h3,ya0];dsimp only;rw[yn1,yb0,ya0];have h2':=h2;unfold oOk at h2';rw[yh0] at h2';refine⟨gs,0,true,rfl,.inl ⟨h2'.1,?_,hs,rfl,rfl⟩⟩;unfold oR at h3;rw[yx0 h2] at h3;exact h3
  ·have hno:NoO s:=λgs0 h1 h2 _=>by
    obtain⟨rfl,h5,h6,h7⟩:=key gs0 h1 h2;exact H ⟨h5,h6,h7⟩
   refine⟨[],1,false,?_,.inr ⟨hno,rfl,rfl,rfl⟩⟩;cases hq:q
   ·rfl
   ·rw[yb0]
    cases ho:oOk gs
    ·rfl
    ·rw[yb0]
     have:(oR gs==s)=false:=by
      rw[yo0];exact λh=>H ⟨hq,ho,h⟩
     rw[this];rfl
 ·rw[yi0 (by omega:¬(s.length:Int)<=3000),yd0,ya0]
  exact⟨[],1,false,rfl,.inr ⟨λ_ _ _ h=>hs h,rfl,rfl,rfl⟩⟩
theorem q9t {l:OR}(h:zbg l=true):zq7 l=some ((zba l,()),()):=by
 unfold zq7;rw[zyc h];rfl
theorem zjf (s:List UInt8):∃(gs:OR) (c:Int) (q:Bool),zmg s=some ((gs,c,q,()),())/\
 ((zbg gs=true/\zba gs=s/\s.length<=3000/\c=0/\q=true)\/(NoO s/\gs=[]/\c=1/\q=false)):=by
 unfold zmg;by_cases hs:s.length<=3000
 ·rw[yi0 (by omega:¬(s.length:Int)>3000),yd0,zsy s (by omega),ya0]
  dsimp only;have hc:=zcx s
  have key:∀gs0,zbg gs0=true->zba gs0=s->zds (s,cutP s,[],())=some (.inl (s,gs0,())):=λgs0 h1 h2=>by
   have:=(zc0 h1 (by rw[h2];exact hs) s).2
   rwa [h2] at this
  rcases zzc s (cutP s).length (cutP s) [] (ym0 _) (by simp;omega) (λl h=>⟨ys2.2 (zi7 h),by have:=zd0 h;omega⟩) (λx hx=>by cases hx) with⟨gs,q1,q2,q3⟩|q3
  ·rw[q3,ya0]
   dsimp only;have hsm:=OW.tot q1 q2;rw[q9p gs hsm,ya0];dsimp only;cases hg:zbg gs
   ·refine⟨[],1,false,rfl,.inr ⟨λgs0 h1 h2 _=> ?_,rfl,rfl,rfl⟩⟩
    have h3:=key gs0 h1 h2;rw[q3] at h3;have:gs=gs0:=(yk1 (yk1 (Sum.inl.inj (yl0 h3))).2).1;rw[this,h1] at hg;cases hg
   ·rw[ys0,yd0,q9t hg,ya0]
    dsimp only;rw[ya0];dsimp only;by_cases ht:zba gs=s
    ·rw[ht,yn1]
     exact⟨gs,0,true,rfl,.inl ⟨hg,ht,hs,rfl,rfl⟩⟩
    ·rw[yo0.2 ht]
     refine⟨[],1,false,rfl,.inr ⟨λgs0 h1 h2 _=> ?_,rfl,rfl,rfl⟩⟩;have h3:=key gs0 h1 h2;rw[q3] at h3;have:gs=gs0:=(yk1 (yk1 (Sum.inl.inj (yl0 h3))).2).1;exact ht (by rw[this];exact h2)
  ·rw[q3,ya0]
   refine⟨[],1,false,rfl,.inr ⟨λgs0 h1 h2 _=> ?_,rfl,rfl,rfl⟩⟩;have h3:=key gs0 h1 h2;rw[q3] at h3;cases h3
 ·rw[yc0 (by omega:(s.length:Int)>3000),yb0]
  exact⟨[],1,false,rfl,.inr ⟨λ_ _ _ h=>hs h,rfl,rfl,rfl⟩⟩
theorem qyv (s:List UInt8):∃(gs:OR) (c:Int) (q:Bool),zmf s=some ((gs,c,q,()),())/\zmg s=some ((gs,c,q,()),())/\(zbg gs=true\/gs=[]):=by
 obtain⟨g1,c1,q1,e1,h1⟩:=zje s;obtain⟨g2,c2,q2,e2,h2⟩:=zjf s;rcases h1 with⟨a1,a2,a3,rfl,rfl⟩|⟨a1,rfl,rfl,rfl⟩
 ·rcases h2 with⟨b1,b2,_,rfl,rfl⟩|⟨b1,_⟩
  ·have r1:=(zc0 a1 (by rw[a2];exact a3) s).1
   have r2:=(zc0 b1 (by rw[b2];exact a3) s).1;rw[a2] at r1;rw[b2,r1] at r2;have:g1=g2:=(yk1 (yk1 (yl0 r2)).1).1;subst this;exact⟨g1,0,true,e1,e2,.inl a1⟩
  ·exact(b1 g1 a1 a2 a3).elim
 ·rcases h2 with⟨b1,b2,b3,_⟩|⟨_,rfl,rfl,rfl⟩
  ·exact(a1 g2 b1 b2 b3).elim
  ·exact⟨[],1,false,e1,e2,.inr rfl⟩
end R.O.V
end

section
/- Lines: both sides' tests of lines answer the same. -/
open Go Go.Dn
namespace R.O.V.N
theorem Sm.of {l:List (List UInt8)}{n:Nat}(h:tot (.slice 9 .str) l<=n)(hn:n<=4611686018427387904):Sm l:=by
 refine⟨?_,λs hs=> ?_⟩
 ·have h':=h
  rw[zcr] at h';omega
 ·obtain⟨i,hi,rfl⟩:=yw2.1 hs
  have:=yo1 (zoa (e:=9) (t:=.str) (xs:=l) hi) h;rw[zn9] at this;omega
end R.O.V.N
end

section
/- Steps, read: the leaves on both sides. -/
open Go Go.Dn
namespace R.O.V.N
def sg3:List UInt8:=[97,99,100]
theorem zza (s:List UInt8)(hs:s.length<=100000):zhl s [97,99,100]=some ((Lib.indexAny s sg3,()),()):=by
 unfold zhl zni;rw[yc0 (by omega:s.length<=4000000000)];rfl
end R.O.V.N
end

section
/- Steps, read: ranges written are read back; lines that end. -/
open Go Go.Dn
namespace R.O.V.N
theorem zlt {e:TypeId}{t:Ty}{c:Nat}:∀{l:List (PV t)},(∀x∈l,tot t x<=c)->tot (.slice e t) l<=(c+1)*l.length:=by
 intro l h;have:tot (.slice e t) l=l.length+(l.map (tot t)).sum:=zcr;rw[this]
 have hs:(l.map (tot t)).sum<=c*l.length:=by
  clear this
  induction l with
  |nil=>simp
  |cons x l ih=>
   have h1:=h x (yk0 ..);have h2:=ih λy hy=>h y (yg0 _ hy);rw[List.map_cons,List.sum_cons,yf0,Nat.mul_add];omega
 rw[Nat.add_mul,Nat.one_mul];omega
end R.O.V.N
end

section
/- Steps: what is good, how it is written, and the lines of what is written. -/
open Go Go.Dn
namespace R.O.V.N
abbrev SR:=List (PV zu)
def zco (a b:Int)(l:TX):Bool:=inI a 0 1000&&(inI b 0 1000&&(zb6 l&&(if l.length=0 then b==a else decide (a>=1)&&(b -a+1==(l.length:Int)))))
def zat (x:PV zu):Bool:=zco x.1 x.2.1 x.2.2.1&&(zco x.2.2.2.1 x.2.2.2.2.1 x.2.2.2.2.2.1&&decide (0<List.length x.2.2.1+List.length x.2.2.2.2.2.1))
def za9 (l:SR):Bool:=decide (l.length<=20)&& !(l.any λx=> !zat x)
def qj:List UInt8:=[92,32,110,111,110,101,10]
def ltL:List UInt8:=[60,32]
def gtL:List UInt8:=[62,32]
def midL:List UInt8:=[45,45,45,10]
def zan (g s:List UInt8):List UInt8:=if endP s=true then g++s else((g++s)++[10])++qj
def allT (g:List UInt8)(l:TX):List UInt8:=l.flatMap (zan g)
def zac (x:PV zu):UInt8:=if List.length x.2.2.1=0 then 97 else if List.length x.2.2.2.2.2.1=0 then 100 else 99
def midT (x:PV zu):List UInt8:=if List.length x.2.2.1=0 then[] else if List.length x.2.2.2.2.2.1=0 then[] else midL
def zav (x:PV zu):List UInt8:=((pairT x.1.toNat x.2.1.toNat++[zac x])++pairT x.2.2.2.1.toNat x.2.2.2.2.1.toNat)++[10]
def stepT (x:PV zu):List UInt8:=((zav x++allT ltL x.2.2.1)++midT x)++allT gtL x.2.2.2.2.2.1
def za3 (l:SR):List UInt8:=l.flatMap stepT
def zdp:TX->Prop
 |[]=>True
 |[_]=>True
 |s::t::r=>endP s=true/\zdp (t::r)
theorem qek:∀{l:TX},(∀i,i+1<l.length->endP (l.getD i [])=true)->zdp l
 |[],_=>trivial
 |[_],_=>trivial
 |s::t::r,h=>⟨h 0 (by simp),qek λi hi=>by
   have:=h (i+1) (by simp only[yf0] at hi ⊢;omega);simpa using this⟩
theorem zq8 {l:TX}(h:zb6 l=true):l.length<=40/\(∀s∈l,jl s=true)/\zdp l:=by
 unfold zb6 zln zts at h;simp only[yh0,yr0,yj1] at h;refine⟨h.1.1,λs hs=> ?_,qek λi hi=> ?_⟩
 ·have:=List.any_eq_false.1 h.1.2 s hs
  simpa using this
 ·cases he:endP (l.getD i []) with
  |true=>rfl
  |false=>
   have:anyN l.length (λk=>decide ((k:Int)<(l.length:Int) -1)&& !(endP (l.getD k [])))=true:=zf3.2 ⟨i,by omega,by rw[he,yc0 (by omega)];rfl⟩;rw[h.2] at this;cases this
theorem zli {a b:Int}{l:TX}(h:zco a b l=true):∃n m:Nat,a=(n:Int)/\b=(m:Int)/\n<=m/\m<=1000/\zb6 l=true:=by
 unfold zco inI at h;simp only[yh0,yr0] at h;obtain⟨⟨h1,h2⟩,⟨h3,h4⟩,h5,h6⟩:=h;refine⟨a.toNat,b.toNat,(yz2 h1).symm,(yz2 h3).symm,?_,by omega,h5⟩;by_cases h0:l.length=0
 ·rw[yx0 h0,yy0] at h6
  omega
 ·rw[yw0 h0,yh0,yr0,yy0] at h6
  omega
theorem step_ok {x:PV zu}(h:zat x=true):zco x.1 x.2.1 x.2.2.1=true/\zco x.2.2.2.1 x.2.2.2.2.1 x.2.2.2.2.2.1=true/\0<List.length x.2.2.1+List.length x.2.2.2.2.2.1:=by
 unfold zat at h;rw[yh0,yh0,yr0] at h;exact⟨h.1,h.2.1,h.2.2⟩
theorem zn1 {l:SR}(h:za9 l=true):l.length<=20/\∀x∈l,zat x=true:=by
 unfold za9 at h;rw[yh0,yr0,yj1] at h;refine⟨h.1,λx hx=> ?_⟩;have:=List.any_eq_false.1 h.2 x hx;simpa using this
theorem zit {g s:List UInt8}(hg:g.length=2)(h:jl s=true):(zan g s).length<=40:=by
 have:=zca h;unfold zan;split
 ·rw[ye0];omega
 ·simp only[ye0,yf0,yp0,qj];omega
theorem zi3 {g:List UInt8}(hg:g.length=2):∀{l:TX},(∀s∈l,jl s=true)->(allT g l).length<=40*l.length
 |[],_=>ym0 _
 |s::l,h=>by
  have h1:=zit hg (h s (yk0 ..));have h2:=zi3 hg (l:=l) λy hy=>h y (yg0 _ hy);unfold allT at h2 ⊢;rw[yv1,ye0,yf0,Nat.mul_add];omega
theorem zrt {x:PV zu}(h:zat x=true):(zav x).length<=100:=by
 obtain⟨h1,h2,_⟩:=step_ok h;obtain⟨a,b,ea,eb,hab,hb,_⟩:=zli h1;obtain⟨c,d,ec,ed,hcd,hd,_⟩:=zli h2;have h3:=zb0 (a:=a) (b:=b) (by omega) (by omega);have h4:=zb0 (a:=c) (b:=d) (by omega) (by omega);unfold zav;rw[ea,eb,ec,ed,toNat_cast,toNat_cast,toNat_cast,toNat_cast];simp only[ye0,yf0,yp0];omega
theorem qcq {x:PV zu}(h:zat x=true):(stepT x).length<=4000:=by
 obtain⟨h1,h2,_⟩:=step_ok h;obtain⟨_,_,_,_,_,_,g1⟩:=zli h1;obtain⟨_,_,_,_,_,_,g2⟩:=zli h2;obtain⟨l1,m1,_⟩:=zq8 g1;obtain⟨l2,m2,_⟩:=zq8 g2;have a1:=zi3 (g:=ltL) rfl m1;have a2:=zi3 (g:=gtL) rfl m2;have a3:=zrt h
 have a4:(midT x).length<=4:=by
  unfold midT;split
  ·exact ye1 _
  ·split
   ·exact ye1 _
   ·decide
 unfold stepT;simp only[ye0];omega
def zb5 (g s:List UInt8):TX:=if endP s=true then[g++s] else[(g++s)++[10],qj]
def allL (g:List UInt8)(l:TX):TX:=l.flatMap (zb5 g)
def zcp (x:PV zu):TX:=if List.length x.2.2.1=0 then[] else if List.length x.2.2.2.2.2.1=0 then[] else[midL]
def zaz (x:PV zu):TX:=zav x::(allL ltL x.2.2.1++(zcp x++allL gtL x.2.2.2.2.2.1))
theorem qyw (g s:List UInt8):(zb5 g s).flatten=zan g s:=by
 unfold zb5 zan;split
 ·simp
 ·simp
theorem zw2 (g:List UInt8):∀l:TX,(allL g l).flatten=allT g l
 |[]=>rfl
 |s::l=>by
  have:=zw2 g l;unfold allL allT at this ⊢;rw[yv1,yv1,yd3,this,qyw]
theorem q3p (x:PV zu):(zaz x).flatten=stepT x:=by
 unfold zaz stepT;rw[yd1,yd3,yd3,zw2,zw2]
 have:(zcp x).flatten=midT x:=by
  unfold zcp midT;split
  ·rfl
  ·split
   ·rfl
   ·simp
 rw[this];simp only[yj0]
theorem qas:∀l:SR,(l.flatMap zaz).flatten=za3 l
 |[]=>rfl
 |x::l=>by
  have:=qas l;unfold za3 at this ⊢;rw[yv1,yv1,yd3,this,q3p]
theorem zwx:isL qj:=⟨[92,32,110,111,110,101],rfl,by decide⟩
theorem q9u:isL midL:=⟨[45,45,45],rfl,by decide⟩
theorem jcv {s:List UInt8}(h1:jl s=true)(h2:endP s=false):(10:UInt8)∉s:=by
 intro hm;have hl:=zca h1;unfold jl at h1;rw[yh0,yj1] at h1;have h3:=h1.2;unfold hasEnd at h3;unfold endP at h2;have hs:=yr2 (s.length -1) s;rw[<-hs] at hm;rcases yu0.1 hm with hm|hm
 ·have:(s.take (s.length -1)).contains 10=true:=by simpa using hm
  rw[this] at h3;cases h3
 ·have hlen:(s.drop (s.length -1)).length=1:=by rw[yc1];omega
  obtain⟨c,hc⟩:=ye3.1 hlen;rw[hc] at hm h2;obtain rfl:=yl1.1 hm;simp at h2
theorem q7h {g s:List UInt8}(hg:(10:UInt8)∉g)(h:jl s=true):∀l∈zb5 g s,isL l:=by
 intro l hl;unfold zb5 at hl;split at hl
 ·rename_i h2
  obtain rfl:=yl1.1 hl;obtain⟨t,rfl,ht⟩:=zse h h2;exact⟨g++t,(yj0 ..).symm,λhm=>by rcases yu0.1 hm with hm|hm;exact hg hm;exact ht hm⟩
 ·rename_i h2
  rcases yg1.1 hl with rfl|hl
  ·exact⟨g++s,rfl,λhm=>by rcases yu0.1 hm with hm|hm;exact hg hm;exact jcv h (by simpa using h2) hm⟩
  ·obtain rfl:=yl1.1 hl
   exact zwx
theorem qfy {g:List UInt8}(hg:(10:UInt8)∉g){l:TX}(h:∀s∈l,jl s=true):∀x∈allL g l,isL x:=by
 intro x hx;obtain⟨s,hs,hx⟩:=List.mem_flatMap.1 hx;exact q7h hg (h s hs) x hx
end R.O.V.N
end

section
/- Steps: both sides test them alike, and write the same. -/
open Go Go.Dn
namespace R.O.V.N
theorem qgo (a b:Int)(l:TX)(hs:Sm l):zna a b l=some ((zco a b l,()),()):=by
 unfold zna zco;rw[in_I,in_I,zvp l hs,ya0,ya0,ya0];dsimp only;have hl:=hs.len;unfold inI;cases h1:(decide (a>=0)&&decide (a<=1000))
 ·rfl
 ·rw[ys0,yd0]
  cases h2:(decide (b>=0)&&decide (b<=1000))
  ·rfl
  ·rw[ys0,yd0]
   simp only[yh0,yr0] at h1 h2;cases h3:zb6 l
   ·rfl
   ·rw[ys0,ya0]
    dsimp only;rw[yd0];by_cases h0:l.length=0
    ·rw[yx0 h0,show((l.length:Int)==0)=true from by rw[h0];rfl,yb0]
     rw[show(a==b)=(b==a) from by rw[Bool.eq_iff_iff,yy0,yy0];exact eq_comm];rfl
    ·rw[yw0 h0,show((l.length:Int)==0)=false from yo0.2 (by omega),yd0,wrap64 (x:=b -a) (by omega) (by omega),wrap64 (x:=b -a+1) (by omega) (by omega)]
     cases decide (a>=1)<;>rfl
theorem qgp (a b:Int)(l:TX)(hs:Sm l):znb a b l=some ((zco a b l,()),()):=by
 unfold znb zco;rw[in_S,in_S,zwn l hs,ya0,ya0,ya0];dsimp only;have hl:=hs.len;unfold inI;cases h1:(decide (a>=0)&&decide (a<=1000))
 ·rfl
 ·rw[ys0,yd0]
  cases h2:(decide (b>=0)&&decide (b<=1000))
  ·rfl
  ·rw[ys0,yd0]
   simp only[yh0,yr0] at h1 h2;cases h3:zb6 l
   ·rfl
   ·rw[ys0,ya0]
    dsimp only;rw[yd0];by_cases h0:l.length=0
    ·rw[yx0 h0,show((l.length:Int)==0)=true from by rw[h0];rfl,yb0]
     rfl
    ·rw[yw0 h0,show((l.length:Int)==0)=false from yo0.2 (by omega),yd0,wrap64 (x:=b -a) (by omega) (by omega),wrap64 (x:=b -a+1) (by omega) (by omega)]
     cases decide (a>=1)<;>rfl
def SmS (x:PV zu):Prop:=Sm x.2.2.1/\Sm x.2.2.2.2.2.1
theorem qfz (x:PV zu)(hs:SmS x)(hl:List.length x.2.2.1+List.length x.2.2.2.2.2.1<=4611686018427387904):zpg x=some ((!zat x,()),()):=by
 unfold zpg zat;rw[qgo _ _ _ hs.1,qgo _ _ _ hs.2,ya0,ya0];dsimp only;cases zco x.1 x.2.1 x.2.2.1
 ·rfl
 ·cases zco x.2.2.2.1 x.2.2.2.2.1 x.2.2.2.2.2.1
  ·rfl
  ·rw[ys0,yd0,yd0,wrap64 (by omega) (by omega)]
   by_cases h:0<List.length x.2.2.1+List.length x.2.2.2.2.2.1
   ·rw[yc0 h,show(((List.length x.2.2.1:Int)+(List.length x.2.2.2.2.2.1:Int))==0)=false from yo0.2 (by omega)];rfl
   ·rw[yi0 h,show(((List.length x.2.2.1:Int)+(List.length x.2.2.2.2.2.1:Int))==0)=true from yy0.2 (by omega)];rfl
theorem qf0 (x:PV zu)(hs:SmS x)(hl:List.length x.2.2.1+List.length x.2.2.2.2.2.1<=4611686018427387904):zq9 x=some ((zat x,()),()):=by
 unfold zq9 zat;rw[qgp _ _ _ hs.1,qgp _ _ _ hs.2,ya0,ya0];dsimp only;cases zco x.1 x.2.1 x.2.2.1
 ·rfl
 ·cases zco x.2.2.2.1 x.2.2.2.2.1 x.2.2.2.2.2.1
  ·rfl
  ·rw[yb0,yb0,wrap64 (by omega) (by omega),yx1,yx1]
   by_cases h:0<List.length x.2.2.1+List.length x.2.2.2.2.2.1
   ·rw[yc0 h,yc0 (by omega)]
   ·rw[yi0 h,yi0 (by omega)]
theorem SmS.at {l:SR}(hs:tot zk l<=4611686018427387904){i:Nat}(hi:i<l.length):SmS l[i]/\List.length l[i].2.2.1+List.length l[i].2.2.2.2.2.1<=4611686018427387904:=by
 have h:=yo1 (zoa (e:=103) (t:=zu) hi) hs;simp only[tot] at h;refine⟨⟨Sm.of (n:=4611686018427387904) ?_ (ym0 _),Sm.of (n:=4611686018427387904) ?_ (ym0 _)⟩,?_⟩
 ·simp only[tot];omega
 ·simp only[tot];omega
 ·omega
theorem jbs (t0:SR)(hs:tot zk t0<=4611686018427387904):zpr t0=some ((za9 t0,()),()):=by
 have hl:t0.length<=4611686018427387904:=yo1 (Nat.le_add_right _ _) (zcr (e:=103) (t:=zu)▸hs);unfold zpr
 rw[show z2c (t0,t0,(t0.length:Int),0,())=_ from zck (B:=λd=>zff d.1 d.2.1 d.2.2.1 d.2.2.2.1) t0 (λx=> !zat x) (λi=>(t0,t0,(t0.length:Int),(i:Int),())) (λ_=>.inr (false,())) (.inl (t0,()))
  (λi hi hq=>by
    show zff t0 t0 t0.length i=_;unfold zff;rw[yc0 (by omega:(i:Int)<(t0.length:Int)),yb0,zq hi,yb0,toNat_cast,qo hi,qf0 _ (SmS.at hs hi).1 (SmS.at hs hi).2,ya0];dsimp only;rw[hq,yd0,wrap64 (by omega) (by omega)];rfl)
  (λi hi hq=>by
    show zff t0 t0 t0.length i=_;unfold zff;rw[yc0 (by omega:(i:Int)<(t0.length:Int)),yb0,zq hi,yb0,toNat_cast,qo hi,qf0 _ (SmS.at hs hi).1 (SmS.at hs hi).2,ya0];dsimp only;rw[hq,yb0])
  (by
    show zff t0 t0 t0.length t0.length=_;unfold zff;rw[yi0 (yi1 _),yd0])]
 unfold za9;cases h:t0.any λx=> !zat x
 ·simp;omega
 ·simp
theorem jbt (t0:SR)(hs:tot zk t0<=4611686018427387904):zps t0=some ((za9 t0,()),()):=by
 unfold zps za9;by_cases hl:t0.length<=20
 ·rw[yc0 (by omega:(t0.length:Int)<=20),yb0,yc0 hl,yx1]
  rw[show zz8 (t0,false,t0,(t0.length:Int),true,true,t0,t0,false,t0,t0,(t0.length:Int),0,())=_ from
   zck (B:=λd=>ze3 d.1 d.2.1 d.2.2.1 d.2.2.2.1 d.2.2.2.2.1 d.2.2.2.2.2.1 d.2.2.2.2.2.2.1 d.2.2.2.2.2.2.2.1 d.2.2.2.2.2.2.2.2.1 d.2.2.2.2.2.2.2.2.2.1 d.2.2.2.2.2.2.2.2.2.2.1 d.2.2.2.2.2.2.2.2.2.2.2.1 d.2.2.2.2.2.2.2.2.2.2.2.2.1) t0 (λx=> !zat x)
   (λi=>(t0,false,t0,(t0.length:Int),true,true,t0,t0,false,t0,t0,(t0.length:Int),(i:Int),())) (λi=>.inr (t0,false,t0,(t0.length:Int),true,true,t0,t0,false,t0,(i:Int),())) (.inl (t0,false,t0,(t0.length:Int),true,true,t0,t0,false,t0,()))
   (λi hi hq=>by
     show ze3 _ _ _ _ _ _ _ _ _ _ t0 t0.length i=_;unfold ze3;rw[yc0 (by omega:(i:Int)<(t0.length:Int)),yb0,zq hi,yb0,toNat_cast,qo hi,qfz _ (SmS.at hs hi).1 (SmS.at hs hi).2,ya0];dsimp only;rw[hq,yd0,wrap64 (by omega) (by omega)];rfl)
   (λi hi hq=>by
     show ze3 _ _ _ _ _ _ _ _ _ _ t0 t0.length i=_;unfold ze3;rw[yc0 (by omega:(i:Int)<(t0.length:Int)),yb0,zq hi,yb0,toNat_cast,qo hi,qfz _ (SmS.at hs hi).1 (SmS.at hs hi).2,ya0];dsimp only;rw[hq,yb0])
   (by
     show ze3 _ _ _ _ _ _ _ _ _ _ t0 t0.length t0.length=_;unfold ze3;rw[yi0 (yi1 _),yd0])]
  cases h:t0.any λx=> !zat x
  ·rfl
  ·simp
 ·rw[yi0 (by omega:¬(t0.length:Int)<=20),yd0,yi0 hl];rfl
end R.O.V.N
end

section
/- Steps: both sides write the same text. -/
open Go Go.Dn
namespace R.O.V.N
theorem qfl {g s:List UInt8}(hg:g.length<=10)(hs:s.length<=4000):zcs g s=some ((zan g s,()),()):=by
 unfold zcs zan;rw[zlm s (by omega),ya0];dsimp only;cases endP s
 ·rw[yd0,yw0 (by simp),yc0 (by omega),yb0]
  rw[yc0 (by simp only[ye0,yf0,yp0];omega),yb0];rw[yc0 (by simp only[ye0,yf0,yp0];omega),yb0];rfl
 ·rw[yb0,yx0 rfl,yc0 (by omega),yb0]
theorem zsx {g s:List UInt8}(hg:g.length<=10)(h1:1<=s.length)(hs:s.length<=4000):zdw g s=some ((zan g s,()),()):=by
 unfold zdw zan;rw[zhb s h1 (by omega),ya0];dsimp only;cases endP s
 ·rw[yd0,yw0 (by simp),yc0 (by omega),yb0]
  rw[yc0 (by simp only[ye0,yf0,yp0];omega),yb0];rw[yj0 (g++s)];rfl
 ·rw[yb0,yx0 rfl,yc0 (by omega),yb0]
theorem qg8 {g:List UInt8}(hg:g.length=2){l:TX}(hl:l.length<=40)(h:∀s∈l,jl s=true):zmt g l=some ((allT g l,()),()):=by
 have hF:=zb2 (B:=λd=>zhw d.1 d.2.1 d.2.2.1 d.2.2.2.1 d.2.2.2.2.1) l (λ(o:List UInt8) s=>o++zan g s) (λo i=>(g,o,l,(l.length:Int),(i:Int),())) (λo=>(o,())) (λi o=>o.length<=40*i)
  (λi hi o hI=>by
    have h0:=h _ (ym1 hi);have h1:=zit hg h0;have h2:=zca h0;refine⟨by rw[ye0];omega,?_⟩;show zhw g o l l.length i=_;unfold zhw;rw[yc0 (by omega:(i:Int)<(l.length:Int)),yb0,zq hi,yb0,toNat_cast,qo hi,qfl (by omega) (by omega),ya0];dsimp only;rw[yc0 (by omega),yb0,wrap64 (by omega) (by omega)];rfl)
  (λo hI=>by
    show zhw g o l l.length l.length=_;unfold zhw;rw[yi0 (yi1 _),yd0]) [] (ye1 _)
 unfold zmt;rw[show z3a (g,[],l,(l.length:Int),0,())=_ from hF.1,zct];rfl
theorem jbu {l:TX}(hl:l.length<=40)(h:∀s∈l,jl s=true)(o:List UInt8)(ho:o.length<=1000000)(x:PV zu)(wd:List UInt8)(P:SR)(n i:Int):
 zuw (o,x,wd,P,n,i,l,(l.length:Int),0,())=some (o++allT ltL l,x,wd,P,n,i,()):=by
 have hF:=zb2 (B:=λd=>zh3 d.1 d.2.1 d.2.2.1 d.2.2.2.1 d.2.2.2.2.1 d.2.2.2.2.2.1 d.2.2.2.2.2.2.1 d.2.2.2.2.2.2.2.1 d.2.2.2.2.2.2.2.2.1) l (λ(o:List UInt8) s=>o++zan ltL s) (λo k=>(o,x,wd,P,n,i,l,(l.length:Int),(k:Int),())) (λo=>(o,x,wd,P,n,i,())) (λk o=>o.length<=1000000+40*k)
  (λk hi o hI=>by
    have h0:=h _ (ym1 hi);have h1:=zit (g:=ltL) rfl h0;have h2:=zca h0;refine⟨by rw[ye0];omega,?_⟩;show zh3 o x wd P n i l l.length k=_;unfold zh3;rw[yc0 (by omega:(k:Int)<(l.length:Int)),yb0,zq hi,yb0,toNat_cast,qo hi,show([60,32]:List UInt8)=ltL from rfl,zsx (g:=ltL) (by decide) (by omega) (by omega),ya0];dsimp only;rw[yc0 (by omega),yb0,wrap64 (by omega) (by omega)];rfl)
  (λo hI=>by
    show zh3 o x wd P n i l l.length l.length=_;unfold zh3;rw[yi0 (yi1 _),yd0]) o (by omega)
 rw[show zuw (o,x,wd,P,n,i,l,(l.length:Int),0,())=_ from hF.1,zct];rfl
theorem jbv {l:TX}(hl:l.length<=40)(h:∀s∈l,jl s=true)(o:List UInt8)(ho:o.length<=1000000)(P:SR)(n i:Int):
 zux (o,P,n,i,l,(l.length:Int),0,())=some (o++allT gtL l,P,n,i,()):=by
 have hF:=zb2 (B:=λd=>zh4 d.1 d.2.1 d.2.2.1 d.2.2.2.1 d.2.2.2.2.1 d.2.2.2.2.2.1 d.2.2.2.2.2.2.1) l (λ(o:List UInt8) s=>o++zan gtL s) (λo k=>(o,P,n,i,l,(l.length:Int),(k:Int),())) (λo=>(o,P,n,i,())) (λk o=>o.length<=1000000+40*k)
  (λk hi o hI=>by
    have h0:=h _ (ym1 hi);have h1:=zit (g:=gtL) rfl h0;have h2:=zca h0;refine⟨by rw[ye0];omega,?_⟩;show zh4 o P n i l l.length k=_;unfold zh4;rw[yc0 (by omega:(k:Int)<(l.length:Int)),yb0,zq hi,yb0,toNat_cast,qo hi,show([62,32]:List UInt8)=gtL from rfl,zsx (g:=gtL) (by decide) (by omega) (by omega),ya0];dsimp only;rw[yc0 (by omega),yb0,wrap64 (by omega) (by omega)];rfl)
  (λo hI=>by
    show zh4 o P n i l l.length l.length=_;unfold zh4;rw[yi0 (yi1 _),yd0]) o (by omega)
 rw[show zux (o,P,n,i,l,(l.length:Int),0,())=_ from hF.1,zct];rfl
theorem qf1 (x:PV zu):(midT x).length<=4:=by
 unfold midT;split
 ·exact ye1 _
 ·split
  ·exact ye1 _
  ·decide
theorem ziw {x:PV zu}(h:zat x=true):∃a b c d:Nat,x.1=(a:Int)/\x.2.1=(b:Int)/\x.2.2.2.1=(c:Int)/\x.2.2.2.2.1=(d:Int)/\a<=b/\b<=1000/\c<=d/\d<=1000/\
 (List.length x.2.2.1<=40/\(∀s∈(x.2.2.1:TX),jl s=true)/\zdp x.2.2.1)/\(List.length x.2.2.2.2.2.1<=40/\(∀s∈(x.2.2.2.2.2.1:TX),jl s=true)/\zdp x.2.2.2.2.2.1)/\0<List.length x.2.2.1+List.length x.2.2.2.2.2.1:=by
 obtain⟨h1,h2,h3⟩:=step_ok h;obtain⟨a,b,ea,eb,hab,hb,g1⟩:=zli h1;obtain⟨c,d,ec,ed,hcd,hd,g2⟩:=zli h2;exact⟨a,b,c,d,ea,eb,ec,ed,hab,hb,hcd,hd,zq8 g1,zq8 g2,h3⟩
theorem q3q {x:PV zu}(h:zat x=true):zpw x=some ((stepT x,()),()):=by
 obtain⟨a,b,c,d,ea,eb,ec,ed,hab,hb,hcd,hd,⟨l1,m1,_⟩,⟨l2,m2,_⟩,_⟩:=ziw h;have p1:=zb0 (a:=a) (b:=b) (by omega) (by omega);have p2:=zb0 (a:=c) (b:=d) (by omega) (by omega);have q1:=zi3 (g:=ltL) rfl m1;have q2:=zi3 (g:=gtL) rfl m2;have q3:=qf1 x
 have key:((bif ((List.length x.2.2.1:Int)==0) then some (x,[97],[],()) else bif ((List.length x.2.2.2.2.2.1:Int)==0) then some (x,[100],[],()) else some (x,[99],[45,45,45,10],())):Option (PV zu×PV .str×PV .str×Unit))=some (x,[zac x],midT x,()):=by
  unfold zac midT;by_cases h1:List.length x.2.2.1=0
  ·rw[yx0 h1,yx0 h1,show((List.length x.2.2.1:Int)==0)=true from by rw[h1];rfl];rfl
  ·rw[yw0 h1,yw0 h1,show((List.length x.2.2.1:Int)==0)=false from yo0.2 (by omega),yd0]
   by_cases h2:List.length x.2.2.2.2.2.1=0
   ·rw[yx0 h2,yx0 h2,show((List.length x.2.2.2.2.2.1:Int)==0)=true from by rw[h2];rfl];rfl
   ·rw[yw0 h2,yw0 h2,show((List.length x.2.2.2.2.2.1:Int)==0)=false from yo0.2 (by omega)];rfl
 unfold zpw;rw[key,ya0];dsimp only;unfold stepT zav;rw[ea,eb,ec,ed,toNat_cast,toNat_cast,toNat_cast,toNat_cast,zlp (by omega) (by omega),ya0];dsimp only;rw[zlp (by omega) (by omega),yc0 (by simp only[yf0,yp0];omega),yb0,ya0];dsimp only;rw[yc0 (by simp only[ye0,yf0,yp0];omega),yb0];rw[yc0 (by simp only[ye0,yf0,yp0];omega),yb0];rw[show([60,32]:List UInt8)=ltL from rfl,show([62,32]:List UInt8)=gtL from rfl,qg8 rfl l1 m1,qg8 rfl l2 m2,ya0];dsimp only;rw[yc0 (by simp only[ye0,yf0,yp0];omega),yb0];rw[yc0 (by simp only[ye0,yf0,yp0];omega),yb0,ya0];dsimp only;rw[yc0 (by simp only[ye0,yf0,yp0];omega),yb0]
theorem q3r {l:SR}(hll:l.length<=20){i:Nat}(hi:i<l.length)(h:zat l[i]=true){o:List UInt8}(ho:o.length<=4000*i):
 zif o l (l.length:Int) (i:Int)=some (.inl (o++stepT l[i],l,(l.length:Int),((i+1:Nat):Int),())):=by
 obtain⟨x,hx⟩:∃x,l[i]=x:=⟨_,rfl⟩;rw[hx] at h ⊢;obtain⟨a,b,c,d,ea,eb,ec,ed,hab,hb,hcd,hd,⟨l1,m1,_⟩,⟨l2,m2,_⟩,_⟩:=ziw h;have p1:=zb0 (a:=a) (b:=b) (by omega) (by omega);have p2:=zb0 (a:=c) (b:=d) (by omega) (by omega);have q1:=zi3 (g:=ltL) rfl m1;have q2:=zi3 (g:=gtL) rfl m2
 have key:((bif ((List.length x.2.2.1:Int)==0) then some (o,x,[97],l,(l.length:Int),(i:Int),()) else bif ((List.length x.2.2.2.2.2.1:Int)==0) then some (o,x,[100],l,(l.length:Int),(i:Int),()) else some (o,x,[99],l,(l.length:Int),(i:Int),())):Option ((PV .str×PV zu×PV .str×PV zk×PV (.int .i64)×PV (.int .i64)×Unit)))=some (o,x,[zac x],l,(l.length:Int),(i:Int),()):=by
  unfold zac;by_cases h1:List.length x.2.2.1=0
  ·rw[yx0 h1,show((List.length x.2.2.1:Int)==0)=true from by rw[h1];rfl];rfl
  ·rw[yw0 h1,show((List.length x.2.2.1:Int)==0)=false from yo0.2 (by omega),yd0]
   by_cases h2:List.length x.2.2.2.2.2.1=0
   ·rw[yx0 h2,show((List.length x.2.2.2.2.2.1:Int)==0)=true from by rw[h2];rfl];rfl
   ·rw[yw0 h2,show((List.length x.2.2.2.2.2.1:Int)==0)=false from yo0.2 (by omega)];rfl
 have hm:∀o':PV .str,o'.length<=500000->((bif (([zac x]:PV .str)==[99]) then bif decide (o'.length+[45,45,45,10].length<=1099511627776) then some ((o'++[45,45,45,10]),x,l,(l.length:Int),(i:Int),()) else none else some (o',x,l,(l.length:Int),(i:Int),())):Option ((PV .str×PV zu×PV zk×PV (.int .i64)×PV (.int .i64)×Unit)))=some (o'++midT x,x,l,(l.length:Int),(i:Int),()):=by
  intro o' ho';unfold zac midT;by_cases h1:List.length x.2.2.1=0
  ·rw[yx0 h1,yx0 h1,yz0];rfl
  ·rw[yw0 h1,yw0 h1]
   by_cases h2:List.length x.2.2.2.2.2.1=0
   ·rw[yx0 h2,yx0 h2,yz0];rfl
   ·rw[yw0 h2,yw0 h2,show(([99]:List UInt8)==[99])=true from rfl,yb0,yc0 (by simp only[yf0,yp0];omega)];rfl
 have q3:=qf1 x;unfold zif;rw[yc0 (by omega:(i:Int)<(l.length:Int)),yb0,zq hi,yb0,toNat_cast,qo hi,hx,key,ya0];dsimp only;unfold stepT zav;rw[ea,eb,ec,ed,toNat_cast,toNat_cast,toNat_cast,toNat_cast,zlo (by omega) (by omega),ya0];dsimp only;rw[zlo (by omega) (by omega),yc0 (by simp only[yf0,yp0];omega),yb0,ya0];dsimp only;rw[yc0 (by simp only[ye0,yf0,yp0];omega),yb0];rw[yc0 (by simp only[ye0,yf0,yp0];omega),yb0];rw[yc0 (by simp only[ye0,yf0,yp0];omega),yb0];rw[jbu l1 m1 _ (by simp only[ye0,yf0,yp0];omega),ya0];dsimp only;rw[hm _ (by simp only[ye0,yf0,yp0];omega),ya0];dsimp only;rw[jbv l2 m2 _ (by simp only[ye0,yf0,yp0];omega),ya0];dsimp only;rw[wrap64 (by omega) (by omega)];simp only[yj0];rfl
theorem zyb {l:SR}(h:za9 l=true):zuk ([],l,(l.length:Int),0,())=some (za3 l,()):=by
 obtain⟨hl,hg⟩:=zn1 h
 have hF:=zb2 (B:=λd=>zhs d.1 d.2.1 d.2.2.1 d.2.2.2.1) l (λ(o:List UInt8) x=>o++stepT x) (λo i=>(o,l,(l.length:Int),(i:Int),())) (λo=>(o,())) (λi o=>o.length<=4000*i)
  (λi hi o hI=>by
    have hx:=hg _ (ym1 hi);have:=qcq hx;refine⟨by rw[ye0];omega,?_⟩;show zhs o l l.length i=_;unfold zhs;rw[yc0 (by omega:(i:Int)<(l.length:Int)),yb0,zq hi,yb0,toNat_cast,qo hi,q3q hx,ya0];dsimp only;rw[yc0 (by omega),yb0,wrap64 (by omega) (by omega)];rfl)
  (λo hI=>by
    show zhs o l l.length l.length=_;unfold zhs;rw[yi0 (yi1 _),yd0]) [] (ye1 _)
 rw[show zuk ([],l,(l.length:Int),0,())=_ from hF.1,zct];rfl
theorem zyc {l:SR}(h:za9 l=true):zvb ([],l,(l.length:Int),0,())=some (za3 l,()):=by
 obtain⟨hl,hg⟩:=zn1 h
 have hF:=zb2 (B:=λd=>zif d.1 d.2.1 d.2.2.1 d.2.2.2.1) l (λ(o:List UInt8) x=>o++stepT x) (λo i=>(o,l,(l.length:Int),(i:Int),())) (λo=>(o,())) (λi o=>o.length<=4000*i)
  (λi hi o hI=>by
    have hx:=hg _ (ym1 hi);have:=qcq hx;exact⟨by rw[ye0];omega,q3r hl hi hx hI⟩)
  (λo hI=>by
    show zif o l l.length l.length=_;unfold zif;rw[yi0 (yi1 _),yd0]) [] (ye1 _)
 rw[show zvb ([],l,(l.length:Int),0,())=_ from hF.1,zct];rfl
theorem q9v {l:SR}(h:za9 l=true):zra l=some ((za3 l,()),()):=by
 unfold zra;rw[zyc h];rfl
def sOk (l:SR):Bool:=za9 l&&decide ((za3 l).length<=3000)
def sR (l:SR):List UInt8:=if sOk l=true then za3 l else[]
theorem zyw {l:SR}(hs:tot zk l<=4611686018427387904):zpt l=some ((sR l,sOk l,()),()):=by
 unfold zpt sR sOk zix;rw[jbt l hs,ya0];dsimp only;cases hg:za9 l
 ·rfl
 ·rw[ys0,yd0,zyb hg,ya0]
  dsimp only;by_cases h:(za3 l).length<=3000
  ·rw[yi0 (by omega:¬((za3 l).length:Int)>3000),yc0 h];rfl
  ·rw[yc0 (by omega:((za3 l).length:Int)>3000),yi0 h];rfl
end R.O.V.N
end

section
/- Shown lines, taken off a list of lines, on both sides. -/
open Go Go.Dn
namespace R.O.V.N
def pre (g s:List UInt8):Bool:=decide (g.length<=s.length)&&(s.take g.length==g)
theorem cut0 (s:List UInt8)(n:Nat):cutL 0 (n:Int) s=s.take n:=znv n s
theorem qel (s g:List UInt8)(hs:s.length<=100000)(hg:g.length<=100):zgb s g=some ((pre g s,()),()):=by
 unfold zgb pre;by_cases h:g.length<=s.length
 ·rw[yc0 (by omega:(s.length:Int)>=(g.length:Int)),yb0,zi0 h,yb0,cut0,yc0 h];rfl
 ·rw[yi0 (by omega:¬(s.length:Int)>=(g.length:Int)),yd0,yi0 h];rfl
theorem qyx (s g:List UInt8)(hs:s.length<=100000)(hg:g.length<=100):zpb s g=some ((pre g s,()),()):=by
 unfold zpb;rw[qel s g hs hg];rfl
theorem qve (s g:List UInt8)(hs:s.length<=100000)(hg:g.length<=100)(h:pre g s=true):zo9 s g=some ((s.drop g.length,()),()):=by
 unfold zo9 zty;rw[qel s g hs hg,h,ya0];dsimp only;unfold pre at h;rw[yh0,yr0] at h;rw[yb0,zen h.1,yb0,zeo];rfl
def nx (g l0:List UInt8):TX->TX×List UInt8
 |[]=>([],l0.drop g.length)
 |m::t=>if m=qj then(t,qp (l0.drop g.length)) else(m::t,l0.drop g.length)
theorem jcw (g l0:List UInt8):nx g l0 []=([],l0.drop g.length):=rfl
theorem zs6 (g l0 m:List UInt8)(t:TX):nx g l0 (m::t)=if m=qj then(t,qp (l0.drop g.length)) else(m::t,l0.drop g.length):=rfl
theorem zkx (g l0:List UInt8)(t out:TX)(hg:g.length<=100)(h0:l0.length<=3000)(hn:t.length<=3000)(ho:out.length<=3000):
 zht (l0::t) g out=if pre g l0=true then some (.inl ((nx g l0 t).1,g,out++[(nx g l0 t).2],())) else some (.inr (l0::t,out,())):=by
 have hr:∀x:List UInt8,qw (out.length+[x].length)=true:=λx=>jr (by simp only[yf0,yp0];omega);unfold zht;rw[yc0 (by simp only[yf0];omega:(((l0::t).length:Nat):Int)>0),yb0,show inB 0 (l0::t).length=true from zq (i:=0) (by simp),yb0,show(l0::t).getD ((0:Int).toNat) []=l0 from rfl,qyx l0 g (by omega) hg,ya0];dsimp only;cases hp:pre g l0
 ·rw[yd0,yw0 (by simp)]
 ·rw[yb0,yb0,yx0 rfl,qve l0 g (by omega) hg hp,ya0]
  dsimp only;rw[zak,yb0,drop_one];cases t with
  |nil=>
   rw[yi0 (by simp:¬((([]:TX).length:Nat):Int)>0),yd0,ya0];dsimp only;rw[yd0,ya0];dsimp only;rw[hr,yb0];rfl
  |cons m t=>
   simp only[yf0] at hn;rw[yc0 (by simp only[yf0];omega:(((m::t).length:Nat):Int)>0),yb0,show inB 0 (m::t).length=true from zq (i:=0) (by simp),yb0,show(m::t).getD ((0:Int).toNat) []=m from rfl,ya0];dsimp only;rw[zs6];by_cases hm:m=qj
   ·rw[yx0 hm,show(m==([92,32,110,111,110,101,10]:List UInt8))=true from yy0.2 hm,yb0,zoe _ (by rw[yc1];omega),ya0]
    dsimp only;rw[zak,yb0,drop_one,ya0];dsimp only;rw[hr,yb0]
   ·rw[yw0 hm,show(m==([92,32,110,111,110,101,10]:List UInt8))=false from yo0.2 hm,yd0,ya0]
    dsimp only;rw[hr,yb0]
theorem q9w (g l0:List UInt8)(t:TX):(nx g l0 t).1.length<=t.length/\(∀l∈(nx g l0 t).1,l∈t)/\(nx g l0 t).2.length<=l0.length:=by
 cases t with
 |nil=>exact⟨ym0 _,λl h=>h,by show(l0.drop g.length).length<=_;rw[yc1];omega⟩
 |cons m t=>
  rw[zs6];by_cases hm:m=qj
  ·rw[yx0 hm]
   have h1:=znu (l0.drop g.length);rw[yc1] at h1;exact⟨by simp,λl h=>yg0 _ h,by show(qp (l0.drop g.length)).length<=_;omega⟩
  ·rw[yw0 hm]
   exact⟨ym0 _,λl h=>h,by show(l0.drop g.length).length<=_;rw[yc1];omega⟩
noncomputable abbrev BT (d:PV zf×PV .str×PV zf×Unit):=zht d.1 d.2.1 d.2.2.1
theorem goT {t out:TX}{g:List UInt8}{d r}(h:zht t g out=some (.inl d))(h2:zfg d=some r):zfg (t,g,out,())=some r:=Eq.trans (zae (B:=BT) (s:=(t,g,out,())) (t:=d) h) h2
theorem endT {t out:TX}{g:List UInt8}{r}(h:zht t g out=some (.inr r)):zfg (t,g,out,())=some r:=jg (B:=BT) (s:=(t,g,out,())) h
theorem q9x (g:List UInt8)(hg:g.length<=100):∀(n:Nat) (t out:TX),t.length<=n->t.length+out.length<=3000->(∀l∈t,l.length<=3000)->(∀l∈out,l.length<=3000)->
 ∃out' r:TX,zfg (t,g,out,())=some (r,out',())/\out'.length<=3000/\r.length<=t.length/\(∀l∈r,l∈t)/\∀l∈out',l.length<=3000:=by
 intro n
 induction n with
 |zero=>
  intro t out h h1 _ ho;obtain rfl:t=[]:=yt0 (by omega);exact⟨out,[],endT rfl,by omega,ym0 _,λl h=>h,ho⟩
 |succ n ih=>
  intro t out h h1 hm ho;cases t with
  |nil=>exact⟨out,[],endT rfl,by simp at h1;omega,ym0 _,λl h=>h,ho⟩
  |cons l0 t=>
   simp only[yf0] at h h1;have h0:=hm l0 (yk0 ..);have hs:=zkx g l0 t out hg h0 (by omega) (by omega);cases hp:pre g l0 with
   |false=>
    rw[hp,yw0 (by simp)] at hs;exact⟨out,l0::t,endT hs,by omega,ym0 _,λl h=>h,ho⟩
   |true=>
    rw[hp,yx0 rfl] at hs;obtain⟨n1,n2,n3⟩:=q9w g l0 t
    obtain⟨out',r,q1,q2,q3,q4,q5⟩:=ih (nx g l0 t).1 (out++[(nx g l0 t).2]) (by omega) (by simp;omega) (λl hl=>hm l (yg0 _ (n2 l hl))) (λl hl=>by
     rcases yu0.1 hl with hl|hl
     ·exact ho l hl
     ·obtain rfl:=yl1.1 hl
      omega)
    exact⟨out',r,goT hs q1,q2,by simp only[yf0];omega,λl hl=>yg0 _ (n2 l (q4 l hl)),q5⟩
theorem z4l (g:List UInt8)(hg:g.length<=100)(t:TX)(h1:t.length<=3000)(hm:∀l∈t,l.length<=3000):
 ∃out r:TX,zby t g=some ((out,r,()),())/\out.length<=3000/\r.length<=t.length/\(∀l∈r,l∈t)/\∀l∈out,l.length<=3000:=by
 obtain⟨out,r,q1,q2,q3,q4,q5⟩:=q9x g hg t.length t [] (ym0 _) (by simpa using h1) hm (λl h=>by cases h);refine⟨out,r,?_,q2,q3,q4,q5⟩;unfold zby;rw[show zfg (t,g,([]:PV zf),())=some (r,out,()) from q1];rfl
def zew (g:List UInt8):TX->Prop
 |[]=>True
 |x::_=>pre g x=false/\x≠qj
theorem qf2 (g s:List UInt8):pre g (g++s)=true:=by
 unfold pre;rw[ye2,ye0,yc0 (by omega)];simp
theorem qem {g s:List UInt8}(hg:g=ltL\/g=gtL):g++s≠qj:=by
 rcases hg with rfl|rfl<;>(intro h;simp[ltL,gtL,qj] at h)
theorem qat {g:List UInt8}(hg:g=ltL\/g=gtL){r:TX}(hr:zew g r):∀l:TX,∀x t,allL g l++r=x::t->x≠qj
 |[],x,t,h=>by
  unfold allL at h;rw[List.flatMap_nil,yp1] at h;rw[h] at hr;exact hr.2
 |s::l,x,t,h=>by
  unfold allL zb5 at h;rw[yv1] at h;cases he:endP s
  ·rw[he,yw0 (by simp)] at h
   injection h with h _;rw[<-h,yj0];exact qem hg
  ·rw[he,yx0 rfl] at h
   injection h with h _;rw[<-h];exact qem hg
theorem q7i {g:List UInt8}(hg:g=ltL\/g=gtL){r:TX}(hr:zew g r):∀(l out:TX),(∀s∈l,jl s=true)->zdp l->(allL g l++r).length+out.length<=3000->(∀x∈allL g l++r,x.length<=3000)->
 zfg (allL g l++r,g,out,())=some (r,out++l,()):=by
 have hg2:g.length=2:=by rcases hg with rfl|rfl<;>rfl
 intro l
 induction l with
 |nil=>
  intro out _ _ hn hm;rw[yz0];show zfg (r,g,out,())=_;have hn:r.length+out.length<=3000:=hn;have hm:∀x∈r,x.length<=3000:=hm;cases r with
  |nil=>exact endT rfl
  |cons x r=>
   simp only[yf0] at hn;have hs:=zkx g x r out (by omega) (hm x (yk0 ..)) (by omega) (by omega);rw[hr.1,yw0 (by simp)] at hs;exact endT hs
 |cons s l ih=>
  intro out hl he hn hm;have hls:=hl s (yk0 ..);have hsl:=zca hls;have e:allL g (s::l)++r=zb5 g s++(allL g l++r):=by unfold allL;rw[yv1,yj0]
  rw[e] at hn hm ⊢;have hl':∀x∈l,jl x=true:=λx hx=>hl x (yg0 _ hx)
  have he':zdp l:=by
   cases l with
   |nil=>trivial
   |cons y l=>exact he.2
  cases hes:endP s with
  |true=>
   have e2:zb5 g s=[g++s]:=by unfold zb5;rw[hes,yx0 rfl]
   rw[e2] at hn hm ⊢;rw[show[g++s]++(allL g l++r)=(g++s)::(allL g l++r) from rfl] at hn hm ⊢;simp only[yf0] at hn;have hs:=zkx g (g++s) (allL g l++r) out (by omega) (hm _ (yk0 ..)) (by omega) (by omega)
   have hnx:nx g (g++s) (allL g l++r)=(allL g l++r,s):=by
    cases hc:allL g l++r with
    |nil=>rw[jcw,yd2]
    |cons m t=>
     rw[zs6];rw[yw0 (qat hg hr l m t hc),yd2]
   rw[qf2,yx0 rfl,hnx] at hs;have:=ih (out++[s]) hl' he' (by simp;rw[ye0] at hn;omega) (λx hx=>hm x (yg0 _ hx));rw[yj0] at this;exact goT hs this
  |false=>
   have e2:zb5 g s=[(g++s)++[10],qj]:=by unfold zb5;rw[hes,yw0 (by simp)]
   have hnil:l=[]:=by
    cases l with
    |nil=>rfl
    |cons y l=>rw[he.1] at hes;cases hes
   subst hnil;rw[e2] at hn hm ⊢;rw[show[(g++s)++[10],qj]++(allL g []++r)=((g++s)++[10])::qj::r from rfl] at hn hm ⊢;simp only[yf0] at hn;have hs:=zkx g ((g++s)++[10]) (qj::r) out (by omega) (hm _ (yk0 ..)) (by simp only[yf0];omega) (by omega)
   have hnx:nx g ((g++s)++[10]) (qj::r)=(r,s):=by
    rw[zs6];rw[yx0 rfl,yj0,yd2,zv7]
   rw[yj0,qf2,<-yj0,yx0 rfl,hnx] at hs;have:=ih (out++[s]) hl' he' (by show r.length+_<=_;simp;omega) (λx hx=>hm x (yg0 _ (yg0 _ hx)));rw[yj0] at this;exact goT hs this
theorem zpl {g:List UInt8}(hg:g=ltL\/g=gtL){r:TX}(hr:zew g r){l:TX}(h:∀s∈l,jl s=true)(he:zdp l)(hn:(allL g l++r).length<=3000)(hm:∀x∈allL g l++r,x.length<=3000):
 zby (allL g l++r) g=some ((l,r,()),()):=by
 have:=q7i hg hr l [] h he (by simpa using hn) hm;unfold zby;rw[show zfg (allL g l++r,g,([]:PV zf),())=some (r,l,()) from this];rfl
end R.O.V.N
end

section
/- Shown lines, as the reference takes them. -/
open Go Go.Dn
namespace R.O.V.N
def preS (g x:List UInt8):Bool:=decide (g.length<x.length)&&(x.take g.length==g)
theorem q9y {g x:List UInt8}(h:pre g x=false):preS g x=false:=by
 cases hp:preS g x with
 |false=>rfl
 |true=>
  unfold preS at hp;rw[yh0,yr0] at hp;unfold pre at h;rw[hp.2,yc0 (by omega)] at h;cases h
def nxS (g x:List UInt8):TX->Nat×List UInt8
 |[]=>(1,x.drop g.length)
 |m::_=>if m=qj then(2,(x.drop g.length).take ((x.drop g.length).length -1)) else(1,x.drop g.length)
theorem zye (g x:List UInt8):nxS g x []=(1,x.drop g.length):=rfl
theorem zn2 (g x m:List UInt8)(t:TX):nxS g x (m::t)=if m=qj then(2,(x.drop g.length).take ((x.drop g.length).length -1)) else(1,x.drop g.length):=rfl
theorem qen (p t:TX)(x:List UInt8):(p++x::t).getD p.length []=x:=by simp[List.getD]
theorem q7j (p t:TX)(x y:List UInt8):(p++x::y::t).getD (p.length+1) []=y:=by
 have:=qen (p++[x]) t y;rw[yj0,ye0] at this;exact this
theorem zki (g x:List UInt8)(p t out:TX)(hg:g.length<=100)(hL:(p++x::t).length<=3000)(hx:x.length<=3000)(ho:out.length<=3000):
 zft (p++x::t) g out (p.length:Int)=if preS g x=true then some (.inl (p++x::t,g,out++[(nxS g x t).2],((p.length+(nxS g x t).1:Nat):Int),())) else some (.inr (out,(p.length:Int),())):=by
 have hr:∀x:List UInt8,qw (out.length+[x].length)=true:=λx=>jr (by simp only[yf0,yp0];omega);have hn:p.length<(p++x::t).length:=by rw[ye0,yf0];omega
 unfold zft;rw[yc0 (by omega:(p.length:Int)<((p++x::t).length:Int)),yb0,zq hn,yb0,toNat_cast,qen];unfold preS;by_cases h1:x.length<=g.length
 ·rw[yc0 (by omega:(x.length:Int)<=(g.length:Int)),yb0,yi0 (by omega:¬g.length<x.length),yg2,yw0 (by simp)]
 ·rw[yi0 (by omega:¬(x.length:Int)<=(g.length:Int)),yd0,zi0 (by omega),yb0,cut0,yc0 (by omega:g.length<x.length),yx1]
  cases hp:(x.take g.length==g)
  ·rw[yb1,yb0,yw0 (by simp)]
  ·rw[ys0,yd0,yx0 rfl,zen (by omega),yb0,wrap64 (x:=(p.length:Int)+1) (by omega) (by omega),show(p.length:Int)+1=((p.length+1:Nat):Int) by omega,zeo]
   cases t with
   |nil=>
    rw[yi0 (by simp:¬((p.length+1:Nat):Int)<((p++[x]).length:Int)),yd0,ya0];dsimp only;rw[yd0,ya0];dsimp only;rw[hr,yb0,zye]
   |cons m t=>
    have h2:p.length+1<(p++x::m::t).length:=by rw[ye0,yf0,yf0];omega
    rw[yc0 (by omega:((p.length+1:Nat):Int)<((p++x::m::t).length:Int)),yb0,zq h2,yb0,toNat_cast,q7j,ya0];dsimp only;rw[zn2];by_cases hm:m=qj
    ·have hd:1<=(x.drop g.length).length:=by rw[yc1];omega
     have hd2:(x.drop g.length).length<=3000:=by rw[yc1];omega
     rw[yx0 hm,show(m==([92,32,110,111,110,101,10]:List UInt8))=true from yy0.2 hm,yb0,wrap64 (x:=((x.drop g.length).length:Int) -1) (by omega) (by omega),show((x.drop g.length).length:Int) -1=(((x.drop g.length).length -1:Nat):Int) by omega,zi0 (by omega),yb0,cut0,wrap64 (by omega) (by omega),ya0];dsimp only;rw[hr,yb0];rfl
    ·rw[yw0 hm,show(m==([92,32,110,111,110,101,10]:List UInt8))=false from yo0.2 hm,yd0,ya0]
     dsimp only;rw[hr,yb0]
noncomputable abbrev BU (d:PV zf×PV .str×PV zf×PV (.int .i64)×Unit):=zft d.1 d.2.1 d.2.2.1 d.2.2.2.1
theorem goU {L out:TX}{g:List UInt8}{n:Int}{d r}(h:zft L g out n=some (.inl d))(h2:zed d=some r):zed (L,g,out,n,())=some r:=Eq.trans (zae (B:=BU) (s:=(L,g,out,n,())) (t:=d) h) h2
theorem endU {L out:TX}{g:List UInt8}{n:Int}{r}(h:zft L g out n=some (.inr r)):zed (L,g,out,n,())=some r:=jg (B:=BU) (s:=(L,g,out,n,())) h
theorem zzd (p out:TX)(g:List UInt8):zft p g out (p.length:Int)=some (.inr (out,(p.length:Int),())):=by
 unfold zft;rw[yi0 (yi1 _),yd0]
theorem q7k (g:List UInt8)(hg:g.length<=100):∀(n:Nat) (t p out:TX),t.length<=n->(p++t).length<=3000->out.length<=p.length->(∀l∈t,l.length<=3000)->(∀l∈out,l.length<=3000)->
 ∃(out':TX) (k:Nat),zed (p++t,g,out,(p.length:Int),())=some (out',((p.length+k:Nat):Int),())/\k<=t.length/\out'.length<=3000/\∀l∈out',l.length<=3000:=by
 intro n
 induction n with
 |zero=>
  intro t p out h h1 ho _ hb;obtain rfl:t=[]:=yt0 (by omega);rw[yz0] at h1 ⊢;exact⟨out,0,endU (zzd p out g),ym0 _,by omega,hb⟩
 |succ n ih=>
  intro t p out h h1 ho hm hb;cases t with
  |nil=>
   rw[yz0] at h1 ⊢;exact⟨out,0,endU (zzd p out g),ym0 _,by omega,hb⟩
  |cons x t=>
   have h1':=h1;rw[ye0,yf0] at h1';simp only[yf0] at h;have hx:=hm x (yk0 ..);have hs:=zki g x p t out hg h1 hx (by omega);cases hp:preS g x with
   |false=>
    rw[hp,yw0 (by simp)] at hs;exact⟨out,0,endU hs,ye1 _,by omega,hb⟩
   |true=>
    rw[hp,yx0 rfl] at hs
    have hb2:∀y:List UInt8,y.length<=3000->∀l∈out++[y],l.length<=3000:=λy hy l hl=>by
     rcases yu0.1 hl with hl|hl
     ·exact hb l hl
     ·obtain rfl:=yl1.1 hl
      exact hy
    have hd:(x.drop g.length).length<=3000:=by rw[yc1];omega
    have one:nxS g x t=(1,x.drop g.length)->∃(out':TX) (k:Nat),zed (p++x::t,g,out,(p.length:Int),())=some (out',((p.length+k:Nat):Int),())/\k<=(x::t).length/\out'.length<=3000/\∀l∈out',l.length<=3000:=by
     intro e;rw[e] at hs;obtain⟨out',k,q1,q2,q3,q4⟩:=ih t (p++[x]) (out++[x.drop g.length]) (by omega) (by rw[yj0];exact h1) (by simp;omega) (λl hl=>hm l (yg0 _ hl)) (hb2 _ hd);rw[yj0,show[x]++t=x::t from rfl,ye0,show[x].length=1 from rfl] at q1;exact⟨out',1+k,goU hs (by rw[q1,Nat.add_assoc]),by simp only[yf0];omega,q3,q4⟩
    cases t with
    |nil=>exact one (zye g x)
    |cons m t=>
     by_cases hn:m=qj
     ·have e:=zn2 g x m t
      rw[yx0 hn] at e;rw[e] at hs;simp only[yf0] at h h1';obtain⟨out',k,q1,q2,q3,q4⟩:=ih t (p++[x,m]) (out++[(x.drop g.length).take ((x.drop g.length).length -1)]) (by omega) (by rw[yj0];exact h1) (by simp;omega) (λl hl=>hm l (yg0 _ (yg0 _ hl))) (hb2 _ (by rw[yr1];omega));rw[yj0,show[x,m]++t=x::m::t from rfl,ye0,show[x,m].length=2 from rfl] at q1;exact⟨out',2+k,goU hs (by rw[q1,Nat.add_assoc]),by simp only[yf0];omega,q3,q4⟩
     ·have e:=zn2 g x m t
      rw[yw0 hn] at e;exact one e
theorem q3s (g:List UInt8)(hg:g.length<=100)(t:TX)(h1:t.length<=3000)(hm:∀l∈t,l.length<=3000):
 ∃(out:TX) (k:Nat),zb7 t g=some ((out,(k:Int),()),())/\k<=t.length/\out.length<=3000/\∀l∈out,l.length<=3000:=by
 obtain⟨out,k,q1,q2,q3,q4⟩:=q7k g hg t.length t [] [] (ym0 _) (by simpa using h1) (ym0 _) hm (λl h=>by cases h);refine⟨out,k,?_,q2,q3,q4⟩;unfold zb7;rw[show zed (t,g,[],0,())=_ from q1];show some ((out,((0+k:Nat):Int),()),())=_;rw[Nat.zero_add]
theorem qeo (g:List UInt8){s:List UInt8}(hs:1<=s.length):preS g (g++s)=true:=by
 unfold preS;rw[ye2,ye0,yc0 (by omega)];simp
theorem q3t {g:List UInt8}(hg:g=ltL\/g=gtL){r:TX}(hr:zew g r):∀(l p out:TX),(∀s∈l,jl s=true)->zdp l->(p++(allL g l++r)).length<=3000->out.length<=p.length->(∀x∈allL g l++r,x.length<=3000)->
 zed (p++(allL g l++r),g,out,(p.length:Int),())=some (out++l,((p.length+(allL g l).length:Nat):Int),()):=by
 have hg2:g.length=2:=by rcases hg with rfl|rfl<;>rfl
 intro l
 induction l with
 |nil=>
  intro p out _ _ hn ho hm;rw[yz0];show zed (p++r,g,out,(p.length:Int),())=some (out,(p.length:Int),());have hn:(p++r).length<=3000:=hn;have hm:∀x∈r,x.length<=3000:=hm;cases r with
  |nil=>rw[yz0];exact endU (zzd p out g)
  |cons x r=>
   have hn':=hn;rw[ye0,yf0] at hn';have hs:=zki g x p r out (by omega) hn (hm x (yk0 ..)) (by omega);rw[q9y hr.1,yw0 (by simp)] at hs;exact endU hs
 |cons s l ih=>
  intro p out hl he hn ho hm;have hls:=hl s (yk0 ..);have hsl:=zca hls;have e:allL g (s::l)=zb5 g s++allL g l:=by unfold allL;rw[yv1]
  rw[e] at hn hm ⊢;rw[yj0] at hn hm ⊢;have hl':∀x∈l,jl x=true:=λx hx=>hl x (yg0 _ hx)
  have he':zdp l:=by
   cases l with
   |nil=>trivial
   |cons y l=>exact he.2
  have hn':=hn;rw[ye0] at hn';cases hes:endP s with
  |true=>
   have e2:zb5 g s=[g++s]:=by unfold zb5;rw[hes,yx0 rfl]
   rw[e2] at hn hn' hm ⊢;rw[show[g++s]++(allL g l++r)=(g++s)::(allL g l++r) from rfl] at hn hn' hm ⊢;simp only[yf0] at hn';have hs:=zki g (g++s) p (allL g l++r) out (by omega) hn (hm _ (yk0 ..)) (by omega)
   have hnx:nxS g (g++s) (allL g l++r)=(1,s):=by
    cases hc:allL g l++r with
    |nil=>rw[zye,yd2]
    |cons m t=>rw[zn2,yw0 (qat hg hr l m t hc),yd2]
   rw[qeo g hsl.1,yx0 rfl,hnx] at hs;have:=ih (p++[g++s]) (out++[s]) hl' he' (by rw[yj0];exact hn) (by simp;omega) (λx hx=>hm x (yg0 _ hx));rw[yj0 p,show[g++s]++(allL g l++r)=(g++s)::(allL g l++r) from rfl,yj0 out,ye0,show[g++s].length=1 from rfl,Nat.add_assoc] at this;rw[show([g++s]++allL g l).length=1+(allL g l).length from by rw[ye0];rfl];exact goU hs this
  |false=>
   have e2:zb5 g s=[(g++s)++[10],qj]:=by unfold zb5;rw[hes,yw0 (by simp)]
   have hnil:l=[]:=by
    cases l with
    |nil=>rfl
    |cons y l=>rw[he.1] at hes;cases hes
   subst hnil;rw[e2] at hn hn' hm ⊢;rw[show[(g++s)++[10],qj]++(allL g []++r)=((g++s)++[10])::qj::r from rfl] at hn hn' hm ⊢;simp only[yf0] at hn';have hs:=zki g ((g++s)++[10]) p (qj::r) out (by omega) hn (hm _ (yk0 ..)) (by omega)
   have hnx:nxS g ((g++s)++[10]) (qj::r)=(2,s):=by
    rw[zn2,yx0 rfl,yj0,yd2];simp
   have hp:preS g ((g++s)++[10])=true:=by rw[yj0];exact qeo g (by simp)
   rw[hp,yx0 rfl,hnx] at hs;have:=ih (p++[(g++s)++[10],qj]) (out++[s]) hl' he' (by rw[yj0];exact hn) (by simp;omega) (λx hx=>hm x (yg0 _ (yg0 _ hx)));rw[yj0 p,show[(g++s)++[10],qj]++(allL g []++r)=((g++s)++[10])::qj::r from rfl,yj0 out,ye0,show[(g++s)++[10],qj].length=2 from rfl,Nat.add_assoc] at this;rw[show([(g++s)++[10],qj]++allL g []).length=2+(allL g []).length from by rw[ye0];rfl];exact goU hs this
theorem qyy {g:List UInt8}(hg:g=ltL\/g=gtL){r:TX}(hr:zew g r){l:TX}(h:∀s∈l,jl s=true)(he:zdp l)(hn:(allL g l++r).length<=3000)(hm:∀x∈allL g l++r,x.length<=3000):
 zb7 (allL g l++r) g=some ((l,((allL g l).length:Int),()),()):=by
 have:=q3t hg hr l [] [] h he (by simpa using hn) (ym0 _) hm;unfold zb7;rw[show zed (allL g l++r,g,[],0,())=_ from this];show some ((l,((0+(allL g l).length:Nat):Int),()),())=_;rw[Nat.zero_add]
end R.O.V.N
end

section
/- Steps, read: the head of one, and what comes behind it, on both sides, whatever the lines are. -/
open Go Go.Dn
namespace R.O.V.N
theorem b97 (c:UInt8):((c.toNat:Int)==97)=(c==97):=Go.Dn.zbn (n:=97) (by omega)
theorem b99 (c:UInt8):((c.toNat:Int)==99)=(c==99):=Go.Dn.zbn (n:=99) (by omega)
theorem b100 (c:UInt8):((c.toNat:Int)==100)=(c==100):=Go.Dn.zbn (n:=100) (by omega)
theorem zyx (c:UInt8):sg3.contains c=(c==97||(c==99||c==100)):=by
 unfold sg3;simp only[List.contains_cons,List.contains_nil,Bool.or_false]
def mkS (a b c d:Int):PV zu:=(a,(b,(([]:PV zf),(c,(d,(([]:PV zf),()))))))
abbrev RI:=(PV zf×PV zk×Unit)⊕((PV zk×Unit)⊕(PV zk×PV .bool×Unit))
def zd9:Option RI:=some (.inr (.inr ([],false,())))
def zaw (l0:List UInt8):Option (Nat×Nat×Nat×Nat×Nat):=
 if Lib.indexAny (qp l0) sg3<0 then none else
  match twoN ((qp l0).take (Lib.indexAny (qp l0) sg3).toNat) with
  |none=>none
  |some (a,b,_)=>match twoN ((qp l0).drop ((Lib.indexAny (qp l0) sg3).toNat+1)) with
   |none=>none
   |some (c,d,_)=>some (a,b,c,d,(Lib.indexAny (qp l0) sg3).toNat)
noncomputable def zjn (t:TX)(out:SR)(x:PV zu)(w:UInt8):Option RI:=
 ((bif !(w==97) then(zby t ltL).bind λr13=>some (r13.1.2.1,(x.1,(x.2.1,(r13.1.1,x.2.2.2)))) else some (t,x):Option (PV zf×PV zu))).bind λj14=>
   ((bif w==99 then
      (bif (bif ((List.length j14.1:Int)==0) then true else !((List.getD j14.1 ((0:Int).toNat) [])==midL)) then some (.inr ()) else some (.inl (List.drop 1 j14.1)))
     else some (.inl j14.1):Option (PV zf⊕Unit))).bind λz=>
     match z with
     | .inr _=>zd9
     | .inl t2=>
       ((bif !(w==100) then(zby t2 gtL).bind λr18=>some (r18.1.2.1,(j14.2.1,(j14.2.2.1,(j14.2.2.2.1,(j14.2.2.2.2.1,(j14.2.2.2.2.2.1,(r18.1.1,j14.2.2.2.2.2.2.2))))))) else some (t2,j14.2):Option (PV zf×PV zu))).bind λj19=>
         some (.inl (j19.1,out++[j19.2],()))
theorem cut1 (t:TX)(h:t.length≠0):cutB 1 (t.length:Int) t.length=true/\cutL 1 (t.length:Int) t=t.drop 1:=
 ⟨zen (j:=1) (by omega),zeo 1 t⟩
theorem qg9 (l0:List UInt8)(t:TX)(out:SR)(h0:l0.length<=3000)(hn:t.length<=3000)(hm:∀l∈t,l.length<=3000)(ho:out.length<=20):
 zfh (l0::t) out=(if out.length=20 then zd9 else match zaw l0 with|none=>zd9|some (a,b,c,d,j)=>zjn t out (mkS a b c d) ((qp l0).getD j 0))/\
 (∀a b c d j,zaw l0=some (a,b,c,d,j)->j<(qp l0).length):=by
 have hpl:=znu l0;constructor
 ·unfold zfh
  rw[yc0 (by simp only[yf0];omega:(((l0::t).length:Nat):Int)>0),yb0,show inB 0 (l0::t).length=true from zq (i:=0) (by simp),yb0,show(l0::t).getD ((0:Int).toNat) []=l0 from rfl,zoe l0 (by omega),ya0];dsimp only;rw[zza _ (by omega),ya0];dsimp only;rcases zsi sg3 (qp l0) with hi|⟨hi1,hi2⟩
  ·rw[hi]
   have:zaw l0=none:=by unfold zaw;rw[hi];rfl
   rw[this];dsimp only;split<;>rfl
  ·obtain⟨j,hj⟩:∃j:Nat,Lib.indexAny (qp l0) sg3=(j:Int):=⟨_,(yz2 hi1).symm⟩
   rw[hj] at hi2 ⊢;have hjl:j<(qp l0).length:=by omega
   rw[yi0 (by omega:¬(j:Int)<0),yd0,ya0];dsimp only;by_cases h60:out.length=20
   ·rw[yx0 h60,show((out.length:Int)==20)=true from by rw[h60];rfl]
    rfl
   ·rw[yw0 h60,show((out.length:Int)==20)=false from yo0.2 (by omega),yd0,zi0 (by omega),yb0,znv,wrap64 (by omega) (by omega),show(j:Int)+1=((j+1:Nat):Int) by omega,zen (by omega),zeo]
    have hN:zaw l0=match twoN ((qp l0).take j) with
     |none=>none
     |some (a,b,_)=>match twoN ((qp l0).drop (j+1)) with
      |none=>none
      |some (c,d,_)=>some (a,b,c,d,j):=by
     unfold zaw;rw[hj,yw0 (by omega),toNat_cast]
    rw[hN];have hl1:((qp l0).take j).length<=100000:=by rw[yr1];omega
    have hl2:((qp l0).drop (j+1)).length<=100000:=by rw[yc1];omega
    rcases znk _ hl1 with⟨a,b,q,h1,h2⟩|⟨h1,a,b,q,h2⟩
    ·rw[h1,h2,ya0,yb0]
     dsimp only;rcases znk _ hl2 with⟨c,d,q',h3,h4⟩|⟨h3,c,d,q',h4⟩
     ·rw[h3,h4,ya0]
      dsimp only;rw[ys0,yd0,ya0];dsimp only;rw[yd0,zak,yb0,drop_one,zq hjl,yb0,toNat_cast,b97];have hr:∀x:PV zu,qw (out.length+[x].length)=true:=λx=>jr (by simp only[yf0,yp0];omega);obtain⟨w,hw⟩:∃w,(qp l0).getD j 0=w:=⟨_,rfl⟩;unfold zjn mkS;rw[hw,show([60,32]:List UInt8)=ltL from rfl,show([62,32]:List UInt8)=gtL from rfl,show([45,45,45,10]:List UInt8)=midL from rfl]
      have fin:∀(t1:TX) (x1:PV zu),(((bif inB (j:Int) (qp l0).length then
       bif ((((qp l0).getD (j:Int).toNat 0).toNat:Int)==99) then
        ((bif ((t1.length:Int)==0) then some (t1,out,qp l0,(j:Int),x1,true,()) else bif inB 0 t1.length then some (t1,out,qp l0,(j:Int),x1,(!((t1.getD ((0:Int).toNat) [])==midL)),()) else none:Option ((PV zf×PV zk×PV .str×PV (.int .i64)×PV zu×PV .bool×Unit)))).bind λj16=>
          bif j16.2.2.2.2.2.1 then some (.inr ([],false,())) else bif cutB 1 (j16.1.length:Int) j16.1.length then some (.inl ((cutL 1 (j16.1.length:Int) j16.1),j16.2.1,j16.2.2.1,j16.2.2.2.1,j16.2.2.2.2.1,())) else none
       else some (.inl (t1,out,qp l0,(j:Int),x1,()))
       else none:Option ((PV zf×PV zk×PV .str×PV (.int .i64)×PV zu×Unit)⊕(PV zk×PV .bool×Unit)))).bind λx25=>
        match x25 with
        | .inl j17=>
          ((bif inB j17.2.2.2.1 j17.2.2.1.length then
             bif (!(((j17.2.2.1.getD j17.2.2.2.1.toNat 0).toNat:Int)==100)) then
              (zby j17.1 gtL).bind λr18=>some (r18.1.2.1,j17.2.1,(j17.2.2.2.2.1.1,(j17.2.2.2.2.1.2.1,(j17.2.2.2.2.1.2.2.1,(j17.2.2.2.2.1.2.2.2.1,(j17.2.2.2.2.1.2.2.2.2.1,(r18.1.1,j17.2.2.2.2.1.2.2.2.2.2.2)))))),())
             else some (j17.1,j17.2.1,j17.2.2.2.2.1,())
            else none:Option ((PV zf×PV zk×PV zu×Unit)))).bind λj19=>
            bif qw (j19.2.1.length+[j19.2.2.1].length) then some (.inl (j19.1,(j19.2.1++[j19.2.2.1]),())) else none
        | .inr j20=>some (.inr (.inr (j20.1,j20.2.1,()))))=
       (((bif w==99 then(bif (bif ((List.length t1:Int)==0) then true else !((List.getD t1 ((0:Int).toNat) [])==midL)) then some (.inr ()) else some (.inl (List.drop 1 t1))) else some (.inl t1):Option (PV zf⊕Unit))).bind λz=>
         match z with
         | .inr _=>zd9
         | .inl t2=>((bif !(w==100) then(zby t2 gtL).bind λr18=>some (r18.1.2.1,(x1.1,(x1.2.1,(x1.2.2.1,(x1.2.2.2.1,(x1.2.2.2.2.1,(r18.1.1,x1.2.2.2.2.2.2))))))) else some (t2,x1):Option (PV zf×PV zu))).bind λj19=>some (.inl (j19.1,out++[j19.2],()))):=by
       intro t1 x1
       have e2:∀t2:TX,(((bif inB (j:Int) (qp l0).length then
        bif (!((((qp l0).getD (j:Int).toNat 0).toNat:Int)==100)) then
         (zby t2 gtL).bind λr18=>some (r18.1.2.1,out,(x1.1,(x1.2.1,(x1.2.2.1,(x1.2.2.2.1,(x1.2.2.2.2.1,(r18.1.1,x1.2.2.2.2.2.2)))))),())
        else some (t2,out,x1,())
        else none:Option ((PV zf×PV zk×PV zu×Unit)))).bind λj19=>
        bif qw (j19.2.1.length+[j19.2.2.1].length) then some (.inl (j19.1,(j19.2.1++[j19.2.2.1]),())) else none:Option RI)=
        ((bif !(w==100) then(zby t2 gtL).bind λr18=>some (r18.1.2.1,(x1.1,(x1.2.1,(x1.2.2.1,(x1.2.2.2.1,(x1.2.2.2.2.1,(r18.1.1,x1.2.2.2.2.2.2))))))) else some (t2,x1):Option (PV zf×PV zu))).bind λj19=>some (.inl (j19.1,out++[j19.2],())):=by
        intro t2;rw[zq hjl,yb0,toNat_cast,hw,b100];cases !(w==100)
        ·rw[yd0,yd0,ya0,ya0]
         dsimp only;rw[hr,yb0]
        ·rw[yb0,yb0]
         cases zby t2 gtL with
         |none=>rfl
         |some r=>
          rw[ya0,ya0,ya0,ya0];dsimp only;rw[hr,yb0]
       rw[zq hjl,yb0,toNat_cast,hw,b99];cases hw9:w==99
       ·rw[yd0,yd0,ya0,ya0]
        exact e2 t1
       ·rw[yb0,yb0]
        by_cases hz:t1.length=0
        ·rw[show((t1.length:Int)==0)=true from by rw[hz];rfl,yb0,yb0]
         rfl
        ·rw[show((t1.length:Int)==0)=false from yo0.2 (by omega),yd0,yd0,show inB 0 t1.length=true from zq (i:=0) (by omega),yb0,ya0]
         dsimp only;cases !((List.getD t1 ((0:Int).toNat) [])==midL)
         ·rw[yd0,yd0,(cut1 t1 hz).1,yb0,(cut1 t1 hz).2,ya0,ya0]
          exact e2 _
         ·rfl
      cases hw7: !(w==97)
      ·rw[yd0,yd0,ya0,ya0]
       exact fin t _
      ·rw[yb0,yb0]
       cases zby t ltL with
       |none=>rfl
       |some r=>
        rw[ya0,ya0,ya0,ya0];exact fin _ _
     ·rw[h3,h4]
      rfl
    ·rw[h1,h2,ya0,yb0]
     dsimp only;rcases znk _ hl2 with⟨c,d,q',h3,h4⟩|⟨h3,c,d,q',h4⟩
     ·rw[h4];rfl
     ·rw[h4];rfl
 ·intro a b c d j hh
  unfold zaw at hh;rcases zsi sg3 (qp l0) with hi|⟨hi1,hi2⟩
  ·rw[hi] at hh;cases hh
  ·rw[yw0 (by omega)] at hh
   split at hh
   ·cases hh
   ·split at hh
    ·cases hh
    ·injection hh with hh
     simp only[ya1] at hh;omega
end R.O.V.N
end

section
/- Steps, read: the head of one, and what comes behind it, as the reference reads them. -/
open Go Go.Dn
namespace R.O.V.N
theorem qyz (h:List UInt8)(hs:h.length<=3000)(x:PV zu):zvc (h,x,0,())=some (h,x,((h.findIdx λc=>sg3.contains c:Nat):Int),()):=by
 rw[show zvc (h,x,0,())=_ from zck (B:=λd=>zfu d.1 d.2.1 d.2.2.1) h (λc=>sg3.contains c) (λi=>(h,x,(i:Int),())) (λi=>(h,x,(i:Int),())) (h,x,(h.length:Int),())
  (λi hi hq=>by
    show zfu h x i=_;rw[zyx,yb3,yb3] at hq;unfold zfu;rw[yc0 (by omega:(i:Int)<(h.length:Int)),yb0,zq hi,yb0,toNat_cast,qo hi,b97,hq.1,yb1,yb0,yb0,b99,hq.2.1,yb1,yb0,yb0,b100,hq.2.2,yb1,yb0,wrap64 (by omega) (by omega)];rfl)
  (λi hi hq=>by
    show zfu h x i=_;rw[zyx] at hq;unfold zfu;rw[yc0 (by omega:(i:Int)<(h.length:Int)),yb0,zq hi,yb0,toNat_cast,qo hi,b97];cases h1:h[i]==97
    ·rw[yb1,yb0,yb0,b99]
     cases h2:h[i]==99
     ·rw[h1,h2,yf2,yf2] at hq
      rw[yb1,yb0,yb0,b100,hq,ys0,yd0]
     ·rw[ys0,yd0]
    ·rw[ys0,yd0])
  (by
    show zfu h x h.length=_;unfold zfu;rw[yi0 (yi1 _),yd0])]
 cases ha:h.any λc=>sg3.contains c
 ·rw[yw0 (by simp)]
  have:h.findIdx (λc=>sg3.contains c)=h.length:=List.findIdx_eq_length.2 λc hc=>by simpa using List.any_eq_false.1 ha c hc
  rw[this]
 ·rw[yx0 rfl]
def ixS (h:List UInt8):Nat:=h.findIdx λc=>sg3.contains c
theorem jcx (h:List UInt8):ixS h<=h.length:=List.findIdx_le_length
def hS (h:List UInt8):Option (Int×Int×Int×Int×UInt8):=
 if ixS h=h.length then none else
  if ((endR 0 (h.take (ixS h))).2.2.1&&(endR 0 (h.drop (ixS h+1))).2.2.1)=true then
   some ((endR 0 (h.take (ixS h))).1,(endR 0 (h.take (ixS h))).2.1,(endR 0 (h.drop (ixS h+1))).1,(endR 0 (h.drop (ixS h+1))).2.1,h.getD (ixS h) 0)
  else none
theorem zoo (h:List UInt8)(hs:h.length<=3000):zrb h=some ((match hS h with|none=>(mkS 0 0 0 0,0,false,())|some (a,b,c,d,w)=>(mkS a b c d,(w.toNat:Int),true,())),()):=by
 have hle:=jcx h;unfold zrb;rw[qyz h hs,ya0];dsimp only;rw[show(h.findIdx λc=>sg3.contains c)=ixS h from rfl];unfold hS;by_cases h1:ixS h=h.length
 ·rw[yx0 h1,show((ixS h:Int)==(h.length:Int))=true from yy0.2 (by omega)];rfl
 ·rw[yw0 h1,show((ixS h:Int)==(h.length:Int))=false from yo0.2 (by omega),yd0,zi0 hle,yb0,znv,zqs _ (by rw[yr1];omega),ya0]
  dsimp only;rw[wrap64 (by omega) (by omega),show(ixS h:Int)+1=((ixS h+1:Nat):Int) by omega,zen (by omega),yb0,zeo,zqs _ (by rw[yc1];omega),ya0];dsimp only;cases(endR 0 (h.take (ixS h))).2.2.1
  ·rfl
  ·rw[ys0,yd0,ya0]
   dsimp only;cases(endR 0 (h.drop (ixS h+1))).2.2.1
   ·rfl
   ·rw[ys0,yd0,zq (by omega),yb0,toNat_cast]
    rfl
abbrev RS:=(PV .str×PV zf×PV zk×Unit)⊕((PV .str×PV zk×Unit)⊕(PV zk×PV (.int .i64)×PV .bool×Unit))
def ztw:Option RS:=some (.inr (.inr ([],1,false,())))
noncomputable def zl2 (s:List UInt8)(t:TX)(out:SR)(x:PV zu)(w:UInt8):Option RS:=
 ((bif !(w==97) then(zb7 t ltL).bind λr8=>(bif cutB r8.1.2.1 (t.length:Int) t.length then some (cutL r8.1.2.1 (t.length:Int) t,(x.1,(x.2.1,(r8.1.1,x.2.2.2)))) else none) else some (t,x):Option (PV zf×PV zu))).bind λj9=>
   ((bif !(w==100) then(zb7 (bif w==99 then List.drop 1 j9.1 else j9.1) gtL).bind λr13=>
      (bif cutB r13.1.2.1 (List.length (bif w==99 then List.drop 1 j9.1 else j9.1:PV zf):Int) (List.length (bif w==99 then List.drop 1 j9.1 else j9.1:PV zf)) then
        some (cutL r13.1.2.1 (List.length (bif w==99 then List.drop 1 j9.1 else j9.1:PV zf):Int) (bif w==99 then List.drop 1 j9.1 else j9.1),(j9.2.1,(j9.2.2.1,(j9.2.2.2.1,(j9.2.2.2.2.1,(j9.2.2.2.2.2.1,(r13.1.1,j9.2.2.2.2.2.2.2))))))) else none)
     else some ((bif w==99 then List.drop 1 j9.1 else j9.1),j9.2):Option (PV zf×PV zu))).bind λj14=>
     some (.inl (s,j14.1,out++[j14.2],()))
theorem jda (t:TX):(bif (decide ((t.length:Int)>0)) then(bif cutB 1 (t.length:Int) t.length then some (cutL 1 (t.length:Int) t) else none) else some t:Option (PV zf))=some (List.drop 1 t):=by
 by_cases h:t.length=0
 ·obtain rfl:t=[]:=yt0 h
  rfl
 ·rw[yc0 (by omega),yb0,(cut1 t h).1,yb0,(cut1 t h).2]
theorem qha (s l0:List UInt8)(t:TX)(out:SR)(h1:1<=l0.length)(h0:l0.length<=3000)(hn:t.length<=3000)(ho:out.length<=3000):
 zgh s (l0::t) out=match hS (qp l0) with|none=>ztw|some (a,b,c,d,w)=>zl2 s t out (mkS a b c d) w:=by
 have hpl:=znu l0;have hr:∀x:PV zu,qw (out.length+[x].length)=true:=λx=>jr (by simp only[yf0,yp0];omega);unfold zgh;rw[yc0 (by simp only[yf0];omega:(((l0::t).length:Nat):Int)>0),yb0,show inB 0 (l0::t).length=true from zq (i:=0) (by simp),yb0,show(l0::t).getD ((0:Int).toNat) []=l0 from rfl,zog l0 h1 (by omega),ya0];dsimp only;rw[zoo _ (by omega),ya0];cases hh:hS (qp l0) with
 |none=>rfl
 |some q=>
  obtain⟨a,b,c,d,w⟩:=q;dsimp only;rw[ys0,yd0,zak,yb0,drop_one,b97];unfold zl2;rw[show([60,32]:List UInt8)=ltL from rfl,show([62,32]:List UInt8)=gtL from rfl]
  have fin:∀(t1:TX) (x1:PV zu),
   ((((bif ((w.toNat:Int)==99) then some (s,t1,out,x1,(w.toNat:Int),(decide ((t1.length:Int)>0)),()) else some (s,t1,out,x1,(w.toNat:Int),false,()):Option ((PV .str×PV zf×PV zk×PV zu×PV (.int .u8)×PV .bool×Unit)))).bind λj10=>
     bif j10.2.2.2.2.2.1 then bif cutB 1 (j10.2.1.length:Int) j10.2.1.length then some (j10.1,(cutL 1 (j10.2.1.length:Int) j10.2.1),j10.2.2.1,j10.2.2.2.1,j10.2.2.2.2.1,()) else none
     else some (j10.1,j10.2.1,j10.2.2.1,j10.2.2.2.1,j10.2.2.2.2.1,()):Option ((PV .str×PV zf×PV zk×PV zu×PV (.int .u8)×Unit))))=
   some (s,(bif w==99 then List.drop 1 t1 else t1),out,x1,(w.toNat:Int),()):=by
   intro t1 x1;rw[b99];cases w==99
   ·rfl
   ·rw[yb0,yb0,ya0]
    dsimp only;have:=jda t1;by_cases hz:t1.length=0
    ·obtain rfl:t1=[]:=yt0 hz
     rfl
    ·rw[yc0 (by omega),yb0,(cut1 t1 hz).1,yb0,(cut1 t1 hz).2]
  cases hw7: !(w==97)
  ·rw[yd0,yd0,ya0,ya0]
   dsimp only;rw[fin,ya0];dsimp only;rw[b100];cases !(w==100)
   ·rw[yd0,yd0,ya0,ya0]
    dsimp only;rw[hr,yb0]
   ·rw[yb0,yb0]
    cases zb7 (bif w==99 then List.drop 1 t else t) gtL with
    |none=>rfl
    |some r=>
     rw[ya0,ya0];cases cutB r.1.2.1 (List.length (bif w==99 then List.drop 1 t else t:PV zf):Int) (List.length (bif w==99 then List.drop 1 t else t:PV zf))
     ·rfl
     ·rw[yb0,yb0,ya0,ya0]
      dsimp only;rw[hr,yb0]
  ·rw[yb0,yb0]
   cases zb7 t ltL with
   |none=>rfl
   |some r0=>
    rw[ya0,ya0];cases cutB r0.1.2.1 (t.length:Int) t.length
    ·rfl
    ·rw[yb0,yb0,ya0,ya0]
     dsimp only;rw[fin,ya0];dsimp only;rw[b100];generalize cutL r0.1.2.1 (t.length:Int) t=t1;cases !(w==100)
     ·rw[yd0,yd0,ya0,ya0]
      dsimp only;rw[hr,yb0]
     ·rw[yb0,yb0]
      cases zb7 (bif w==99 then List.drop 1 t1 else t1) gtL with
      |none=>rfl
      |some r=>
       rw[ya0,ya0];cases cutB r.1.2.1 (List.length (bif w==99 then List.drop 1 t1 else t1:PV zf):Int) (List.length (bif w==99 then List.drop 1 t1 else t1:PV zf))
       ·rfl
       ·rw[yb0,yb0,ya0,ya0]
        dsimp only;rw[hr,yb0]
end R.O.V.N
end

section
/- Steps, read: both readers end, whatever the lines are. -/
open Go Go.Dn
namespace R.O.V.N
def OW (x:PV zu):Prop:=(List.length x.2.2.1<=3000/\∀l∈(x.2.2.1:TX),l.length<=3000)/\(List.length x.2.2.2.2.2.1<=3000/\∀l∈(x.2.2.2.2.2.1:TX),l.length<=3000)
theorem OW.tot {gs:SR}(hl:gs.length<=3000)(h:∀x∈gs,OW x):tot zk gs<=4611686018427387904:=by
 have hx:∀x∈gs,Go.Dn.tot zu x<=20000000:=λx hx=>by
  obtain⟨⟨h1,h2⟩,h3,h4⟩:=h x hx
  have h5:Go.Dn.tot zf x.2.2.1<=(3000+1)*List.length x.2.2.1:=zlt λs hs=>by
   have:=h2 s hs;rw[zn9];exact this
  have h6:Go.Dn.tot zf x.2.2.2.2.2.1<=(3000+1)*List.length x.2.2.2.2.2.1:=zlt λs hs=>by
   have:=h4 s hs;rw[zn9];exact this
  simp only[Go.Dn.tot] at h5 h6 ⊢;omega
 have h5:Go.Dn.tot zk gs<=(20000000+1)*gs.length:=zlt hx;omega
theorem qhb (a b c d:Int):OW (mkS a b c d):=⟨⟨ye1 _,λl h=>by cases h⟩,ye1 _,λl h=>by cases h⟩
theorem q7l (t:TX)(out:SR){x:PV zu}(w:UInt8)(hx:OW x)(hn:t.length<=3000)(hm:∀l∈t,l.length<=3000):
 zjn t out x w=zd9\/∃(y:PV zu) (r:TX),zjn t out x w=some (.inl (r,out++[y],()))/\OW y/\r.length<=t.length/\∀l∈r,l∈t:=by
 have s1:∃(t1:TX) (x1:PV zu),((bif !(w==97) then(zby t ltL).bind λr13=>some (r13.1.2.1,(x.1,(x.2.1,(r13.1.1,x.2.2.2)))) else some (t,x):Option (PV zf×PV zu)))=some (t1,x1)/\OW x1/\t1.length<=t.length/\∀l∈t1,l∈t:=by
  cases !(w==97)
  ·exact⟨t,x,rfl,hx,ym0 _,λl h=>h⟩
  ·obtain⟨o,r,q1,q2,q3,q4,q5⟩:=z4l ltL (by decide) t hn hm
   rw[yb0,q1,ya0];exact⟨r,_,rfl,⟨⟨q2,q5⟩,hx.2⟩,q3,q4⟩
 obtain⟨t1,x1,e1,o1,n1,m1⟩:=s1
 have s2:((bif w==99 then
  (bif (bif ((List.length t1:Int)==0) then true else !((List.getD t1 ((0:Int).toNat) [])==midL)) then some (.inr ()) else some (.inl (List.drop 1 t1)))
  else some (.inl t1):Option (PV zf⊕Unit)))=some (.inr ())\/∃t2:TX,((bif w==99 then
   (bif (bif ((List.length t1:Int)==0) then true else !((List.getD t1 ((0:Int).toNat) [])==midL)) then some (.inr ()) else some (.inl (List.drop 1 t1)))
  else some (.inl t1):Option (PV zf⊕Unit)))=some (.inl t2)/\t2.length<=t1.length/\∀l∈t2,l∈t1:=by
  cases w==99
  ·exact .inr ⟨t1,rfl,ym0 _,λl h=>h⟩
  ·rw[yb0]
   cases(bif ((List.length t1:Int)==0) then true else !((List.getD t1 ((0:Int).toNat) [])==midL))
   ·exact .inr ⟨List.drop 1 t1,rfl,by rw[yc1];omega,λl h=>yb2 h⟩
   ·exact .inl rfl
 unfold zjn;rw[e1,ya0];dsimp only;rcases s2 with e2|⟨t2,e2,n2,m2⟩
 ·rw[e2];exact .inl rfl
 ·right
  rw[e2,ya0];dsimp only;cases !(w==100)
  ·rw[yd0,ya0]
   exact⟨x1,t2,rfl,o1,by omega,λl h=>m1 l (m2 l h)⟩
  ·obtain⟨o,r,q1,q2,q3,q4,q5⟩:=z4l gtL (by decide) t2 (by omega) (λl h=>hm l (m1 l (m2 l h)))
   rw[yb0,q1,ya0,ya0];exact⟨_,r,rfl,⟨o1.1,q2,q5⟩,by omega,λl h=>m1 l (m2 l (q4 l h))⟩
noncomputable abbrev BI (d:PV zf×PV zk×Unit):=zfh d.1 d.2.1
theorem go_I {ls:TX}{out:SR}{d r}(h:zfh ls out=some (.inl d))(h2:zc6 d=some r):zc6 (ls,out,())=some r:=Eq.trans (zae (B:=BI) (s:=(ls,out,())) (t:=d) h) h2
theorem zdn {ls:TX}{out:SR}{r}(h:zfh ls out=some (.inr r)):zc6 (ls,out,())=some r:=jg (B:=BI) (s:=(ls,out,())) h
theorem zzb:∀(n:Nat) (ls:TX) (out:SR),ls.length<=n->ls.length<=3000->(∀l∈ls,l.length<=3000)->out.length<=20->(∀x∈out,OW x)->
 ∃gs:SR,gs.length<=20/\(∀x∈gs,OW x)/\(zc6 (ls,out,())=some (.inl (gs,()))\/zc6 (ls,out,())=some (.inr (gs,false,()))):=by
 have fail:∀{ls:TX} {out:SR},zfh ls out=zd9->∃gs:SR,gs.length<=20/\(∀x∈gs,OW x)/\(zc6 (ls,out,())=some (.inl (gs,()))\/zc6 (ls,out,())=some (.inr (gs,false,()))):=
  λh=>⟨[],ye1 _,λx hx=>(by cases hx),.inr (zdn h)⟩
 intro n
 induction n with
 |zero=>
  intro ls out h _ _ ho hg;obtain rfl:ls=[]:=yt0 (by omega);exact⟨out,ho,hg,.inl (zdn rfl)⟩
 |succ n ih=>
  intro ls out h h1 hm ho hg;cases ls with
  |nil=>exact⟨out,ho,hg,.inl (zdn rfl)⟩
  |cons l0 t=>
   simp only[yf0] at h h1;have hmt:∀l∈t,l.length<=3000:=λl hl=>hm l (yg0 _ hl);have hs:=(qg9 l0 t out (hm l0 (yk0 ..)) (by omega) hmt ho).1;by_cases h60:out.length=20
   ·rw[yx0 h60] at hs;exact fail hs
   ·rw[yw0 h60] at hs
    cases hh:zaw l0 with
    |none=>rw[hh] at hs;exact fail hs
    |some q=>
     obtain⟨a,b,c,d,j⟩:=q;rw[hh] at hs;dsimp only at hs;rcases q7l t out ((qp l0).getD j 0) (qhb a b c d) (by omega) hmt with e|⟨y,r,e,hy,hr,hmem⟩
     ·rw[e] at hs;exact fail hs
     ·rw[e] at hs
      obtain⟨gs,q1,q2,q3⟩:=ih r (out++[y]) (by omega) (by omega) (λl hl=>hmt l (hmem l hl)) (by simp;omega) (λz hz=>by
       rcases yu0.1 hz with hz|hz
       ·exact hg z hz
       ·obtain rfl:=yl1.1 hz
        exact hy)
      exact⟨gs,q1,q2,q3.imp (go_I hs) (go_I hs)⟩
theorem zw1 (ls:TX)(h1:ls.length<=3000)(hm:∀l∈ls,l.length<=3000):∃(gs:SR) (q:Bool),zj0 ls=some ((gs,q,()),())/\tot zk gs<=4611686018427387904:=by
 obtain⟨gs,q1,q2,q3⟩:=zzb ls.length ls [] (ym0 _) h1 hm (ye1 _) (λx hx=>by cases hx);unfold zj0;rcases q3 with e|e
 ·rw[show zc6 (ls,([]:PV zk),())=_ from e];exact⟨gs,true,rfl,OW.tot (by omega) q2⟩
 ·rw[show zc6 (ls,([]:PV zk),())=_ from e];exact⟨gs,false,rfl,OW.tot (by omega) q2⟩
theorem qep (g:List UInt8)(hg:g.length<=100)(t:TX)(h1:t.length<=3000)(hm:∀l∈t,l.length<=3000):
 ∃(o:TX) (k:Nat),zb7 t g=some ((o,(k:Int),()),())/\cutB (k:Int) (t.length:Int) t.length=true/\cutL (k:Int) (t.length:Int) t=t.drop k/\(t.drop k).length<=t.length/\o.length<=3000/\∀l∈o,l.length<=3000:=by
 obtain⟨o,k,q1,q2,q3,q4⟩:=q3s g hg t h1 hm;exact⟨o,k,q1,zen q2,zeo k t,by rw[yc1];omega,q3,q4⟩
theorem q7m (s:List UInt8)(t:TX)(out:SR){x:PV zu}(w:UInt8)(hx:OW x)(hn:t.length<=3000)(hm:∀l∈t,l.length<=3000):
 ∃(y:PV zu) (r:TX),zl2 s t out x w=some (.inl (s,r,out++[y],()))/\OW y/\r.length<=t.length/\∀l∈r,l∈t:=by
 have s1:∃(t1:TX) (x1:PV zu),((bif !(w==97) then(zb7 t ltL).bind λr8=>(bif cutB r8.1.2.1 (t.length:Int) t.length then some (cutL r8.1.2.1 (t.length:Int) t,(x.1,(x.2.1,(r8.1.1,x.2.2.2)))) else none) else some (t,x):Option (PV zf×PV zu)))=some (t1,x1)/\OW x1/\t1.length<=t.length/\∀l∈t1,l∈t:=by
  cases !(w==97)
  ·exact⟨t,x,rfl,hx,ym0 _,λl h=>h⟩
  ·obtain⟨o,k,q1,q2,q3,q4,q5,q6⟩:=qep ltL (by decide) t hn hm
   rw[yb0,q1,ya0];dsimp only;rw[q2,yb0,q3];exact⟨_,_,rfl,⟨⟨q5,q6⟩,hx.2⟩,q4,λl h=>yb2 h⟩
 obtain⟨t1,x1,e1,o1,n1,m1⟩:=s1
 have s2:∃t2:TX,(bif w==99 then List.drop 1 t1 else t1)=t2/\t2.length<=t1.length/\∀l∈t2,l∈t1:=by
  cases w==99
  ·exact⟨t1,rfl,ym0 _,λl h=>h⟩
  ·exact⟨List.drop 1 t1,rfl,by rw[yc1];omega,λl h=>yb2 h⟩
 obtain⟨t2,e2,n2,m2⟩:=s2;unfold zl2;rw[e1,ya0];dsimp only;rw[e2];cases !(w==100)
 ·rw[yd0,ya0]
  exact⟨x1,t2,rfl,o1,by omega,λl h=>m1 l (m2 l h)⟩
 ·obtain⟨o,k,q1,q2,q3,q4,q5,q6⟩:=qep gtL (by decide) t2 (by omega) (λl h=>hm l (m1 l (m2 l h)))
  rw[yb0,q1,ya0];dsimp only;rw[q2,yb0,q3,ya0];exact⟨_,t2.drop k,rfl,⟨o1.1,q5,q6⟩,by omega,λl h=>m1 l (m2 l (yb2 h))⟩
noncomputable abbrev BS (d:PV .str×PV zf×PV zk×Unit):=zgh d.1 d.2.1 d.2.2.1
theorem go_S {s:List UInt8}{ls:TX}{out:SR}{d r}(h:zgh s ls out=some (.inl d))(h2:zfc d=some r):zfc (s,ls,out,())=some r:=Eq.trans (zae (B:=BS) (s:=(s,ls,out,())) (t:=d) h) h2
theorem zex {s:List UInt8}{ls:TX}{out:SR}{r}(h:zgh s ls out=some (.inr r)):zfc (s,ls,out,())=some r:=jg (B:=BS) (s:=(s,ls,out,())) h
theorem zzc (s:List UInt8):∀(n:Nat) (ls:TX) (out:SR),ls.length<=n->out.length+ls.length<=3000->(∀l∈ls,1<=l.length/\l.length<=3000)->(∀x∈out,OW x)->
 (∃gs:SR,gs.length<=3000/\(∀x∈gs,OW x)/\zfc (s,ls,out,())=some (.inl (s,gs,())))\/zfc (s,ls,out,())=some (.inr ([],1,false,())):=by
 intro n
 induction n with
 |zero=>
  intro ls out h h1 _ hg;obtain rfl:ls=[]:=yt0 (by omega);exact .inl ⟨out,by simpa using h1,hg,zex rfl⟩
 |succ n ih=>
  intro ls out h h1 hm hg;cases ls with
  |nil=>exact .inl ⟨out,by simpa using h1,hg,zex rfl⟩
  |cons l0 t=>
   simp only[yf0] at h h1;have hs:=qha s l0 t out (hm l0 (yk0 ..)).1 (hm l0 (yk0 ..)).2 (by omega) (by omega);have hmt:∀l∈t,1<=l.length/\l.length<=3000:=λl hl=>hm l (yg0 _ hl);cases hh:hS (qp l0) with
   |none=>rw[hh] at hs;exact .inr (zex hs)
   |some q=>
    obtain⟨a,b,c,d,w⟩:=q;rw[hh] at hs;dsimp only at hs;obtain⟨y,r,e,hy,hr,hmem⟩:=q7m s t out w (qhb a b c d) (by omega) (λl hl=>(hmt l hl).2);rw[e] at hs
    rcases ih r (out++[y]) (by omega) (by simp;omega) (λl hl=>hmt l (hmem l hl)) (λz hz=>by
     rcases yu0.1 hz with hz|hz
     ·exact hg z hz
     ·obtain rfl:=yl1.1 hz
      exact hy) with⟨gs,q1,q2,q3⟩|q3
    ·exact .inl ⟨gs,q1,q2,go_S hs q3⟩
    ·exact .inr (go_S hs q3)
end R.O.V.N
end

section
/- Steps, read: what is written of good steps is read back by both. -/
open Go Go.Dn
namespace R.O.V.N
theorem zs5 {c:UInt8}(h:isDg c=true\/c=44):sg3.contains c=false/\c≠10/\c≠60/\c≠62/\c≠92:=by
 rcases h with h|rfl
 ·have key:∀d:UInt8,isDg d=false->c≠d:=λd hd e=>by rw[e,hd] at h;cases h
  refine⟨?_,key 10 rfl,key 60 rfl,key 62 rfl,key 92 rfl⟩;rw[zyx,yo0.2 (key 97 rfl),yo0.2 (key 99 rfl),yo0.2 (key 100 rfl)];rfl
 ·exact⟨by decide,by decide,by decide,by decide,by decide⟩
theorem q9z (x:PV zu):(zac x=97\/zac x=99\/zac x=100)/\sg3.contains (zac x)=true/\zac x≠10:=by
 unfold zac;split
 ·exact⟨.inl rfl,by decide,by decide⟩
 ·split
  ·exact⟨.inr (.inr rfl),by decide,by decide⟩
  ·exact⟨.inr (.inl rfl),by decide,by decide⟩
theorem qau {q:UInt8->Bool}{c:UInt8}(r:List UInt8)(hc:q c=true):∀{p:List UInt8},(∀b∈p,q b=false)->(p++c::r).findIdx q=p.length
 |[],_=>by rw[yp1,List.findIdx_cons,hc];rfl
 |b::p,h=>by
  have ih:=qau (p:=p) r hc λx hx=>h x (yg0 _ hx);rw[yw1,List.findIdx_cons,h b (yk0 ..),ih];rfl
theorem jcy {n:Nat}(h:n<10000):∃c r,dec n=c::r/\isDg c=true:=by
 have hc:=(zbs h).1;cases hd:Lib.decDigits n with
 |nil=>rw[hd] at hc;cases hc
 |cons c r=>exact⟨c,r,hd,zcz hc c (by rw[hd];exact yk0 ..)⟩
theorem jaa {a b:Nat}(ha:a<10000):∃c r,pairT a b=c::r/\isDg c=true:=by
 obtain⟨c,r,e,h⟩:=jcy ha;unfold pairT;split
 ·exact⟨c,r,e,h⟩
 ·rw[e];exact⟨c,_,rfl,h⟩
theorem heads {x:PV zu}(h:zat x=true):isL (zav x)/\
 (∃a b c d j:Nat,zaw (zav x)=some (a,b,c,d,j)/\(qp (zav x)).getD j 0=zac x/\(x.1,(x.2.1,(([]:PV zf),(x.2.2.2.1,(x.2.2.2.2.1,(([]:PV zf),()))))))=mkS a b c d)/\
 hS (qp (zav x))=some (x.1,x.2.1,x.2.2.2.1,x.2.2.2.2.1,zac x)/\(∀g,g=ltL\/g=gtL->pre g (zav x)=false)/\zav x≠qj:=by
 obtain⟨a,b,c,d,ea,eb,ec,ed,hab,hb,hcd,hd,_,_,_⟩:=ziw h;obtain⟨hw,hw1,hw2⟩:=q9z x;have hch:∀e∈pairT a b,sg3.contains e=false/\e≠10/\e≠60/\e≠62/\e≠92:=λe he=>zs5 (znz (by omega) (by omega) e he);have hch2:∀e∈pairT c d,sg3.contains e=false/\e≠10/\e≠60/\e≠62/\e≠92:=λe he=>zs5 (znz (by omega) (by omega) e he)
 have hT:zav x=(pairT a b++zac x::pairT c d)++[10]:=by
  unfold zav;rw[ea,eb,ec,ed,toNat_cast,toNat_cast,toNat_cast,toNat_cast];simp
 have hpl:qp (zav x)=pairT a b++zac x::pairT c d:=by rw[hT,zv7]
 have hi:Lib.indexAny (pairT a b++zac x::pairT c d) sg3=((pairT a b).length:Int):=zyd _ hw1 λe he=>(hch e he).1;have hx:ixS (pairT a b++zac x::pairT c d)=(pairT a b).length:=qau _ hw1 λe he=>(hch e he).1;have hdr:(pairT a b++zac x::pairT c d).drop ((pairT a b).length+1)=pairT c d:=by rw[<-List.drop_drop,yd2];rfl
 have hget:(pairT a b++zac x::pairT c d).getD (pairT a b).length 0=zac x:=by simp[List.getD]
 obtain⟨q,hq⟩:=zkw (a:=a) (b:=b) (by omega) (by omega);obtain⟨q',hq'⟩:=zkw (a:=c) (b:=d) (by omega) (by omega);obtain⟨e0,r0,he0,hd0⟩:=jaa (a:=a) (b:=b) (by omega);have h0:=hch e0 (by rw[he0];exact yk0 ..);refine⟨⟨pairT a b++zac x::pairT c d,hT,λhm=> ?_⟩,⟨a,b,c,d,(pairT a b).length,?_,?_,?_⟩,?_,?_,?_⟩
 ·rcases yu0.1 hm with hm|hm
  ·exact(hch 10 hm).2.1 rfl
  ·rcases yg1.1 hm with hm|hm
   ·exact hw2 hm.symm
   ·exact(hch2 10 hm).2.1 rfl
 ·unfold zaw
  rw[hpl,hi,yw0 (by omega),toNat_cast,ye2,hq,hdr,hq']
 ·rw[hpl,hget]
 ·rw[ea,eb,ec,ed];rfl
 ·unfold hS
  rw[hpl,hx,yw0 (by simp),ye2,hdr,zgu hab hb,zgu hcd hd,hget,ea,eb,ec,ed];rfl
 ·intro g hg
  unfold pre;rw[hT,he0];rcases hg with rfl|rfl
  ·rw[show List.take ltL.length ((e0::r0++zac x::pairT c d)++[10])=e0::List.take 1 ((r0++zac x::pairT c d)++[10]) from rfl]
   rw[show(e0::List.take 1 ((r0++zac x::pairT c d)++[10])==ltL)=false from yo0.2 λe=>by unfold ltL at e;injection e with e _;exact h0.2.2.1 e,Bool.and_false]
  ·rw[show List.take gtL.length ((e0::r0++zac x::pairT c d)++[10])=e0::List.take 1 ((r0++zac x::pairT c d)++[10]) from rfl]
   rw[show(e0::List.take 1 ((r0++zac x::pairT c d)++[10])==gtL)=false from yo0.2 λe=>by unfold gtL at e;injection e with e _;exact h0.2.2.2.1 e,Bool.and_false]
 ·rw[hT,he0]
  intro e;unfold qj at e;injection e with e _;exact h0.2.2.2.2 e
def zlu (r:TX):Prop:=zew ltL r/\zew gtL r
theorem tail_nil:zlu []:=⟨trivial,trivial⟩
theorem q7n {x:PV zu}(h:zat x=true)(r:TX):zlu (zaz x++r):=by
 obtain⟨_,_,_,h1,h2⟩:=heads h;exact⟨⟨h1 _ (.inl rfl),h2⟩,⟨h1 _ (.inr rfl),h2⟩⟩
theorem q3u {x:PV zu}(h:zat x=true){r:TX}(hr:zlu r)(out:SR)(hn:((allL ltL x.2.2.1++(zcp x++allL gtL x.2.2.2.2.2.1))++r).length<=3000)(hm:∀l∈(allL ltL x.2.2.1++(zcp x++allL gtL x.2.2.2.2.2.1))++r,l.length<=3000):
 zjn ((allL ltL x.2.2.1++(zcp x++allL gtL x.2.2.2.2.2.1))++r) out (x.1,(x.2.1,(([]:PV zf),(x.2.2.2.1,(x.2.2.2.2.1,(([]:PV zf),())))))) (zac x)=some (.inl (r,out++[x],())):=by
 obtain⟨f,t,o,n,m,w,u⟩:=x;obtain⟨_,_,_,_,_,_,_,_,_,_,_,_,⟨l1,m1,g1⟩,⟨l2,m2,g2⟩,hpos⟩:=ziw h;dsimp only at l1 m1 g1 l2 m2 g2 hpos hn hm ⊢;unfold zjn;dsimp only;have hmid:zcp (f,t,o,n,m,w,u)=if List.length o=0 then[] else if List.length w=0 then[] else[midL]:=rfl
 have hwd:zac (f,t,o,n,m,w,u)=if List.length o=0 then 97 else if List.length w=0 then 100 else 99:=rfl
 rw[hwd];rw[hmid] at hn hm ⊢;by_cases ho:List.length o=0
 ·obtain rfl:o=[]:=yt0 ho
  rw[yx0 ho,show(allL ltL []++(([]:TX)++allL gtL w))++r=allL gtL w++r from rfl] at hn hm;rw[yx0 ho,yx0 ho,show(allL ltL []++(([]:TX)++allL gtL w))++r=allL gtL w++r from rfl];rw[show((97:UInt8)==97)=true from rfl,ys0,yd0,ya0];dsimp only;rw[show((97:UInt8)==99)=false from rfl,yd0,ya0];dsimp only;rw[show((97:UInt8)==100)=false from rfl,yb1,yb0,zpl (.inr rfl) hr.2 m2 g2 hn hm];rfl
 ·rw[yw0 ho] at hn hm
  rw[yw0 ho,yw0 ho];by_cases hw:List.length w=0
  ·obtain rfl:w=[]:=yt0 hw
   rw[yx0 hw,show(allL ltL o++(([]:TX)++allL gtL []))++r=allL ltL o++r from by rw[show(([]:TX)++allL gtL [])=[] from rfl,yz0]] at hn hm;rw[yx0 hw,yx0 hw,show(allL ltL o++(([]:TX)++allL gtL []))++r=allL ltL o++r from by rw[show(([]:TX)++allL gtL [])=[] from rfl,yz0]];rw[show((100:UInt8)==97)=false from rfl,yb1,yb0,zpl (.inl rfl) hr.1 m1 g1 hn hm,ya0,ya0];rfl
  ·rw[yw0 hw,yj0,show([midL]++allL gtL w)++r=midL::(allL gtL w++r) from rfl] at hn hm
   rw[yw0 hw,yw0 hw,yj0,show([midL]++allL gtL w)++r=midL::(allL gtL w++r) from rfl];have hmidok:zew ltL (midL::(allL gtL w++r)):=⟨rfl,by decide⟩;have hn2:(allL gtL w++r).length<=3000:=by rw[ye0,yf0] at hn;omega
   rw[show((99:UInt8)==97)=false from rfl,yb1,yb0,zpl (.inl rfl) hmidok m1 g1 hn hm,ya0,ya0];dsimp only;rw[show((99:UInt8)==99)=true from rfl,yb0,show((((midL::(allL gtL w++r)).length:Nat):Int)==0)=false from yo0.2 (by simp only[yf0];omega),yd0,show(midL::(allL gtL w++r)).getD ((0:Int).toNat) []=midL from rfl,yn1,ys0,yd0,ya0];dsimp only;rw[show((99:UInt8)==100)=false from rfl,yb1,yb0,show List.drop 1 (midL::(allL gtL w++r))=allL gtL w++r from rfl,zpl (.inr rfl) hr.2 m2 g2 hn2 (λx hx=>hm x (yq0 _ (yg0 _ hx)))];rfl
theorem zr3 {g:List UInt8}(hg:g=ltL\/g=gtL){r:TX}(hr:zew g r){l:TX}(h:∀s∈l,jl s=true)(he:zdp l)(hn:(allL g l++r).length<=3000)(hm:∀x∈allL g l++r,x.length<=3000):
 zb7 (allL g l++r) g=some ((l,((allL g l).length:Int),()),())/\cutB ((allL g l).length:Int) ((allL g l++r).length:Int) (allL g l++r).length=true/\cutL ((allL g l).length:Int) ((allL g l++r).length:Int) (allL g l++r)=r:=
 ⟨qyy hg hr h he hn hm,zen (by rw[ye0];omega),by rw[zeo,yd2]⟩
theorem q3v (s:List UInt8){x:PV zu}(h:zat x=true){r:TX}(hr:zlu r)(out:SR)(hn:((allL ltL x.2.2.1++(zcp x++allL gtL x.2.2.2.2.2.1))++r).length<=3000)(hm:∀l∈(allL ltL x.2.2.1++(zcp x++allL gtL x.2.2.2.2.2.1))++r,l.length<=3000):
 zl2 s ((allL ltL x.2.2.1++(zcp x++allL gtL x.2.2.2.2.2.1))++r) out (mkS x.1 x.2.1 x.2.2.2.1 x.2.2.2.2.1) (zac x)=some (.inl (s,r,out++[x],())):=by
 obtain⟨f,t,o,n,m,w,u⟩:=x;obtain⟨_,_,_,_,_,_,_,_,_,_,_,_,⟨l1,m1,g1⟩,⟨l2,m2,g2⟩,hpos⟩:=ziw h;dsimp only at l1 m1 g1 l2 m2 g2 hpos hn hm ⊢;unfold zl2 mkS;dsimp only;have hmid:zcp (f,t,o,n,m,w,u)=if List.length o=0 then[] else if List.length w=0 then[] else[midL]:=rfl
 have hwd:zac (f,t,o,n,m,w,u)=if List.length o=0 then 97 else if List.length w=0 then 100 else 99:=rfl
 rw[hwd];rw[hmid] at hn hm ⊢;by_cases ho:List.length o=0
 ·obtain rfl:o=[]:=yt0 ho
  rw[yx0 ho,show(allL ltL []++(([]:TX)++allL gtL w))++r=allL gtL w++r from rfl] at hn hm;rw[yx0 ho,yx0 ho,show(allL ltL []++(([]:TX)++allL gtL w))++r=allL gtL w++r from rfl];obtain⟨k1,k2,k3⟩:=zr3 (g:=gtL) (.inr rfl) hr.2 m2 g2 hn hm;rw[show((97:UInt8)==97)=true from rfl,ys0,yd0,ya0];dsimp only;rw[show((97:UInt8)==99)=false from rfl,yd0,show((97:UInt8)==100)=false from rfl,yb1,yb0,k1,ya0];dsimp only;rw[k2,yb0,k3];rfl
 ·rw[yw0 ho] at hn hm
  rw[yw0 ho,yw0 ho];by_cases hw:List.length w=0
  ·obtain rfl:w=[]:=yt0 hw
   rw[yx0 hw,show(allL ltL o++(([]:TX)++allL gtL []))++r=allL ltL o++r from by rw[show(([]:TX)++allL gtL [])=[] from rfl,yz0]] at hn hm;rw[yx0 hw,yx0 hw,show(allL ltL o++(([]:TX)++allL gtL []))++r=allL ltL o++r from by rw[show(([]:TX)++allL gtL [])=[] from rfl,yz0]];obtain⟨k1,k2,k3⟩:=zr3 (g:=ltL) (.inl rfl) hr.1 m1 g1 hn hm;rw[show((100:UInt8)==97)=false from rfl,yb1,yb0,k1,ya0];dsimp only;rw[k2,yb0,k3];rfl
  ·rw[yw0 hw,yj0,show([midL]++allL gtL w)++r=midL::(allL gtL w++r) from rfl] at hn hm
   rw[yw0 hw,yw0 hw,yj0,show([midL]++allL gtL w)++r=midL::(allL gtL w++r) from rfl];have hmidok:zew ltL (midL::(allL gtL w++r)):=⟨rfl,by decide⟩;have hn2:(allL gtL w++r).length<=3000:=by rw[ye0,yf0] at hn;omega
   obtain⟨k1,k2,k3⟩:=zr3 (g:=ltL) (.inl rfl) hmidok m1 g1 hn hm;obtain⟨k4,k5,k6⟩:=zr3 (g:=gtL) (.inr rfl) hr.2 m2 g2 hn2 (λx hx=>hm x (yq0 _ (yg0 _ hx)));rw[show((99:UInt8)==97)=false from rfl,yb1,yb0,k1,ya0];dsimp only;rw[k2,yb0,k3,ya0];dsimp only;rw[show((99:UInt8)==99)=true from rfl,yb0,show((99:UInt8)==100)=false from rfl,yb1,yb0,show List.drop 1 (midL::(allL gtL w++r))=allL gtL w++r from rfl,k4,ya0];dsimp only;rw[k5,yb0,k6];rfl
theorem zg1 {x:PV zu}(h:zat x=true)(s:List UInt8){r:TX}(hr:zlu r)(out:SR)(hm:∀l∈zaz x++r,l.length<=3000)(hn:(zaz x++r).length<=3000):
 (out.length<20->zfh (zaz x++r) out=some (.inl (r,out++[x],())))/\(out.length<=20->zgh s (zaz x++r) out=some (.inl (s,r,out++[x],()))):=by
 obtain⟨⟨tt,htt,_⟩,⟨a,b,c,d,j,e1,e2,e3⟩,e4,_,_⟩:=heads h;have hl0:1<=(zav x).length:=by rw[htt];simp
 have e:zaz x++r=zav x::((allL ltL x.2.2.1++(zcp x++allL gtL x.2.2.2.2.2.1))++r):=by unfold zaz;rw[yw1]
 rw[e] at hm hn ⊢;simp only[yf0] at hn;have hm0:=hm _ (yk0 ..);have hm1:∀l∈(allL ltL x.2.2.1++(zcp x++allL gtL x.2.2.2.2.2.1))++r,l.length<=3000:=λl hl=>hm l (yg0 _ hl);constructor
 ·intro h20
  rw[(qg9 _ _ out hm0 (by omega) hm1 (by omega)).1,yw0 (by omega),e1];dsimp only;rw[e2,<-e3];exact q3u h hr out (by omega) hm1
 ·intro h20
  rw[qha s _ _ out hl0 hm0 (by omega) (by omega),e4];dsimp only;exact q3v s h hr out (by omega) hm1
end R.O.V.N
end

section
/- Steps, read: both sides answer the same. -/
open Go Go.Dn
namespace R.O.V.N
theorem zk0 (x:PV zu)(os:SR):(x::os).flatMap zaz=zaz x++os.flatMap zaz:=yv1
theorem qeq:∀{os:SR},(∀x∈os,zat x=true)->zlu (os.flatMap zaz)
 |[],_=>tail_nil
 |x::os,h=>by rw[zk0];exact q7n (h x (yk0 ..)) _
theorem zos:∀(os out:SR),(∀x∈os,zat x=true)->(out++os).length<=20->(∀l∈os.flatMap zaz,l.length<=3000)->(os.flatMap zaz).length<=3000->
 zc6 (os.flatMap zaz,out,())=some (.inl (out++os,()))
 |[],out,_,_,_,_=>by rw[yz0];exact zdn rfl
 |x::os,out,hg,hl,hm,hn=>by
  rw[zk0] at hm hn ⊢;rw[ye0,yf0] at hl;have hg':∀y∈os,zat y=true:=λy hy=>hg y (yg0 _ hy);have ih:=zos os (out++[x]) hg' (by simp;omega) (λl hl=>hm l (yq0 _ hl)) (by rw[ye0] at hn;omega);rw[yj0] at ih;exact go_I ((zg1 (hg x (yk0 ..)) [] (qeq hg') out hm hn).1 (by omega)) ih
theorem zot (s:List UInt8):∀(os out:SR),(∀x∈os,zat x=true)->(out++os).length<=20->(∀l∈os.flatMap zaz,l.length<=3000)->(os.flatMap zaz).length<=3000->
 zfc (s,os.flatMap zaz,out,())=some (.inl (s,out++os,()))
 |[],out,_,_,_,_=>by rw[yz0];exact zex rfl
 |x::os,out,hg,hl,hm,hn=>by
  rw[zk0] at hm hn ⊢;rw[ye0,yf0] at hl;have hg':∀y∈os,zat y=true:=λy hy=>hg y (yg0 _ hy);have ih:=zot s os (out++[x]) hg' (by simp;omega) (λl hl=>hm l (yq0 _ hl)) (by rw[ye0] at hn;omega);rw[yj0] at ih;exact go_S ((zg1 (hg x (yk0 ..)) s (qeq hg') out hm hn).2 (by omega)) ih
theorem jab {x:PV zu}(h:zat x=true):∀l∈zaz x,isL l:=by
 obtain⟨_,_,_,_,_,_,_,_,_,_,_,_,⟨_,m1,_⟩,⟨_,m2,_⟩,_⟩:=ziw h;intro l hl;unfold zaz at hl;rcases yg1.1 hl with rfl|hl
 ·exact(heads h).1
 ·rcases yu0.1 hl with hl|hl
  ·exact qfy (by decide) m1 l hl
  ·rcases yu0.1 hl with hl|hl
   ·unfold zcp at hl
    split at hl
    ·cases hl
    ·split at hl
     ·cases hl
     ·obtain rfl:=yl1.1 hl
      exact q9u
   ·exact qfy (by decide) m2 l hl
theorem zkj {os:SR}(hg:za9 os=true):cutP (za3 os)=os.flatMap zaz:=by
 have hL:∀l∈os.flatMap zaz,isL l:=λl hl=>by
  obtain⟨x,hx,hl⟩:=List.mem_flatMap.1 hl;exact jab ((zn1 hg).2 x hx) l hl
 rw[<-qas os,zqn hL]
theorem zc0 {os:SR}(hg:za9 os=true)(hl:(za3 os).length<=3000)(s:List UInt8):
 zj0 (cutP (za3 os))=some ((os,true,()),())/\zfc (s,cutP (za3 os),[],())=some (.inl (s,os,())):=by
 obtain⟨h1,h2⟩:=zn1 hg;have hc:=zcx (za3 os);have hm:∀l∈cutP (za3 os),l.length<=3000:=λl h=>by have:=zd0 h;omega
 rw[zkj hg] at hc hm ⊢;refine⟨?_,zot s os [] h2 (by simpa using h1) hm (by omega)⟩;unfold zj0;rw[show zc6 (os.flatMap zaz,([]:PV zk),())=_ from zos os [] h2 (by simpa using h1) hm (by omega)];rfl
def zjo (x:PV zu):Bool:=((x.2.2.1:TX)++(x.2.2.2.2.2.1:TX)).any λt=>t==[]
theorem q7o (s:List UInt8){gs:SR}(hl:gs.length<=3000)(h:∀x∈gs,OW x):z0r (s,gs,gs,(gs.length:Int),0,())=some (if gs.any zjo then .inr ([],1,false,()) else .inl (s,gs,())):=by
 have inner:∀(i:Nat) (l:TX),l.length<=6000->z0s (s,gs,gs,(gs.length:Int),(i:Int),l,(l.length:Int),0,())=some (if l.any (λt=>t==[]) then .inr ([],1,false,()) else .inl (s,gs,gs,(gs.length:Int),(i:Int),())):=λi l hl6=>
  zck (B:=λd=>ze7 d.1 d.2.1 d.2.2.1 d.2.2.2.1 d.2.2.2.2.1 d.2.2.2.2.2.1 d.2.2.2.2.2.2.1 d.2.2.2.2.2.2.2.1) l (λt=>t==[]) (λk=>(s,gs,gs,(gs.length:Int),(i:Int),l,(l.length:Int),(k:Int),())) (λ_=>.inr ([],1,false,())) (.inl (s,gs,gs,(gs.length:Int),(i:Int),()))
   (λk hk hq=>by
     show ze7 s gs gs gs.length i l l.length k=_;unfold ze7;rw[yc0 (by omega:(k:Int)<(l.length:Int)),yb0,zq hk,yb0,toNat_cast,qo hk,show(l[k]==([]:PV .str))=false from hq,yd0,wrap64 (by omega) (by omega)];rfl)
   (λk hk hq=>by
     show ze7 s gs gs gs.length i l l.length k=_;unfold ze7;rw[yc0 (by omega:(k:Int)<(l.length:Int)),yb0,zq hk,yb0,toNat_cast,qo hk,show(l[k]==([]:PV .str))=true from hq,yb0])
   (by
     show ze7 s gs gs gs.length i l l.length l.length=_;unfold ze7;rw[yi0 (yi1 _),yd0])
 have body:∀i (hi:i<gs.length),ze8 s gs gs (gs.length:Int) (i:Int)=if zjo gs[i]=true then some (.inr (.inr ([],1,false,()))) else some (.inl (s,gs,gs,(gs.length:Int),((i+1:Nat):Int),())):=by
  intro i hi;obtain⟨⟨h1,_⟩,h2,_⟩:=h _ (ym1 hi)
  have hlen:((([]:PV zf)++gs[i].2.2.1)++gs[i].2.2.2.2.2.1).length<=6000:=by
   show List.length (([]++gs[i].2.2.1)++gs[i].2.2.2.2.2.1)<=6000;rw[ye0,yp1];omega
  unfold ze8 zv8;rw[yc0 (by omega:(i:Int)<(gs.length:Int)),yb0,zq hi,yb0,toNat_cast,qo hi,jr (by show 0+_<=_;omega),yb0,ya0];dsimp only;rw[jr (by rw[yp1];omega),yb0,inner i _ hlen,ya0,yp1];unfold zjo;cases List.any (gs[i].2.2.1++gs[i].2.2.2.2.2.1) (λt=>t==[])
  ·rw[yw0 (by simp),yw0 (by simp)]
   dsimp only;rw[wrap64 (by omega) (by omega)];rfl
  ·rw[yx0 rfl,yx0 rfl]
 exact zck (B:=λd=>ze8 d.1 d.2.1 d.2.2.1 d.2.2.2.1 d.2.2.2.2.1) gs zjo (λi=>(s,gs,gs,(gs.length:Int),(i:Int),())) (λ_=>.inr ([],1,false,())) (.inl (s,gs,()))
  (λi hi hq=>by
    show ze8 s gs gs gs.length i=_;rw[body i hi,hq,yw0 (by simp)])
  (λi hi hq=>by
    show ze8 s gs gs gs.length i=_;rw[body i hi,hq,yx0 rfl])
  (by
    show ze8 s gs gs gs.length gs.length=_;unfold ze8;rw[yi0 (yi1 _),yd0])
theorem q7p {gs:SR}(hg:za9 gs=true):gs.any zjo=false:=by
 rw[List.any_eq_false];intro x hx hq;obtain⟨_,_,_,_,_,_,_,_,_,_,_,_,⟨_,m1,_⟩,⟨_,m2,_⟩,_⟩:=ziw ((zn1 hg).2 x hx);unfold zjo at hq;obtain⟨t,ht,he⟩:=List.any_eq_true.1 hq;have he:t=[]:=by simpa using he
 subst he;rcases yu0.1 ht with ht|ht
 ·have:=(zca (m1 _ ht)).1
  simp at this
 ·have:=(zca (m2 _ ht)).1
  simp at this
def NoS (s:List UInt8):Prop:=∀gs:SR,za9 gs=true->za3 gs=s->s.length<=3000->False
theorem zje (s:List UInt8):∃(gs:SR) (c:Int) (q:Bool),zmh s=some ((gs,c,q,()),())/\
 ((za9 gs=true/\za3 gs=s/\s.length<=3000/\c=0/\q=true)\/(NoS s/\gs=[]/\c=1/\q=false)):=by
 unfold zmh;by_cases hs:s.length<=3000
 ·rw[yc0 (by omega:(s.length:Int)<=3000),yb0,zru s (by omega),ya0]
  dsimp only;have hc:=zcx s;obtain⟨gs,q,e,hsm⟩:=zw1 (cutP s) (by omega) (λl h=>by have:=zd0 h;omega);rw[e,ya0];dsimp only;rw[zyw hsm,ya0];dsimp only
  have key:∀gs0,za9 gs0=true->za3 gs0=s->gs=gs0/\q=true/\sOk gs=true/\sR gs=s:=λgs0 h1 h2=>by
   have:=(zc0 h1 (by rw[h2];exact hs) s).1;rw[h2,e] at this;have h3:=yl0 this;have h4:=(yk1 h3).1;obtain⟨rfl,h5⟩:=yk1 h4;have h6:=(yk1 h5).1;have h7:sOk gs=true:=by unfold sOk;rw[h1,h2,yc0 hs];rfl
   exact⟨rfl,h6,h7,by unfold sR;rw[yx0 h7,h2]⟩
  by_cases H:q=true/\sOk gs=true/\sR gs=s
  ·obtain⟨h1,h2,h3⟩:=H
   rw[h1,h2,yb0,yb0,h3,ya0];dsimp only;rw[yn1,yb0,ya0];have h2':=h2;unfold sOk at h2';rw[yh0] at h2';refine⟨gs,0,true,rfl,.inl ⟨h2'.1,?_,hs,rfl,rfl⟩⟩;unfold sR at h3;rw[yx0 h2] at h3;exact h3
  ·have hno:NoS s:=λgs0 h1 h2 _=>by
    obtain⟨rfl,h5,h6,h7⟩:=key gs0 h1 h2;exact H ⟨h5,h6,h7⟩
   refine⟨[],1,false,?_,.inr ⟨hno,rfl,rfl,rfl⟩⟩;cases hq:q
   ·rfl
   ·rw[yb0]
    cases ho:sOk gs
    ·rfl
    ·rw[yb0]
     have:(sR gs==s)=false:=by
      rw[yo0];exact λh=>H ⟨hq,ho,h⟩
     rw[this];rfl
 ·rw[yi0 (by omega:¬(s.length:Int)<=3000),yd0,ya0]
  exact⟨[],1,false,rfl,.inr ⟨λ_ _ _ h=>hs h,rfl,rfl,rfl⟩⟩
theorem zjf (s:List UInt8):∃(gs:SR) (c:Int) (q:Bool),zmi s=some ((gs,c,q,()),())/\
 ((za9 gs=true/\za3 gs=s/\s.length<=3000/\c=0/\q=true)\/(NoS s/\gs=[]/\c=1/\q=false)):=by
 unfold zmi;by_cases hs:s.length<=3000
 ·rw[yi0 (by omega:¬(s.length:Int)>3000),yd0,zsy s (by omega),ya0]
  dsimp only;have hc:=zcx s
  have key:∀gs0,za9 gs0=true->za3 gs0=s->zfc (s,cutP s,[],())=some (.inl (s,gs0,())):=λgs0 h1 h2=>by
   have:=(zc0 h1 (by rw[h2];exact hs) s).2
   rwa [h2] at this
  rcases zzc s (cutP s).length (cutP s) [] (ym0 _) (by simp;omega) (λl h=>⟨ys2.2 (zi7 h),by have:=zd0 h;omega⟩) (λx hx=>by cases hx) with⟨gs,q1,q2,q3⟩|q3
  ·have same:∀gs0,za9 gs0=true->za3 gs0=s->gs=gs0:=λgs0 h1 h2=>by
    have h3:=key gs0 h1 h2;rw[q3] at h3;exact(yk1 (yk1 (Sum.inl.inj (yl0 h3))).2).1
   rw[q3,ya0];dsimp only;rw[q7o s q1 q2,ya0];cases hh:gs.any zjo
   ·rw[yw0 (by simp)]
    dsimp only;have hsm:=OW.tot q1 q2;rw[jbs gs hsm,ya0];dsimp only;cases hg:za9 gs
    ·refine⟨[],1,false,rfl,.inr ⟨λgs0 h1 h2 _=> ?_,rfl,rfl,rfl⟩⟩
     rw[same gs0 h1 h2,h1] at hg;cases hg
    ·rw[ys0,yd0,q9v hg,ya0]
     dsimp only;rw[ya0];dsimp only;by_cases ht:za3 gs=s
     ·rw[ht,yn1]
      exact⟨gs,0,true,rfl,.inl ⟨hg,ht,hs,rfl,rfl⟩⟩
     ·rw[yo0.2 ht]
      refine⟨[],1,false,rfl,.inr ⟨λgs0 h1 h2 _=> ?_,rfl,rfl,rfl⟩⟩;exact ht (by rw[same gs0 h1 h2];exact h2)
   ·rw[yx0 rfl]
    refine⟨[],1,false,rfl,.inr ⟨λgs0 h1 h2 _=> ?_,rfl,rfl,rfl⟩⟩;have:=q7p h1;rw[<-same gs0 h1 h2,hh] at this;cases this
  ·rw[q3,ya0]
   refine⟨[],1,false,rfl,.inr ⟨λgs0 h1 h2 _=> ?_,rfl,rfl,rfl⟩⟩;have h3:=key gs0 h1 h2;rw[q3] at h3;cases h3
 ·rw[yc0 (by omega:(s.length:Int)>3000),yb0]
  exact⟨[],1,false,rfl,.inr ⟨λ_ _ _ h=>hs h,rfl,rfl,rfl⟩⟩
theorem q3w (s:List UInt8):∃(gs:SR) (c:Int) (q:Bool),zmh s=some ((gs,c,q,()),())/\zmi s=some ((gs,c,q,()),())/\
 ((za9 gs=true/\za3 gs=s/\s.length<=3000/\c=0/\q=true)\/(gs=[]/\c=1/\q=false)):=by
 obtain⟨g1,c1,q1,e1,h1⟩:=zje s;obtain⟨g2,c2,q2,e2,h2⟩:=zjf s;rcases h1 with⟨a1,a2,a3,rfl,rfl⟩|⟨a1,rfl,rfl,rfl⟩
 ·rcases h2 with⟨b1,b2,_,rfl,rfl⟩|⟨b1,_⟩
  ·have r1:=(zc0 a1 (by rw[a2];exact a3) s).1
   have r2:=(zc0 b1 (by rw[b2];exact a3) s).1;rw[a2] at r1;rw[b2,r1] at r2;have:g1=g2:=(yk1 (yk1 (yl0 r2)).1).1;subst this;exact⟨g1,0,true,e1,e2,.inl ⟨a1,a2,a3,rfl,rfl⟩⟩
  ·exact(b1 g1 a1 a2 a3).elim
 ·rcases h2 with⟨b1,b2,b3,_⟩|⟨_,rfl,rfl,rfl⟩
  ·exact(a1 g2 b1 b2 b3).elim
  ·exact⟨[],1,false,e1,e2,.inr ⟨rfl,rfl,rfl⟩⟩
end R.O.V.N
end

section
/- A text is a patch of a way: both sides answer the same. -/
open Go Go.Dn
namespace R
theorem qvf (s:List UInt8):∃(gs:GR) (c:Int) (q:Bool),zmb s=some ((gs,c,q,()),())/\zmc s=some ((gs,c,q,()),())/\(zaf gs=true\/gs=[]):=by
 obtain⟨r1,e1,h1⟩:=U.zje s;obtain⟨r2,e2,h2⟩:=U.zjf s;rcases h1 with⟨gs,a1,a2,a3,a4,rfl⟩|⟨a1,rfl⟩
 ·rcases h2 with⟨gs',b1,b2,b3,b4,rfl⟩|⟨b1,rfl⟩
  ·obtain rfl:=U.zx8 a2 b2
   exact⟨gs,0,true,e1,e2,.inl a4⟩
  ·exact absurd trivial λ_=>b1 gs a1 a2 a3 a4
 ·rcases h2 with⟨gs',b1,b2,b3,b4,rfl⟩|⟨b1,rfl⟩
  ·exact absurd trivial λ_=>a1 gs' b1 b2 b3 b4
  ·exact⟨[],1,false,e1,e2,.inr rfl⟩
theorem jbw (way:Int)(h:1<=way/\way<=4)(s:List UInt8):∃b:Bool,zqg way s=some ((b,()),())/\zr4 way s=some ((b,()),()):=by
 have hw:way=1\/way=2\/way=3\/way=4:=by omega
 unfold zqg zr4;rcases hw with rfl|rfl|rfl|rfl
 ·obtain⟨g,c,q,e1,e2,_⟩:=O.V.N.q3w s
  rw[show((1:Int)==1)=true from rfl,yb0,yb0,e1,e2];exact⟨q,rfl,rfl⟩
 ·obtain⟨g,c,q,e1,e2,_⟩:=qvf s
  rw[show((2:Int)==1)=false from rfl,yd0,yd0,show((2:Int)==2)=true from rfl,yb0,yb0,e1,e2];exact⟨q,rfl,rfl⟩
 ·obtain⟨g,c,q,e1,e2,_⟩:=qvd s
  rw[show((3:Int)==1)=false from rfl,yd0,yd0,show((3:Int)==2)=false from rfl,yd0,yd0,show((3:Int)==3)=true from rfl,yb0,yb0,e1,e2];exact⟨q,rfl,rfl⟩
 ·obtain⟨g,c,q,e1,e2,_⟩:=O.V.qyv s
  rw[show((4:Int)==1)=false from rfl,yd0,yd0,show((4:Int)==2)=false from rfl,yd0,yd0,show((4:Int)==3)=false from rfl,yd0,yd0,show((4:Int)==4)=true from rfl,yb0,e1,e2];exact⟨q,rfl,rfl⟩
end R
end

section
/- All ways of which a text is a patch: both sides answer the same. -/
open Go Go.Dn
namespace R
noncomputable abbrev BWI (d:PV .str×PV qm×PV (.int .i64)×Unit):=zih d.1 d.2.1 d.2.2.1
noncomputable abbrev BWS (d:PV .str×PV qm×PV (.int .i64)×Unit):=zii d.1 d.2.1 d.2.2.1
theorem qcr (s:List UInt8):∀(n:Nat) (k:Int) (out:List Int),k+n=5->1<=k->out.length+n<=4->
 ∃l:List Int,l.length<=4/\zvd (s,out,k,())=some (l,())/\zve (s,out,k,())=some (l,())
 |0,k,out,hk,h1,ho=>by
  refine⟨out,by omega,jg (B:=BWI) ?_,jg (B:=BWS) ?_⟩
  ·show zih s out k=_
   unfold zih;rw[yi0 (by omega:¬k<=4),yd0]
  ·show zii s out k=_
   unfold zii;rw[yi0 (by omega:¬k<=4),yd0]
 |n+1,k,out,hk,h1,ho=>by
  obtain⟨b,e1,e2⟩:=jbw k ⟨h1,by omega⟩ s;have hr:qw (out.length+[k].length)=true:=jr (by simp only[yf0,yp0];omega)
  obtain⟨o2,ho2,g1,g2⟩:∃o2:List Int,o2.length+n<=4/\zih s out k=some (.inl (s,o2,k+1,()))/\zii s out k=some (.inl (s,o2,k+1,())):=by
   unfold zih zii;rw[yc0 (by omega:k<=4),yb0,yb0,e1,e2,ya0];dsimp only;cases b
   ·rw[yd0,ya0]
    dsimp only;rw[wrap64 (by omega) (by omega)];exact⟨out,by omega,rfl,rfl⟩
   ·rw[yb0,hr,yb0,ya0]
    dsimp only;rw[wrap64 (by omega) (by omega)];exact⟨out++[k],by rw[ye0,yf0,yp0];omega,rfl,rfl⟩
  obtain⟨l,hl,q1,q2⟩:=qcr s n (k+1) o2 (by omega) (by omega) ho2;exact⟨l,hl,Eq.trans (zae (B:=BWI) (s:=(s,out,k,())) g1) q1,Eq.trans (zae (B:=BWS) (s:=(s,out,k,())) g2) q2⟩
theorem q7q (s:List UInt8):∃(l:List Int) (q:Bool),znc s=some ((l,q,()),())/\zrd s=some ((l,q,()),())/\l.length<=4:=by
 unfold znc zrd;cases decide ((s.length:Int)>3000)
 ·obtain⟨l,hl,e1,e2⟩:=qcr s 4 1 [] (by omega) (by omega) (ym0 _)
  rw[yd0,yd0,show zvd (s,([]:PV qm),1,())=_ from e1,show zve (s,[],1,())=_ from e2];exact⟨l,true,rfl,rfl,hl⟩
 ·exact⟨[],false,rfl,rfl,ye1 _⟩
theorem qer:∀l:List Int,tot qm l=l.length
 |[]=>rfl
 |x::l=>by
  have:=qer l;have h:tot qm (x::l)=(x::l).length+((x::l).map (tot (.int .i64))).sum:=zcr;have h2:tot qm l=l.length+(l.map (tot (.int .i64))).sum:=zcr;have h3:tot (.int .i64) x=0:=rfl;rw[h,List.map_cons,List.sum_cons,h3];omega
theorem q3x (t0:PV .str)(hw:WfV .str t0):zuf t0=some ((true,()),()):=by
 unfold zuf;by_cases hs:List.length t0<=1048576
 ·rw[yi0 (by omega:¬(List.length t0:Int)>1048576),yd0]
  obtain⟨l,q,hI,hS,hl⟩:=q7q t0;have ht:=qer l;have c2:cn qm l<=0+5*tot qm l:=q6r (by decide) (by decide);have m2:=zly tx qm l 1;simp only[hS,hI,ya0,q3y l (by omega),qvg l 1 (by omega) (by omega) (by omega),qvh l 1 (by omega) (by omega) (by omega),yi0 (by omega:¬(mk tx qm l 1).2<0),yn1,ys0,yd0]
 ·rw[yc0 (by omega:(List.length t0:Int)>1048576)];rfl
end R
end
