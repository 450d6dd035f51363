/- Parts of the proof: Sa1 Sa2 Sa3 Sa4 Sa6 Sa7 Sa8 Sb5 Sb6 Sb7 Sb8 Sb9 Sc1 Sc2 Sc3 Sc4 Sc5 Sc6 Sc7 Sc8 Sc9 Sd4 Sd5 Sd7 Sd8 Sd9 Se1 Se2 Se3. -/
import Derived.Test.YtljgmcbpjakecaaGreatDoorPaIe
import Derived.Test.YtljgmcbpjakecaaGreatDoorL3
import Derived.Lib.ItoaLen
set_option linter.unusedVariables false
section
/- Lines: both sides' tests of lines answer the same. -/
open Go Go.Dn
namespace R
theorem in_I (a b c:Int):zcd a b c=some ((decide (a>=b)&&decide (a<=c),()),()):=by
 unfold zcd;cases decide (a>=b)<;>rfl
theorem in_S (a b c:Int):zck a b c=some ((decide (a>=b)&&decide (a<=c),()),()):=by
 unfold zck;cases decide (a>=b)<;>rfl
def inI (a b c:Int):Bool:=decide (a>=b)&&decide (a<=c)
def hasEnd (s:List UInt8):Bool:=(s.take (s.length -1)).contains 10
def xk (s:List UInt8):Bool:=inI (s.length:Int) 1 30&& !hasEnd s
def endP (s:List UInt8):Bool:=s.drop (s.length -1)==[10]
theorem zm2 {s:List UInt8}(h:xk s=true):1<=s.length/\s.length<=30:=by
 unfold xk inI at h;simp only[yh0,yr0] at h;omega
theorem znm (s:List UInt8)(hs:s.length<=4611686018427387904):ze6 s=some ((xk s,()),()):=by
 unfold ze6;have hw:IntKind.wrap .i64 ((s.length:Int) -1)=(s.length:Int) -1:=wrap64 (by omega) (by omega)
 rw[show z4w (s,0,())=_ from zcb (B:=λd=>zey d.1 d.2.1) (s.length -1) (λi=>s.getD i 0==10) (λi=>(s,(i:Int),())) (λ_=>.inr (false,())) (.inl (s,()))
  (λi hi hq=>by
    show zey s i=_;unfold zey;rw[hw,yc0 (by omega:(i:Int)<(s.length:Int) -1),yb0,zq (by omega),yb0,toNat_cast];rw[show((((s.getD i 0:UInt8).toNat:Nat):Int)==10)=(s.getD i 0==10) from zb3 (n:=10) (by omega),hq,yd0,wrap64 (by omega) (by omega)];simp)
  (λi hi hq=>by
    show zey s i=_;unfold zey;rw[hw,yc0 (by omega:(i:Int)<(s.length:Int) -1),yb0,zq (by omega),yb0,toNat_cast];rw[show((((s.getD i 0:UInt8).toNat:Nat):Int)==10)=(s.getD i 0==10) from zb3 (n:=10) (by omega),hq,yb0])
  (by
    show zey s ((s.length -1:Nat):Int)=_;unfold zey;rw[hw,yi0 (by omega:¬(((s.length -1:Nat):Int)<(s.length:Int) -1)),yd0])]
 rw[qqt (by omega)];unfold xk hasEnd;cases(s.take (s.length -1)).contains 10
 ·simp only[Bool.false_eq_true,if_false,ya0,in_S];simp[inI]
 ·simp
theorem zix (s:List UInt8)(h1:1<=s.length)(hs:s.length<=4611686018427387904):zda s=some ((endP s,()),()):=by
 unfold zda;have hw:IntKind.wrap .i64 ((s.length:Int) -1)=((s.length -1:Nat):Int):=by rw[wrap64 (by omega) (by omega)];omega
 rw[hw,zq (by omega),yb0,toNat_cast];rw[show((((s.getD (s.length -1) 0:UInt8).toNat:Nat):Int)==10)=(s.getD (s.length -1) 0==10) from zb3 (n:=10) (by omega)];unfold endP;rw[List.drop_eq_getElem_cons (by omega:s.length -1<s.length),List.drop_of_length_le (by omega),ql (by omega)];simp
theorem zw6 (s:List UInt8)(hs:s.length<=4611686018427387904):zmg s=some ((xk s,()),()):=by
 unfold zmg;rw[in_I,ya0];dsimp only;unfold xk;cases h:inI (s.length:Int) 1 30
 ·unfold inI at h;rw[h];rfl
 ·have h':=h
  unfold inI at h';rw[h',yb0];simp only[yh0,yr0] at h';rw[wrap64 (by omega) (by omega)];rw[show cutB 0 ((s.length:Int) -1) s.length=true from by unfold cutB;simp;omega,yb0];unfold zlc zp0;rw[ya0];unfold hasEnd cutL;rw[show((s.length:Int) -1).toNat=s.length -1 from by omega];simp
theorem zrg (s:List UInt8)(hs:s.length<=4611686018427387904):zjq s=some ((endP s,()),()):=by
 unfold zjq zr9 zg0 endP;by_cases h:1<=s.length
 ·rw[yc0 (by simp;omega:(s.length:Int)>=(([10]:List UInt8).length:Int)),yb0]
  have hw:IntKind.wrap .i64 ((s.length:Int) -(([10]:List UInt8).length:Int))=((s.length -1:Nat):Int):=by
   rw[show((([10]:List UInt8).length:Nat):Int)=1 from rfl,wrap64 (by omega) (by omega)];omega
  rw[hw,show cutB ((s.length -1:Nat):Int) (s.length:Int) s.length=true from by unfold cutB;simp,yb0];unfold cutL;simp
 ·have:s=[]:=yt0 (by omega)
  subst this;rfl
def zcr (l:List (List UInt8)):Bool:=decide (l.length<=40)&& !(l.any λs=> !xk s)
def zrt (l:List (List UInt8)):Bool:= !(anyN l.length λk=>decide ((k:Int)<(l.length:Int) -1)&& !(endP (l.getD k [])))
def zbc (l:List (List UInt8)):Bool:=zcr l&&zrt l
def Sm (l:List (List UInt8)):Prop:=l.length<=4611686018427387904/\∀s∈l,s.length<=4611686018427387904
theorem Sm.len {l:List (List UInt8)}(h:Sm l):l.length<=4611686018427387904:=h.1
theorem Sm.mem {l:List (List UInt8)}(h:Sm l){i:Nat}(hi:i<l.length):(l[i]).length<=4611686018427387904:=h.2 _ (ym1 hi)
theorem Sm.of {l:List (List UInt8)}{n:Nat}(h:tot (.slice 9 .str) l<=n)(hn:n<=4611686018427387904):Sm l:=by
 refine⟨?_,λs hs=> ?_⟩
 ·have h':=h
  rw[zp1] at h';omega
 ·obtain⟨i,hi,rfl⟩:=yu2.1 hs
  have:=yo1 (zwf (e:=9) (t:=.str) (xs:=l) hi) h;rw[q7n] at this;omega
theorem z8n (t0:List (List UInt8))(hs:Sm t0):zlx t0=some ((zcr t0,()),()):=by
 unfold zlx zcr;by_cases hl:t0.length<=40
 ·rw[yc0 (by omega:(t0.length:Int)<=40),yb0,yc0 hl,yx1]
  rw[show zy3 (t0,false,t0,(t0.length:Int),true,true,t0,t0,false,t0,t0,(t0.length:Int),0,())=_ from
   zko (B:=λd=>zef d.1 d.2.1 d.2.2.1 d.2.2.2.1 d.2.2.2.2.1 d.2.2.2.2.2.1 d.2.2.2.2.2.2.1 d.2.2.2.2.2.2.2.1 d.2.2.2.2.2.2.2.2.1 d.2.2.2.2.2.2.2.2.2.1 d.2.2.2.2.2.2.2.2.2.2.1 d.2.2.2.2.2.2.2.2.2.2.2.1 d.2.2.2.2.2.2.2.2.2.2.2.2.1) t0 (λs=> !xk s)
   (λi=>(t0,false,t0,(t0.length:Int),true,true,t0,t0,false,t0,t0,(t0.length:Int),(i:Int),())) (λi=>.inr (t0,false,t0,(t0.length:Int),true,true,t0,t0,false,t0,(i:Int),())) (.inl (t0,false,t0,(t0.length:Int),true,true,t0,t0,false,t0,()))
   (λi hi hq=>by
     show zef _ _ _ _ _ _ _ _ _ _ t0 t0.length i=_;unfold zef zok;rw[yc0 (by omega:(i:Int)<(t0.length:Int)),yb0,zq hi,yb0,toNat_cast,ql hi,zw6 _ (hs.mem hi),ya0,ya0];dsimp only;rw[hq,yd0,wrap64 (by omega) (by omega)];rfl)
   (λi hi hq=>by
     show zef _ _ _ _ _ _ _ _ _ _ t0 t0.length i=_;unfold zef zok;rw[yc0 (by omega:(i:Int)<(t0.length:Int)),yb0,zq hi,yb0,toNat_cast,ql hi,zw6 _ (hs.mem hi),ya0,ya0];dsimp only;rw[hq,yb0])
   (by
     show zef _ _ _ _ _ _ _ _ _ _ t0 t0.length t0.length=_;unfold zef;rw[yi0 (yi1 _),yd0])]
  cases h:t0.any λs=> !xk s
  ·rfl
  ·simp
 ·rw[yi0 (by omega:¬(t0.length:Int)<=40),yd0,yi0 hl];rfl
theorem zpe (t0:List (List UInt8))(hs:Sm t0):zhg t0=some ((zbc t0,()),()):=by
 have hl:=hs.len;unfold zhg zbc;rw[z8n t0 hs,ya0];dsimp only;cases zcr t0
 ·rfl
 ·rw[ys0,yd0]
  have hw:IntKind.wrap .i64 ((t0.length:Int) -1)=(t0.length:Int) -1:=wrap64 (by omega) (by omega)
  have hr:∀i,i<t0.length->((bif decide ((i:Int)<(t0.length:Int) -1) then(zjq (t0.getD i [])).bind λr7=>some (t0,t0,(t0.length:Int),(i:Int), !r7.1.1,()) else some (t0,t0,(t0.length:Int),(i:Int),false,())):Option (PV zf×PV zf×Int×Int×Bool×Unit))=
   some (t0,t0,(t0.length:Int),(i:Int),decide ((i:Int)<(t0.length:Int) -1)&& !(endP (t0.getD i [])),()):=by
   intro i hi;cases decide ((i:Int)<(t0.length:Int) -1)
   ·rfl
   ·rw[yb0,ql hi,zrg _ (hs.mem hi)];rfl
  rw[show z0j (t0,t0,(t0.length:Int),0,())=_ from zcb (B:=λd=>zem d.1 d.2.1 d.2.2.1 d.2.2.2.1) t0.length (λk=>decide ((k:Int)<(t0.length:Int) -1)&& !(endP (t0.getD k [])))
   (λi=>(t0,t0,(t0.length:Int),(i:Int),())) (λ_=>.inr (false,())) (.inl ())
   (λi hi hq=>by
     show zem t0 t0 t0.length i=_;unfold zem;rw[yc0 (by omega:(i:Int)<(t0.length:Int)),yb0,zq hi,yb0,toNat_cast,hw,hr i hi,hq,ya0];dsimp only;rw[yd0,wrap64 (by omega) (by omega)];rfl)
   (λi hi hq=>by
     show zem t0 t0 t0.length i=_;unfold zem;rw[yc0 (by omega:(i:Int)<(t0.length:Int)),yb0,zq hi,yb0,toNat_cast,hw,hr i hi,hq,ya0];rfl)
   (by
     show zem t0 t0 t0.length t0.length=_;unfold zem;rw[yi0 (yi1 _),yd0])]
  unfold zrt;cases anyN t0.length λk=>decide ((k:Int)<(t0.length:Int) -1)&& !(endP (t0.getD k []))<;>rfl
theorem qas (t0:List (List UInt8))(hs:Sm t0):zl4 t0=some ((zbc t0,()),()):=by
 have hl:=hs.len;unfold zl4;have hw:IntKind.wrap .i64 ((t0.length:Int) -1)=(t0.length:Int) -1:=wrap64 (by omega) (by omega)
 have hr:∀i,i<t0.length->(((ze6 (t0.getD i [])).bind λr4=>bif !r4.1.1 then some (t0,t0,(t0.length:Int),(i:Int),true,()) else
  bif decide ((i:Int)<(t0.length:Int) -1) then(zda (t0.getD i [])).bind λr5=>some (t0,t0,(t0.length:Int),(i:Int), !r5.1.1,()) else some (t0,t0,(t0.length:Int),(i:Int),false,())):Option (PV zf×PV zf×Int×Int×Bool×Unit))=
  some (t0,t0,(t0.length:Int),(i:Int), !(xk (t0.getD i []))||(decide ((i:Int)<(t0.length:Int) -1)&& !(endP (t0.getD i []))),()):=by
  intro i hi;rw[ql hi,znm _ (hs.mem hi),ya0];dsimp only;cases hL:xk t0[i]
  ·rfl
  ·rw[ys0,yd0,yd2]
   cases decide ((i:Int)<(t0.length:Int) -1)
   ·rfl
   ·rw[yb0,zix _ (zm2 hL).1 (hs.mem hi)];rfl
 rw[show z3h (t0,t0,(t0.length:Int),0,())=_ from zcb (B:=λd=>zeu d.1 d.2.1 d.2.2.1 d.2.2.2.1) t0.length (λk=> !(xk (t0.getD k []))||(decide ((k:Int)<(t0.length:Int) -1)&& !(endP (t0.getD k []))))
    (λi=>(t0,t0,(t0.length:Int),(i:Int),())) (λ_=>.inr (false,())) (.inl (t0,()))
    (λi hi hq=>by
      show zeu t0 t0 t0.length i=_;unfold zeu;rw[yc0 (by omega:(i:Int)<(t0.length:Int)),yb0,zq hi,yb0,toNat_cast,hw,hr i hi,hq,ya0];dsimp only;rw[yd0,wrap64 (by omega) (by omega)];rfl)
    (λi hi hq=>by
      show zeu t0 t0 t0.length i=_;unfold zeu;rw[yc0 (by omega:(i:Int)<(t0.length:Int)),yb0,zq hi,yb0,toNat_cast,hw,hr i hi,hq,ya0];rfl)
    (by
      show zeu t0 t0 t0.length t0.length=_;unfold zeu;rw[yi0 (yi1 _),yd0])]
 rw[qdz,show(anyN t0.length λk=> !(xk (t0.getD k [])))=t0.any λs=> !xk s from qan (f:=λs=> !xk s)];unfold zbc zcr zrt;cases t0.any λs=> !xk s
 ·cases anyN t0.length λk=>decide ((k:Int)<(t0.length:Int) -1)&& !(endP (t0.getD k []))
  ·simp;omega
  ·simp
 ·simp
end R
end

section
/- Groups: both sides test them alike. -/
open Go Go.Dn
namespace R
abbrev RW:=List (PV zo)
abbrev W0:PV zo:=dflt zo
def kd (rows:RW)(k:Nat):Int:=(rows.getD k W0).1
def zaw (rows:RW)(k:Nat):Bool:=
 !(inI (kd rows k) 1 3)||(!(xk (rows.getD k W0).2.1)||(decide ((k:Int)>0)&&((kd rows k==2)&&(kd rows (k -1)==3))))
def chg (rows:RW)(k:Nat):Bool:= !(kd rows k==1)
def zu (rows:RW)(c:Int):List (List UInt8):=(rows.filter λ(r:PV zo)=> !(r.1==c)).map λr=>r.2.1
def SmR (rows:RW):Prop:=rows.length<=1048576/\∀r∈rows,List.length (r:PV zo).2.1<=1048576
theorem SmR.line {rows:RW}(h:SmR rows){k:Nat}(hk:k<rows.length):List.length (rows.getD k W0).2.1<=4611686018427387904:=by
 rw[ql hk];have:=h.2 _ (ym1 hk);omega
theorem qat (n:Nat)(q:Nat->Bool):anyN (n+1) q=(anyN n q||q n):=by
 unfold anyN;rw[List.range_succ,List.any_append];simp
theorem zu0 {rows:RW}{c:Int}{i:Nat}(hi:i<rows.length):zu (rows.take (i+1)) c=bif !(rows[i].1==c) then zu (rows.take i) c++[rows[i].2.1] else zu (rows.take i) c:=by
 unfold zu;rw[<-List.take_append_getElem hi,List.filter_append,List.map_append];cases h:(rows[i].1==c)
 ·rw[yb1,yb0,yw2 (by simp[h])]
  rfl
 ·rw[ys0,yd0,List.filter_cons_of_neg (by simp[h])]
  simp
theorem zge {rows:RW}{c:Int}:(zu rows c).length<=rows.length:=by
 unfold zu;rw[yu1];exact List.length_filter_le _ _
theorem zq2 {rows:RW}{c:Int}(h:SmR rows):Sm (zu rows c):=by
 refine⟨yo1 zge (yo1 h.1 (by omega)),λs hs=> ?_⟩;unfold zu at hs;obtain⟨r,hr,rfl⟩:=List.mem_map.1 hs;exact yo1 (h.2 r ((List.mem_filter.1 hr).1)) (by omega)
theorem zgf {rows:RW}{c:Int}(h:SmR rows):zmh rows c=some ((zu rows c,()),()):=by
 have hl:=h.1
 have:=zio (B:=λd=>zhq d.1 d.2.1 d.2.2.1 d.2.2.2.1 d.2.2.2.2.1) (λi=>(c,zu (rows.take i) c,rows,(rows.length:Int),(i:Int),())) rows.length (r:=(zu rows c,()))
  (λi hi=>by
    show zhq c (zu (rows.take i) c) rows rows.length i=_;unfold zhq;have hs:(zu (rows.take i) c).length<=1048576:=yo1 zge (by simp;omega);rw[yc0 (by omega:(i:Int)<(rows.length:Int)),yb0,zq hi,yb0,toNat_cast,ql hi,zu0 hi];cases(rows[i].1==c)
    ·rw[yb1,yb0,jc (by simp;omega),yb0,ya0]
     dsimp only;rw[wrap64 (by omega) (by omega)];rfl
    ·rw[ys0,yd0,ya0]
     dsimp only;rw[wrap64 (by omega) (by omega)];rfl)
  (by
    show zhq c (zu (rows.take rows.length) c) rows rows.length rows.length=_;unfold zhq;rw[yi0 (yi1 _),yd0,List.take_length])
 unfold zmh;rw[show z4v (c,([]:PV zf),rows,(rows.length:Int),0,())=_ from this];rfl
theorem znw {g:PV zh}(h:SmR g.2.2.1):ze9 g=some ((zu g.2.2.1 3,()),()):=by
 have hl:=h.1
 have:=zio (B:=λd=>zh4 d.1 d.2.1 d.2.2.1 d.2.2.2.1) (λi=>(zu (List.take i g.2.2.1) 3,g.2.2.1,(List.length g.2.2.1:Int),(i:Int),())) (List.length g.2.2.1) (r:=(zu g.2.2.1 3,()))
  (λi hi=>by
    show zh4 (zu (List.take i g.2.2.1) 3) g.2.2.1 (List.length g.2.2.1) i=_;unfold zh4;have hs:(zu (List.take i g.2.2.1) 3).length<=1048576:=yo1 zge (by simp;omega);rw[yc0 (by omega:(i:Int)<(List.length g.2.2.1:Int)),yb0,zq hi,yb0,toNat_cast,ql hi,zu0 hi];cases(g.2.2.1[i].1==3)
    ·rw[yb1,yb0,jc (by simp;omega),yb0,ya0]
     dsimp only;rw[wrap64 (by omega) (by omega)];rfl
    ·rw[ys0,yd0,ya0]
     dsimp only;rw[wrap64 (by omega) (by omega)];rfl)
  (by
    show zh4 (zu (List.take (List.length g.2.2.1) g.2.2.1) 3) g.2.2.1 (List.length g.2.2.1) (List.length g.2.2.1)=_;unfold zh4;rw[yi0 (yi1 _),yd0,List.take_length])
 unfold ze9;rw[show z6v ([],g.2.2.1,(List.length g.2.2.1:Int),0,())=_ from this];rfl
theorem znx {g:PV zh}(h:SmR g.2.2.1):zdy g=some ((zu g.2.2.1 2,()),()):=by
 have hl:=h.1
 have:=zio (B:=λd=>zh5 d.1 d.2.1 d.2.2.1 d.2.2.2.1) (λi=>(zu (List.take i g.2.2.1) 2,g.2.2.1,(List.length g.2.2.1:Int),(i:Int),())) (List.length g.2.2.1) (r:=(zu g.2.2.1 2,()))
  (λi hi=>by
    show zh5 (zu (List.take i g.2.2.1) 2) g.2.2.1 (List.length g.2.2.1) i=_;unfold zh5;have hs:(zu (List.take i g.2.2.1) 2).length<=1048576:=yo1 zge (by simp;omega);rw[yc0 (by omega:(i:Int)<(List.length g.2.2.1:Int)),yb0,zq hi,yb0,toNat_cast,ql hi,zu0 hi];cases(g.2.2.1[i].1==2)
    ·rw[yb1,yb0,jc (by simp;omega),yb0,ya0]
     dsimp only;rw[wrap64 (by omega) (by omega)];rfl
    ·rw[ys0,yd0,ya0]
     dsimp only;rw[wrap64 (by omega) (by omega)];rfl)
  (by
    show zh5 (zu (List.take (List.length g.2.2.1) g.2.2.1) 2) g.2.2.1 (List.length g.2.2.1) (List.length g.2.2.1)=_;unfold zh5;rw[yi0 (yi1 _),yd0,List.take_length])
 unfold zdy;rw[show z6w ([],g.2.2.1,(List.length g.2.2.1:Int),0,())=_ from this];rfl
theorem qd3 {rows:RW}{g:PV zh}(hg:g.2.2.1=rows){i:Nat}(hi:i<rows.length)(hl:rows.length<=1048576){x:PV zo}(hx:rows.getD i W0=x){c:Bool}:
 ((bif (decide ((i:Int)>0)) then
    bif (x.1==2) then
     bif inB (IntKind.wrap .i64 ((i:Int) -1)) (List.length g.2.2.1) then
      some (g,c,x,rows,(rows.length:Int),(i:Int),(((List.getD g.2.2.1 (IntKind.wrap .i64 ((i:Int) -1)).toNat (dflt zo)).1)==3),())
     else none
    else some (g,c,x,rows,(rows.length:Int),(i:Int),false,())
   else some (g,c,x,rows,(rows.length:Int),(i:Int),false,())):Option ((PV zh×PV .bool×PV zo×PV zi×PV (.int .i64)×PV (.int .i64)×PV .bool×Unit)))=
   some (g,c,x,rows,(rows.length:Int),(i:Int),(decide ((i:Int)>0)&&((kd rows i==2)&&(kd rows (i -1)==3))),()):=by
 unfold kd;rw[hx,hg];cases i with
 |zero=>rw[yi0 (by omega:¬(((0:Nat):Int)>0))];rfl
 |succ j=>
  rw[yc0 (by omega:((j+1:Nat):Int)>0),yb0,yx1,show IntKind.wrap .i64 (((j+1:Nat):Int) -1)=(j:Int) from by rw[wrap64 (by omega) (by omega)];omega,zq (by omega:j<rows.length),toNat_cast,Nat.add_sub_cancel];cases(x.1==2)<;>rfl
theorem q9x {g:PV zh}{rows:RW}(hg:g.2.2.1=rows)(h:SmR rows):
 z0o (g,false,rows,(rows.length:Int),0,())=some (if anyN rows.length (zaw rows) then .inr (false,()) else .inl (g,anyN rows.length (chg rows),())):=by
 have hl:=h.1
 have step:∀i,i<rows.length->zep g (anyN i (chg rows)) rows rows.length i=some (if zaw rows i then .inr (.inr (false,())) else .inl (g,anyN (i+1) (chg rows),rows,(rows.length:Int),((i+1:Nat):Int),())):=by
  intro i hi;have hln:=h.line hi;unfold zep;rw[yc0 (by omega:(i:Int)<(rows.length:Int)),yb0,zq hi,yb0,toNat_cast,qat];unfold zaw chg;generalize hx:rows.getD i W0=x at*;rw[in_I,ya0,zw6 _ hln,ya0,qd3 hg hi hl hx];rw[show kd rows i=x.1 from by unfold kd;rw[hx]];dsimp only;unfold inI;have e:IntKind.wrap .i64 ((i:Int)+1)=((i+1:Nat):Int):=by rw[wrap64 (by omega) (by omega)];omega
  cases decide (x.1>=1)&&decide (x.1<=3)
  ·rfl
  ·cases xk x.2.1
   ·rfl
   ·simp only[ys0,yd0,ya0,yd2]
    cases(decide ((i:Int)>0)&&((x.1==2)&&(kd rows (i -1)==3)))
    ·rw[yd0]
     cases anyN i λk=> !(kd rows k==1)
     ·rw[yd0,ya0]
      dsimp only;rw[e];rfl
     ·rw[yb0,ya0]
      dsimp only;rw[e];rfl
    ·rfl
 exact zcb (B:=λd=>zep d.1 d.2.1 d.2.2.1 d.2.2.2.1 d.2.2.2.2.1) rows.length (zaw rows) (λi=>(g,anyN i (chg rows),rows,(rows.length:Int),(i:Int),())) (λ_=>.inr (false,())) (.inl (g,anyN rows.length (chg rows),()))
  (λi hi hq=>by show zep g (anyN i (chg rows)) rows rows.length i=_;rw[step i hi,hq];rfl)
  (λi hi hq=>by show zep g (anyN i (chg rows)) rows rows.length i=_;rw[step i hi,hq];rfl)
  (by
    show zep g (anyN rows.length (chg rows)) rows rows.length rows.length=_;unfold zep;rw[yi0 (yi1 _),yd0])
theorem q9y {g:PV zh}{rows:RW}(hg:g.2.2.1=rows)(h:SmR rows):
 z3i (g,false,rows,(rows.length:Int),0,())=some (if anyN rows.length (zaw rows) then .inr (false,()) else .inl (g,anyN rows.length (chg rows),())):=by
 have hl:=h.1
 have step:∀i,i<rows.length->zev g (anyN i (chg rows)) rows rows.length i=some (if zaw rows i then .inr (.inr (false,())) else .inl (g,anyN (i+1) (chg rows),rows,(rows.length:Int),((i+1:Nat):Int),())):=by
  intro i hi;have hln:=h.line hi;unfold zev;rw[yc0 (by omega:(i:Int)<(rows.length:Int)),yb0,zq hi,yb0,toNat_cast,qat];unfold zaw chg;generalize hx:rows.getD i W0=x at*;rw[in_S,ya0,znm _ hln,ya0,qd3 hg hi hl hx];rw[show kd rows i=x.1 from by unfold kd;rw[hx]];dsimp only;unfold inI;have e:IntKind.wrap .i64 ((i:Int)+1)=((i+1:Nat):Int):=by rw[wrap64 (by omega) (by omega)];omega
  cases decide (x.1>=1)&&decide (x.1<=3)
  ·rfl
  ·cases xk x.2.1
   ·rfl
   ·simp only[ys0,yd0,ya0,yd2]
    cases(decide ((i:Int)>0)&&((x.1==2)&&(kd rows (i -1)==3)))
    ·rw[yd0]
     cases anyN i λk=> !(kd rows k==1)
     ·rw[yd0,ya0]
      dsimp only;rw[e];rfl
     ·rw[yb0,ya0]
      dsimp only;rw[e];rfl
    ·rfl
 exact zcb (B:=λd=>zev d.1 d.2.1 d.2.2.1 d.2.2.2.1 d.2.2.2.2.1) rows.length (zaw rows) (λi=>(g,anyN i (chg rows),rows,(rows.length:Int),(i:Int),())) (λ_=>.inr (false,())) (.inl (g,anyN rows.length (chg rows),()))
  (λi hi hq=>by show zev g (anyN i (chg rows)) rows rows.length i=_;rw[step i hi,hq];rfl)
  (λi hi hq=>by show zev g (anyN i (chg rows)) rows rows.length i=_;rw[step i hi,hq];rfl)
  (by
    show zev g (anyN rows.length (chg rows)) rows rows.length rows.length=_;unfold zev;rw[yi0 (yi1 _),yd0])
def zae (g:PV zh):Bool:=
 inI g.1 0 999&&(inI g.2.1 0 999&&(inI (List.length g.2.2.1:Int) 1 80&&(!(anyN (List.length g.2.2.1) (zaw g.2.2.1))&&(anyN (List.length g.2.2.1) (chg g.2.2.1)&&
  (zbc (zu g.2.2.1 3)&&(zbc (zu g.2.2.1 2)&&(decide (IntKind.wrap .i64 (g.1+((zu g.2.2.1 3).length:Int))<=1000)&&decide (IntKind.wrap .i64 (g.2.1+((zu g.2.2.1 2).length:Int))<=1000))))))))
theorem q7u {g:PV zh}(h:SmR g.2.2.1):zos g=some ((zae g,()),()):=by
 unfold zos zae zer zeo;rw[in_I,in_I,in_I,ya0,ya0,ya0];dsimp only;unfold inI;cases decide (g.1>=0)&&decide (g.1<=999)
 ·rfl
 ·cases decide (g.2.1>=0)&&decide (g.2.1<=999)
  ·rfl
  ·cases decide ((List.length g.2.2.1:Int)>=1)&&decide ((List.length g.2.2.1:Int)<=80)
   ·rfl
   ·simp only[ys0,yd0,ya0,yx1]
    rw[q9x rfl h];cases anyN (List.length g.2.2.1) (zaw g.2.2.1)
    ·rw[yw0 (by simp),ya0]
     dsimp only;rw[zgf h,ya0,zgf h,ya0,ya0,ya0];dsimp only;rw[zpe _ (zq2 h),ya0,zpe _ (zq2 h),ya0];dsimp only;cases anyN (List.length g.2.2.1) (chg g.2.2.1)<;>cases zbc (zu g.2.2.1 3)<;>cases zbc (zu g.2.2.1 2)<;>cases decide (IntKind.wrap .i64 (g.1+((zu g.2.2.1 3).length:Int))<=1000)<;>rfl
    ·rfl
theorem q7v {g:PV zh}(h:SmR g.2.2.1):zpb g=some ((zae g,()),()):=by
 unfold zpb zae;rw[q9y rfl h];cases hb:anyN (List.length g.2.2.1) (zaw g.2.2.1)
 ·rw[yw0 (by simp),ya0]
  dsimp only;cases hc:anyN (List.length g.2.2.1) (chg g.2.2.1)
  ·simp
  ·have hpos:1<=List.length g.2.2.1:=by
    obtain⟨i,hi,_⟩:=zdf.1 hc;omega
   rw[yb0,in_S,in_S,ya0,ya0,znw h,znx h];simp only[ya0];rw[qas _ (zq2 h),qas _ (zq2 h)];simp only[ya0];unfold inI;rw[yc0 (by omega:(List.length g.2.2.1:Int)>=1),yx1]
   cases decide (g.1>=0)&&decide (g.1<=999)<;>cases decide (g.2.1>=0)&&decide (g.2.1<=999)<;>cases decide ((List.length g.2.2.1:Int)<=80)<;>cases zbc (zu g.2.2.1 3)<;>cases zbc (zu g.2.2.1 2)<;>
    cases decide (IntKind.wrap .i64 (g.1+((zu g.2.2.1 3).length:Int))<=1000)<;>cases decide (IntKind.wrap .i64 (g.2.1+((zu g.2.2.1 2).length:Int))<=1000)<;>rfl
 ·simp
end R
end

section
/- Lists of groups: both sides test them alike; groups that lead back. -/
open Go Go.Dn
namespace R
abbrev GR:=List (PV zh)
abbrev G0:PV zh:=dflt zh
def oldE (x:PV zh):Int:=IntKind.wrap .i64 (x.1+((zu x.2.2.1 3).length:Int))
def newE (x:PV zh):Int:=IntKind.wrap .i64 (x.2.1+((zu x.2.2.1 2).length:Int))
def zdn (g:GR)(k:Nat):Bool:=
 !(zae (g.getD k G0))||(decide ((k:Int)>0)&&(decide ((g.getD k G0).1<oldE (g.getD (k -1) G0))||decide ((g.getD k G0).2.1<newE (g.getD (k -1) G0))))
def jo (g:GR):Bool:=decide (g.length<=20)&& !(anyN g.length (zdn g))
def SmG (g:GR):Prop:=g.length<=1048576/\∀x∈g,SmR (x:PV zh).2.2.1
theorem SmG.mem {g:GR}(h:SmG g){i:Nat}(hi:i<g.length):SmR (g.getD i G0).2.2.1:=by
 rw[ql hi];exact h.2 _ (ym1 hi)
theorem qd4 {g:GR}(hs:SmG g){i:Nat}(hi:i<g.length):
 zej g g g.length i=some (if zdn g i then .inr (.inr (false,())) else .inl (g,g,(g.length:Int),(i:Int)+1,())):=by
 have hl:=hs.1;have hm:=hs.mem hi;unfold zej;rw[yc0 (by omega:(i:Int)<(g.length:Int)),yb0,zq hi,yb0,toNat_cast];unfold zdn zer zeo;generalize hx:g.getD i G0=x at*;rw[q7u hm,ya0];dsimp only;cases zae x
 ·rfl
 ·rw[ys0,yd0]
  cases i with
  |zero=>
   rw[yi0 (by omega:¬(((0:Nat):Int)>0)),yd0,ya0];dsimp only;rw[wrap64 (by omega) (by omega)];rfl
  |succ j=>
   have hm':=hs.mem (show j<g.length by omega);rw[yc0 (by omega:((j+1:Nat):Int)>0),yb0,show IntKind.wrap .i64 (((j+1:Nat):Int) -1)=(j:Int) from by rw[wrap64 (by omega) (by omega)];omega,zq (by omega:j<g.length),yb0,yb0,toNat_cast,Nat.add_sub_cancel];generalize hy:g.getD j G0=y at*;rw[zgf hm',ya0,ya0,zgf hm',ya0,ya0,yb0,yb0];dsimp only;unfold oldE newE;cases decide (x.1<IntKind.wrap .i64 (y.1+((zu y.2.2.1 3).length:Int)))
   ·rw[yd0,ya0]
    dsimp only;cases decide (x.2.1<IntKind.wrap .i64 (y.2.1+((zu y.2.2.1 2).length:Int)))
    ·rw[yd0,wrap64 (x:=((j+1:Nat):Int)+1) (by omega) (by omega)];rfl
    ·rfl
   ·rfl
theorem qd5 {g:GR}(hs:SmG g){i:Nat}(hi:i<g.length):
 ze0 g g g.length i=some (if zdn g i then .inr (.inr (false,())) else .inl (g,g,(g.length:Int),(i:Int)+1,())):=by
 have hl:=hs.1;have hm:=hs.mem hi;unfold ze0;rw[yc0 (by omega:(i:Int)<(g.length:Int)),yb0,zq hi,yb0,toNat_cast];unfold zdn;generalize hx:g.getD i G0=x at*;rw[q7v hm,ya0];dsimp only;cases zae x
 ·rfl
 ·rw[ys0,yd0]
  cases i with
  |zero=>
   rw[yi0 (by omega:¬(((0:Nat):Int)>0)),yd0,ya0];dsimp only;rw[wrap64 (by omega) (by omega)];rfl
  |succ j=>
   have hm':=hs.mem (show j<g.length by omega);rw[yc0 (by omega:((j+1:Nat):Int)>0),yb0,show IntKind.wrap .i64 (((j+1:Nat):Int) -1)=(j:Int) from by rw[wrap64 (by omega) (by omega)];omega,zq (by omega:j<g.length),yb0,yb0,toNat_cast,Nat.add_sub_cancel];generalize hy:g.getD j G0=y at*;rw[znw hm',ya0,znx hm',ya0,yb0,yb0];dsimp only;unfold oldE newE;cases decide (x.1<IntKind.wrap .i64 (y.1+((zu y.2.2.1 3).length:Int)))
   ·rw[yd0,ya0]
    dsimp only;cases decide (x.2.1<IntKind.wrap .i64 (y.2.1+((zu y.2.2.1 2).length:Int)))
    ·rw[yd0,wrap64 (x:=((j+1:Nat):Int)+1) (by omega) (by omega)];rfl
    ·rfl
   ·rfl
theorem zvw {g:GR}(hs:SmG g):zjc g=some ((jo g,()),()):=by
 have hl:=hs.1;unfold zjc jo;by_cases hn:g.length<=20
 ·rw[yi0 (by omega:¬((g.length:Int)>20)),yd0,yc0 hn,yx1]
  rw[show zzy (g,g,(g.length:Int),0,())=_ from zcb (B:=λd=>zej d.1 d.2.1 d.2.2.1 d.2.2.2.1) g.length (zdn g) (λi=>(g,g,(g.length:Int),(i:Int),())) (λ_=>.inr (false,())) (.inl ())
   (λi hi hq=>by show zej g g g.length i=_;rw[qd4 hs hi,hq];rfl)
   (λi hi hq=>by show zej g g g.length i=_;rw[qd4 hs hi,hq];rfl)
   (by
     show zej g g g.length g.length=_;unfold zej;rw[yi0 (yi1 _),yd0])]
  cases anyN g.length (zdn g)<;>rfl
 ·rw[yc0 (by omega:(g.length:Int)>20),yb0,yi0 hn];rfl
theorem zqi {g:GR}(hs:SmG g):zh9 g=some ((jo g,()),()):=by
 have hl:=hs.1;unfold zh9 jo
 rw[show z5h (g,g,(g.length:Int),0,())=_ from zcb (B:=λd=>ze0 d.1 d.2.1 d.2.2.1 d.2.2.2.1) g.length (zdn g) (λi=>(g,g,(g.length:Int),(i:Int),())) (λ_=>.inr (false,())) (.inl (g,()))
    (λi hi hq=>by show ze0 g g g.length i=_;rw[qd5 hs hi,hq];rfl)
    (λi hi hq=>by show ze0 g g g.length i=_;rw[qd5 hs hi,hq];rfl)
    (by
      show ze0 g g g.length g.length=_;unfold ze0;rw[yi0 (yi1 _),yd0])]
 cases anyN g.length (zdn g)
 ·rw[yw0 (by simp),ya0]
  dsimp only;by_cases hn:g.length<=20
  ·rw[yc0 (by omega:(g.length:Int)<=20),yc0 hn];rfl
  ·rw[yi0 (by omega:¬(g.length:Int)<=20),yi0 hn];rfl
 ·rw[yx0 rfl];simp
theorem SmG.of {e:TypeId}{g:GR}(h:tot (.slice e zh) g<=1048576):SmG g:=by
 refine⟨?_,λx hx=> ?_⟩
 ·have h':=h
  rw[zp1] at h';omega
 ·have:=qd0 h x hx
  refine⟨?_,λr hr=> ?_⟩
  ·simp only[tot] at this
   omega
  ·have h2:tot zi x.2.2.1<=1048576:=by
    simp only[tot] at this ⊢;omega
   have:=qd0 (e:=_) h2 r hr;simp only[tot] at this;omega
end R
end

section
/- Numbers, ranges and rows as texts: both sides write the same. -/
open Go Go.Dn
namespace R
theorem qfo {x:Int}(h1:0<=x)(h2:x<=255):IntKind.wrap .u8 x=x:=by
 simp[IntKind.wrap,IntKind.signed,IntKind.bits];omega
abbrev dec (n:Nat):List UInt8:=Lib.decDigits n
theorem zcm (n:Nat)(h:n<=1000000):(dec n).length<=21:=by
 have:=Lib.itoa_length_le (n:Int) (by omega) (by omega)
 rwa [Lib.itoa_nonneg] at this
theorem qd6 {n:Nat}(h:n<10):zdu [IntKind.wrap .u8 (IntKind.wrap .i64 (48+(n:Int)))]=[UInt8.ofNat (48+n)]:=by
 rw[wrap64 (by omega) (by omega),qfo (by omega) (by omega)];show[UInt8.ofNat ((48+(n:Int)).toNat)]=_;congr 2
theorem qfp:∀(f n:Nat),n<f->n<=1000000->zjy f (n:Int)=some ((dec n,()),())
 |0,n,h,_=>by omega
 |f+1,n,h,hb=>by
  show zpn (zjy f) (n:Int)=_;unfold zpn;by_cases hn:n<10
  ·rw[yc0 (by omega:(n:Int)<10),yb0,qd6 hn,show dec n=_ from Lib.decDigits_one hn]
  ·rw[yi0 (by omega:¬(n:Int)<10),yd0,show((10:Nat)==0)=false from rfl,yd0]
   rw[show(n:Int).tdiv 10=((n/10:Nat):Int) from by rw[Int.tdiv_eq_ediv_of_nonneg (by omega)];omega,show(n:Int).tmod 10=((n%10:Nat):Int) from by rw[Int.tmod_eq_emod_of_nonneg (by omega)];omega];rw[wrap64 (x:=((n/10:Nat):Int)) (by omega) (by omega),qfp f (n/10) (by omega) (by omega),ya0,yd0];have hl:=zcm (n/10) (by omega);rw[qd6 (by omega)];dsimp only;rw[yc0 (by simp only[yf0,yp0];omega),yb0]
   rw[show dec n=dec (n/10)++[UInt8.ofNat (48+n%10)] from by
    show Lib.decDigits n=_;rw[Lib.decDigits,dif_neg hn]]
theorem zru (n:Nat)(h:n<=1000000):zie (n:Int)=some ((dec n,()),()):=by
 unfold zie;exact qfp _ n (by simp) h
def numb (a m:Nat):Nat:=if 0<m then a+1 else a
def xw (a m:Nat):List UInt8:=if m=1 then dec (numb a m) else dec (numb a m)++([44]++dec m)
theorem zkq {a m:Nat}(h:a<=10000):numb a m<=10001:=by unfold numb;split<;>omega
theorem zdx {a m:Nat}(ha:a<=10000)(hm:m<=10000):(xw a m).length<=43:=by
 have h1:=zcm (numb a m) (yo1 (zkq ha) (by omega));have h2:=zcm m (by omega);unfold xw;split
 ·omega
 ·simp only[ye0,yf0,yp0];omega
theorem qd7 (a m:Nat)(ha:a<=10000):(bif decide ((m:Int)>0) then some ((IntKind.wrap .i64 ((a:Int)+1),()),()) else some (((a:Int),()),()):Option (PVs [.int .i64]×PVs []))=some ((((numb a m:Nat):Int),()),()):=by
 unfold numb;by_cases h:0<m
 ·rw[yc0 (by omega:(m:Int)>0),yx0 h,yb0,wrap64 (by omega) (by omega)];try rfl
 ·rw[yi0 (by omega:¬(m:Int)>0),yw0 h,yd0];try rfl
theorem qcp (a m:Nat)(ha:a<=10000):zlu (a:Int) (m:Int)=some ((((numb a m:Nat):Int),()),()):=by unfold zlu;exact qd7 a m ha
def zgs:List UInt8:=[10,92,32,110,111,110,101,10]
def zbg (sg s:List UInt8):List UInt8:=bif endP s then sg++s else(sg++s)++zgs
theorem z8o (sg s:List UInt8):(zbg sg s).length<=sg.length+s.length+8:=by
 unfold zbg zgs;cases endP s
 ·simp only[yd0,ye0,yf0,yp0];omega
 ·simp only[yb0,ye0];omega
theorem q7w (sg s:List UInt8)(h0:sg.length<=10)(h1:1<=s.length)(h2:s.length<=100):zhx sg s=some ((zbg sg s,()),()):=by
 unfold zhx zbg zgs;rw[zix s h1 (by omega),ya0];dsimp only;rw[yc0 (by omega),yb0,yb0,yc0 (by simp only[ye0,yf0,yp0];omega),yb0];cases endP s<;>rfl
theorem q7x (sg s:List UInt8)(h0:sg.length<=10)(h2:s.length<=100):zdz sg s=some ((zbg sg s,()),()):=by
 unfold zdz zbg zgs;rw[zrg s (by omega),ya0];dsimp only;rw[yc0 (by omega),yb0,yb0,yc0 (by simp only[ye0,yf0,yp0];omega),yb0,yc0 (by simp only[ye0,yf0,yp0];omega),yb0];cases endP s
 ·rw[yd0,yd0,yj0 (sg++s)];rfl
 ·rfl
def zny (r:PV zo):Prop:=(r.1=1\/r.1=2\/r.1=3)/\1<=List.length r.2.1/\List.length r.2.1<=30
theorem zky {g:PV zh}(h:zae g=true):List.length g.2.2.1<=80/\∀r∈(g.2.2.1:RW),zny r:=by
 unfold zae inI at h;simp only[yh0,yr0,yj1] at h;obtain⟨_,_,⟨h1,h2⟩,h3,_⟩:=h;refine⟨by omega,λr hr=> ?_⟩;obtain⟨k,hk,rfl⟩:=yu2.1 hr
 have hb:zaw g.2.2.1 k=false:=by
  cases hb:zaw g.2.2.1 k with
  |false=>rfl
  |true=>rw[zdf.2 ⟨k,hk,hb⟩] at h3;cases h3
 unfold zaw inI kd at hb;rw[ql hk] at hb;simp only[yz2,Bool.not_eq_false',yh0,yr0] at hb;obtain⟨⟨b1,b2⟩,b3,_⟩:=hb;have:=zm2 b3;have e:∀z:Int,z>=1->z<=3->z=1\/z=2\/z=3:=λz _ _=>by omega
 exact⟨e _ b1 b2,this.1,this.2⟩
def zbu (k:Int):List UInt8:=cutL k (IntKind.wrap .i64 (k+1)) [63,32,45,43]
def rowT (r:PV zo):List UInt8:=zbg (zbu r.1) r.2.1
def za6 (rows:RW):List UInt8:=rows.flatMap rowT
theorem zir {k:Int}(h:k=1\/k=2\/k=3):cutB k (IntKind.wrap .i64 (k+1)) ([63,32,45,43]:List Nat).length=true/\(zbu k).length=1:=by
 rcases h with rfl|rfl|rfl<;>exact⟨by decide,by decide⟩
theorem qe0 {r:PV zo}(h:r.1=1\/r.1=2\/r.1=3):zhs r=some ((zbu r.1,()),()):=by
 unfold zhs;rw[(zir h).1];rfl
theorem zvx {r:PV zo}(h:zny r):(rowT r).length<=39:=by
 have h1:=z8o (zbu r.1) r.2.1;have h2:=(zir h.1).2;have h3:=h.2.2;unfold rowT;omega
theorem zf9 {α:Type}(f:α->List UInt8):∀(l:List α) (a:List UInt8),l.foldl (λa r=>a++f r) a=a++l.flatMap f
 |[],a=>by simp
 |x::l,a=>by rw[List.foldl_cons,zf9 f l,yv1,yj0]
theorem zvy {α:Type}(f:α->List UInt8)(n:Nat):∀(l:List α),(∀x∈l,(f x).length<=n)->(l.flatMap f).length<=n*l.length
 |[],_=>by simp
 |x::l,h=>by
  have h1:=h x (yk0 ..);have h2:=zvy f n l λy hy=>h y (yg0 _ hy);rw[yv1,ye0,yf0,Nat.mul_add];omega
theorem zu1 {rows:RW}(hl:rows.length<=80)(hr:∀r∈rows,zny r):(za6 rows).length<=3120:=by
 have:=zvy rowT 39 rows λr h=>zvx (hr r h);unfold za6;omega
def zct (x:PV zh):List UInt8:=
 ((([64,64,32,45]++xw x.1.toNat (zu x.2.2.1 3).length)++[32,43])++xw x.2.1.toNat (zu x.2.2.1 2).length)++[32,64,64,10]
def zdj (x:PV zh):List UInt8:=zct x++za6 x.2.2.1
def zak (g:GR):List UInt8:=g.flatMap zdj
theorem zf4 {x:PV zh}(h:zae x=true):(∃a:Nat,x.1=(a:Int)/\a<=999)/\(∃b:Nat,x.2.1=(b:Int)/\b<=999)/\(zu x.2.2.1 3).length<=80/\(zu x.2.2.1 2).length<=80:=by
 obtain⟨h80,_⟩:=zky h;unfold zae inI at h;simp only[yh0,yr0,yj1] at h;obtain⟨⟨a1,a2⟩,⟨b1,b2⟩,_⟩:=h;have e:∀z:Int,z>=0->z<=999->∃a:Nat,z=(a:Int)/\a<=999:=λz _ _=>⟨z.toNat,by omega,by omega⟩;refine⟨e _ a1 a2,e _ b1 b2,yo1 zge h80,yo1 zge h80⟩
theorem zu3 {x:PV zh}(h:zae x=true):(zct x).length<=100:=by
 obtain⟨⟨a,ea,ha⟩,⟨b,eb,hb⟩,h3,h4⟩:=zf4 h;unfold zct;have c1:=zdx (a:=a) (m:=(zu x.2.2.1 3).length) (by omega) (by omega);have c2:=zdx (a:=b) (m:=(zu x.2.2.1 2).length) (by omega) (by omega);rw[ea,eb,toNat_cast,toNat_cast];simp only[ye0,yf0,yp0];omega
theorem z8p {x:PV zh}(h:zae x=true):(zdj x).length<=3220:=by
 have h1:=zu3 h;have h2:=zu1 (zky h).1 (zky h).2;unfold zdj;rw[ye0];omega
theorem zga {g:GR}(hg:jo g=true){i:Nat}(hi:i<g.length):zae g[i]=true/\g.length<=20:=by
 unfold jo at hg;simp only[yh0,yr0,yj1] at hg;obtain⟨h1,h2⟩:=hg;refine⟨?_,h1⟩;cases hb:zae g[i] with
 |true=>rfl
 |false=>
  have:anyN g.length (zdn g)=true:=zdf.2 ⟨i,hi,by unfold zdn;rw[ql hi,hb];rfl⟩;rw[this] at h2;cases h2
def gtOk (g:GR):Bool:=jo g&&decide ((zak g).length<=3000)
def gtR (g:GR):List UInt8:=bif gtOk g then zak g else[]
end R
end

section
/- Runs of rows that change something. -/
open Go Go.Dn
namespace R
def lo (rows:RW):Nat->Nat
 |0=>0
 |k+1=>bif kd rows k==1 then k+1 else lo rows k
def hiF (rows:RW):Nat->Nat->Nat
 |0,k=>k
 |f+1,k=>bif kd rows k==1 then k else hiF rows f (k+1)
def hi (rows:RW)(k:Nat):Nat:=hiF rows (rows.length -k) k
def anyC (rows:RW)(c:Int)(i j:Nat):Bool:=((rows.take j).drop i).any λ(r:PV zo)=>r.1==c
def runA (rows:RW)(c:Int)(k:Nat):Bool:=anyC rows c (lo rows k) (hi rows k)
theorem qau {rows:RW}{c:Int}{i:Nat}(h:i<=rows.length):anyC rows c i i=false:=by
 unfold anyC;rw[yr2 (by simp;omega)];rfl
theorem qav {rows:RW}{c:Int}{i j:Nat}(hij:i<=j)(hj:j<rows.length):anyC rows c i (j+1)=(anyC rows c i j||(kd rows j==c)):=by
 unfold anyC kd;rw[<-List.take_append_getElem hj,List.drop_append_of_le_length (by simp;omega),List.any_append,ql hj];simp
theorem q6a {rows:RW}{c:Int}{i j k:Nat}(h1:i<=k)(h2:k<j)(hj:j<=rows.length)(hk:kd rows k=c):anyC rows c i j=true:=by
 unfold anyC;rw[List.any_eq_true];have hk':k<rows.length:=by omega
 refine⟨rows[k],?_,?_⟩
 ·rw[yu2]
  exact⟨k -i,by simp;omega,by simp[show i+(k -i)=k from by omega]⟩
 ·unfold kd at hk
  rw[ql hk'] at hk;rw[hk];exact yn1 c
theorem lo_le (rows:RW):∀k,lo rows k<=k
 |0=>ym0 _
 |k+1=>by
  simp only[lo];have:=lo_le rows k;cases(kd rows k==1)
  ·rw[yd0];omega
  ·rw[yb0];omega
theorem qe1 {rows:RW}{i:Nat}(hi0:lo rows i=i):∀k,i<=k->(∀m,i<=m->m<k->(kd rows m==1)=false)->lo rows k=i
 |0,h,_=>by
  have:i=0:=by omega
  subst this;rfl
 |k+1,h,hm=>by
  by_cases e:i=k+1
  ·rw[<-e];exact hi0
  ·simp only[lo]
   rw[hm k (by omega) (by omega),yd0];exact qe1 hi0 k (by omega) λm h1 h2=>hm m h1 (by omega)
theorem qcq (rows:RW):∀f k,k<=hiF rows f k/\hiF rows f k<=k+f/\(∀m,k<=m->m<hiF rows f k->(kd rows m==1)=false)/\(hiF rows f k<k+f->(kd rows (hiF rows f k)==1)=true)
 |0,k=>⟨ym0 _,ym0 _,λm h1 h2=>by simp only[hiF] at h2;omega,λh=>by simp only[hiF] at h;omega⟩
 |f+1,k=>by
  simp only[hiF];cases h:(kd rows k==1)
  ·rw[yd0]
   obtain⟨a1,a2,a3,a4⟩:=qcq rows f (k+1);refine⟨by omega,by omega,λm h1 h2=> ?_,λhh=>a4 (by omega)⟩;by_cases e:m=k
   ·subst e;exact h
   ·exact a3 m (by omega) h2
  ·rw[yb0]
   exact⟨ym0 _,by omega,λm h1 h2=>by omega,λ_=>h⟩
theorem zkr {rows:RW}{k:Nat}(hk:k<=rows.length):k<=hi rows k/\hi rows k<=rows.length/\(∀m,k<=m->m<hi rows k->(kd rows m==1)=false)/\(hi rows k<rows.length->(kd rows (hi rows k)==1)=true):=by
 obtain⟨a1,a2,a3,a4⟩:=qcq rows (rows.length -k) k;unfold hi;exact⟨a1,by omega,a3,λh=>a4 (by omega)⟩
theorem q9z {rows:RW}{i k:Nat}(hin:i<=rows.length)(h1:i<=k)(h2:k<hi rows i):hi rows k=hi rows i:=by
 obtain⟨a1,a2,a3,a4⟩:=zkr hin;obtain⟨b1,b2,b3,b4⟩:=zkr (rows:=rows) (k:=k) (by omega);rcases Nat.lt_trichotomy (hi rows k) (hi rows i) with h|h|h
 ·have e1:=b4 (by omega)
  rw[a3 (hi rows k) (by omega) h] at e1;cases e1
 ·exact h
 ·have e1:=a4 (by omega)
  rw[b3 (hi rows i) (by omega) h] at e1;cases e1
theorem qe2 {g:PV zh}{rows:RW}(hg:g.2.2.1=rows)(hl:rows.length<=1048576){c e:Int}:∀k,k<=rows.length->zy4 (g,c,(k:Int),e,())=some (g,c,(lo rows k:Int),e,())
 |0,_=>by
  refine jh (B:=λd=>zeg d.1 d.2.1 d.2.2.1 d.2.2.2.1) ?_;show zeg g c ((0:Nat):Int) e=_;unfold zeg;rw[yi0 (by omega:¬(((0:Nat):Int)>0)),yd0];rfl
 |k+1,hk=>by
  have w1:IntKind.wrap .i64 (((k+1:Nat):Int) -1)=(k:Int):=by rw[wrap64 (by omega) (by omega)];omega
  have hs:zeg g c ((k+1:Nat):Int) e=some (bif kd rows k==1 then .inr (g,c,((k+1:Nat):Int),e,()) else .inl (g,c,(k:Int),e,())):=by
   unfold zeg;rw[hg,yc0 (by omega:((k+1:Nat):Int)>0),yb0,w1,zq (by omega:k<rows.length),yb0,toNat_cast];unfold kd;cases((rows.getD k W0).1==1)<;>rfl
  simp only[lo];cases h:(kd rows k==1)
  ·rw[h,yd0] at hs
   rw[yd0];exact(zal (B:=λd=>zeg d.1 d.2.1 d.2.2.1 d.2.2.2.1) hs).trans (qe2 hg hl k (by omega))
  ·rw[h,yb0] at hs
   rw[yb0];exact jh (B:=λd=>zeg d.1 d.2.1 d.2.2.1 d.2.2.2.1) hs
theorem qe3 {g:PV zh}{rows:RW}(hg:g.2.2.1=rows)(hl:rows.length<=1048576){c e:Int}:∀f k,rows.length -k=f->k<=rows.length->zy5 (g,c,e,(k:Int),())=some (g,c,e,(hiF rows f k:Int),())
 |0,k,hf,hk=>by
  refine jh (B:=λd=>zeh d.1 d.2.1 d.2.2.1 d.2.2.2.1) ?_;show zeh g c e (k:Int)=_;unfold zeh;rw[hg,yi0 (by omega:¬((k:Int)<(rows.length:Int))),yd0];rfl
 |f+1,k,hf,hk=>by
  have w1:IntKind.wrap .i64 ((k:Int)+1)=((k+1:Nat):Int):=by rw[wrap64 (by omega) (by omega)];omega
  have hs:zeh g c e (k:Int)=some (bif kd rows k==1 then .inr (g,c,e,(k:Int),()) else .inl (g,c,e,((k+1:Nat):Int),())):=by
   unfold zeh;rw[hg,yc0 (by omega:(k:Int)<(rows.length:Int)),yb0,zq (by omega:k<rows.length),yb0,toNat_cast,w1];unfold kd;cases((rows.getD k W0).1==1)<;>rfl
  simp only[hiF];cases h:(kd rows k==1)
  ·rw[h,yd0] at hs
   rw[yd0];exact(zal (B:=λd=>zeh d.1 d.2.1 d.2.2.1 d.2.2.2.1) hs).trans (qe3 hg hl f (k+1) (by omega) (by omega))
  ·rw[h,yb0] at hs
   rw[yb0];exact jh (B:=λd=>zeh d.1 d.2.1 d.2.2.1 d.2.2.2.1) hs
theorem q6b {g:PV zh}{rows:RW}(hg:g.2.2.1=rows)(hl:rows.length<=1048576){k:Nat}(hk:k<rows.length)(c:Int):zoa g (k:Int) c=some ((runA rows c k,()),()):=by
 have h1:=lo_le rows k;obtain⟨h2,h3,_,_⟩:=zkr (rows:=rows) (k:=k) (by omega);have hcut:cutL (lo rows k:Int) (hi rows k:Int) rows=(rows.take (hi rows k)).drop (lo rows k):=by unfold cutL;simp
 have hlen:((rows.take (hi rows k)).drop (lo rows k)).length<=1048576:=by simp;omega
 unfold zoa;rw[qe2 hg hl k (by omega),ya0];dsimp only;rw[qe3 hg hl _ k rfl (by omega),ya0];dsimp only;rw[show hiF rows (rows.length -k) k=hi rows k from rfl,hg];rw[show cutB (lo rows k:Int) (hi rows k:Int) rows.length=true from by unfold cutB;simp;omega,yb0,hcut];unfold runA anyC;generalize (rows.take (hi rows k)).drop (lo rows k)=xs at*
 rw[show zx7 (g,c,(lo rows k:Int),(hi rows k:Int),rows,(lo rows k:Int),(hi rows k:Int),xs,xs,false,xs,xs,(xs.length:Int),0,())=_ from
  zko (B:=λd=>zd9 d.1 d.2.1 d.2.2.1 d.2.2.2.1 d.2.2.2.2.1 d.2.2.2.2.2.1 d.2.2.2.2.2.2.1 d.2.2.2.2.2.2.2.1 d.2.2.2.2.2.2.2.2.1 d.2.2.2.2.2.2.2.2.2.1 d.2.2.2.2.2.2.2.2.2.2.1 d.2.2.2.2.2.2.2.2.2.2.2.1 d.2.2.2.2.2.2.2.2.2.2.2.2.1 d.2.2.2.2.2.2.2.2.2.2.2.2.2.1) xs (λ(r:PV zo)=>r.1==c)
   (λi=>(g,c,(lo rows k:Int),(hi rows k:Int),rows,(lo rows k:Int),(hi rows k:Int),xs,xs,false,xs,xs,(xs.length:Int),(i:Int),()))
   (λi=>.inr (g,c,(lo rows k:Int),(hi rows k:Int),rows,(lo rows k:Int),(hi rows k:Int),xs,xs,false,xs,(i:Int),())) (.inl (g,c,(lo rows k:Int),(hi rows k:Int),rows,(lo rows k:Int),(hi rows k:Int),xs,xs,false,xs,()))
   (λi hi' hq=>by
     show zd9 _ c _ _ _ _ _ _ _ _ _ xs xs.length i=_;unfold zd9;rw[yc0 (by omega:(i:Int)<(xs.length:Int)),yb0,zq hi',yb0,toNat_cast,ql hi',hq,yd0,wrap64 (by omega) (by omega)];rfl)
   (λi hi' hq=>by
     show zd9 _ c _ _ _ _ _ _ _ _ _ xs xs.length i=_;unfold zd9;rw[yc0 (by omega:(i:Int)<(xs.length:Int)),yb0,zq hi',yb0,toNat_cast,ql hi',hq,yb0])
   (by
     show zd9 _ c _ _ _ _ _ _ _ _ _ xs xs.length xs.length=_;unfold zd9;rw[yi0 (yi1 _),yd0])]
 cases xs.any λr=>r.1==c
 ·rfl
 ·simp
theorem qe4 {g:PV zh}{rows:RW}(hg:g.2.2.1=rows)(hl:rows.length<=1048576){u v:List Bool}{i:Nat}:∀f j,rows.length -j=f->i<=j->j<=rows.length->
 z5j (g,(rows.length:Int),u,v,(i:Int),(j:Int),anyC rows 2 i j,anyC rows 3 i j,())=some (g,(rows.length:Int),u,v,(i:Int),(hiF rows f j:Int),anyC rows 2 i (hiF rows f j),anyC rows 3 i (hiF rows f j),())
 |0,j,hf,hij,hj=>by
  refine jh (B:=λd=>ze2 d.1 d.2.1 d.2.2.1 d.2.2.2.1 d.2.2.2.2.1 d.2.2.2.2.2.1 d.2.2.2.2.2.2.1 d.2.2.2.2.2.2.2.1) ?_;show ze2 g rows.length u v i j (anyC rows 2 i j) (anyC rows 3 i j)=_;unfold ze2;rw[yi0 (by omega:¬((j:Int)<(rows.length:Int))),yd0];rfl
 |f+1,j,hf,hij,hj=>by
  have hj':j<rows.length:=by omega
  have w1:IntKind.wrap .i64 ((j:Int)+1)=((j+1:Nat):Int):=by rw[wrap64 (by omega) (by omega)];omega
  have hs:ze2 g rows.length u v i j (anyC rows 2 i j) (anyC rows 3 i j)=some (bif kd rows j==1 then .inr (g,(rows.length:Int),u,v,(i:Int),(j:Int),anyC rows 2 i j,anyC rows 3 i j,())
   else .inl (g,(rows.length:Int),u,v,(i:Int),((j+1:Nat):Int),anyC rows 2 i (j+1),anyC rows 3 i (j+1),())):=by
   unfold ze2;rw[hg,qav hij hj',qav hij hj',yc0 (by omega:(j:Int)<(rows.length:Int)),yb0,zq hj',yb0,toNat_cast];unfold kd;cases((rows.getD j W0).1==1)
   ·rw[yb1,yb0]
    cases anyC rows 2 i j
    ·rw[yd0,yb0,ya0]
     dsimp only;cases anyC rows 3 i j
     ·rw[yd0,hg,zq hj',yb0,ya0]
      dsimp only;rw[w1,toNat_cast];rfl
     ·rw[yb0,ya0]
      dsimp only;rw[w1];rfl
    ·rw[yb0,ya0]
     dsimp only;cases anyC rows 3 i j
     ·rw[yd0,hg,zq hj',yb0,ya0]
      dsimp only;rw[w1,toNat_cast];rfl
     ·rw[yb0,ya0]
      dsimp only;rw[w1];rfl
   ·rfl
  simp only[hiF];cases h:(kd rows j==1)
  ·rw[h,yd0] at hs
   rw[yd0];exact(zal (B:=λd=>ze2 d.1 d.2.1 d.2.2.1 d.2.2.2.1 d.2.2.2.2.1 d.2.2.2.2.2.1 d.2.2.2.2.2.2.1 d.2.2.2.2.2.2.2.1) hs).trans (qe4 hg hl f (j+1) (by omega) (by omega) (by omega))
  ·rw[h,yb0] at hs
   rw[yb0];exact jh (B:=λd=>ze2 d.1 d.2.1 d.2.2.1 d.2.2.2.1 d.2.2.2.2.1 d.2.2.2.2.2.1 d.2.2.2.2.2.2.1 d.2.2.2.2.2.2.2.1) hs
def between (i m:Nat)(a:Bool)(f:Nat->Bool)(k:Nat):Bool:=if i<=k/\k<i+m then a else f k
theorem z7e {n i m:Nat}{a:Bool}{f:Nat->Bool}:(mkT n (between i m a f)).set (i+m) a=mkT n (between i (m+1) a f):=by
 rw[q7p];refine znd λr hr=> ?_;unfold between;by_cases h:r=i+m
 ·rw[yx0 h,yx0 (by omega)]
 ·rw[yw0 h]
  by_cases h2:i<=r/\r<i+m
  ·rw[yx0 h2,yx0 (by omega)]
  ·rw[yw0 h2,yw0 (by omega)]
theorem jaa {g:PV zh}{n i j:Nat}(hn:n<=1048576)(hij:i<=j)(hj:j<=n){a b:Bool}{f h:Nat->Bool}:
 z3m (g,(n:Int),mkT n f,mkT n h,(i:Int),(j:Int),a,b,(i:Int),())=some (g,(n:Int),mkT n (between i (j -i) a f),mkT n (between i (j -i) b h),(i:Int),(j:Int),()):=by
 have:=zio (B:=λd=>zhj d.1 d.2.1 d.2.2.1 d.2.2.2.1 d.2.2.2.2.1 d.2.2.2.2.2.1 d.2.2.2.2.2.2.1 d.2.2.2.2.2.2.2.1 d.2.2.2.2.2.2.2.2.1) (λm=>(g,(n:Int),mkT n (between i m a f),mkT n (between i m b h),(i:Int),(j:Int),a,b,((i+m:Nat):Int),())) (j -i)
  (r:=(g,(n:Int),mkT n (between i (j -i) a f),mkT n (between i (j -i) b h),(i:Int),(j:Int),()))
  (λm hm=>by
    show zhj g n (mkT n (between i m a f)) (mkT n (between i m b h)) i j a b ((i+m:Nat):Int)=_;unfold zhj;rw[yc0 (by omega:((i+m:Nat):Int)<(j:Int)),yb0,zq (by rw[znc];omega),yb0,zq (by rw[znc];omega),yb0,toNat_cast,z7e,z7e,wrap64 (by omega) (by omega)];simp[Int.add_assoc])
  (by
    show zhj g n _ _ i j a b ((i+(j -i):Nat):Int)=_;unfold zhj;rw[yi0 (by omega:¬(((i+(j -i):Nat):Int)<(j:Int))),yd0])
 have e:∀(x:Bool) (f:Nat->Bool),mkT n f=mkT n (between i 0 x f):=λx f=>znd λr _=>by unfold between;rw[yw0 (by omega)]
 rw[show mkT n f=mkT n (between i 0 a f) from e a f,show mkT n h=mkT n (between i 0 b h) from e b h];rw[<-show mkT n f=mkT n (between i 0 a f) from e a f,<-show mkT n h=mkT n (between i 0 b h) from e b h] at this ⊢;exact this
def told (rows:RW)(c:Int)(i:Nat)(k:Nat):Bool:=decide (k<i)&&(!(kd rows k==1)&&runA rows c k)
theorem qaw {rows:RW}{c:Int}{i:Nat}(hin:i<rows.length)(hlo:(kd rows i==1)=false->lo rows i=i){k:Nat}(hk:k<rows.length):
 between i (hi rows i -i) (anyC rows c i (hi rows i)) (told rows c i) k=told rows c (max (hi rows i) (i+1)) k:=by
 obtain⟨a1,a2,a3,a4⟩:=zkr (rows:=rows) (k:=i) (by omega);unfold between told;by_cases h:i<=k/\k<i+(hi rows i -i)
 ·rw[yx0 h]
  have hk1:k<hi rows i:=by omega
  have hki:=a3 k h.1 hk1;have hi1:=a3 i (ym0 _) (by omega);have e1:=qe1 (hlo hi1) k h.1 λm m1 m2=>a3 m m1 (by omega);have e2:=q9z (by omega:i<=rows.length) h.1 hk1;unfold runA;rw[e1,e2,hki,yc0 (by omega:k<max (hi rows i) (i+1))];rfl
 ·rw[yw0 h]
  by_cases hki:k<i
  ·rw[yc0 hki,yc0 (by omega:k<max (hi rows i) (i+1))]
  ·rw[yi0 hki]
   by_cases hm:k<max (hi rows i) (i+1)
   ·have:k=i:=by omega
    subst this;have hh:hi rows k=k:=by omega
    have:=a4 (by omega);rw[hh] at this;rw[yc0 hm,this];rfl
   ·rw[yi0 hm]
theorem qax {g:PV zh}{rows:RW}(hg:g.2.2.1=rows)(hl:rows.length<=1048576):∀f i,rows.length -i<=f->i<=rows.length->((kd rows i==1)=false->i<rows.length->lo rows i=i)->
 ztm (g,(rows.length:Int),mkT rows.length (told rows 2 i),mkT rows.length (told rows 3 i),(i:Int),())=some (mkT rows.length (told rows 2 rows.length),mkT rows.length (told rows 3 rows.length),())
 |0,i,hf,hin,hlo=>by
  have:i=rows.length:=by omega
  subst this;refine jh (B:=λd=>zc9 d.1 d.2.1 d.2.2.1 d.2.2.2.1 d.2.2.2.2.1) ?_;show zc9 g rows.length _ _ rows.length=_;unfold zc9;rw[yi0 (yi1 _),yd0]
 |f+1,i,hf,hin,hlo=>by
  by_cases hlt:i<rows.length
  ·obtain⟨a1,a2,a3,a4⟩:=zkr (rows:=rows) (k:=i) (by omega)
   have hs:zc9 g rows.length (mkT rows.length (told rows 2 i)) (mkT rows.length (told rows 3 i)) i=
    some (.inl (g,(rows.length:Int),mkT rows.length (told rows 2 (max (hi rows i) (i+1))),mkT rows.length (told rows 3 (max (hi rows i) (i+1))),((max (hi rows i) (i+1):Nat):Int),())):=by
    unfold zc9;have s1:=qe4 (u:=mkT rows.length (told rows 2 i)) (v:=mkT rows.length (told rows 3 i)) (i:=i) hg hl _ i rfl (ym0 _) (by omega);rw[qau (by omega),qau (by omega)] at s1;rw[yc0 (by omega:(i:Int)<(rows.length:Int)),yb0,s1,ya0];dsimp only;rw[show hiF rows (rows.length -i) i=hi rows i from rfl,jaa (by omega) a1 a2,ya0];dsimp only;rw[wrap64 (by omega) (by omega)]
    have e:zib (hi rows i:Int) ((i:Int)+1)=some ((((max (hi rows i) (i+1):Nat):Int),()),()):=by
     unfold zib;by_cases h:(hi rows i:Int)>(i:Int)+1
     ·rw[yc0 h,yb0,show max (hi rows i) (i+1)=hi rows i from by omega]
     ·rw[yi0 h,yd0,show max (hi rows i) (i+1)=i+1 from by omega];rfl
    rw[e,ya0];dsimp only;rw[znd λk hk=>qaw (c:=2) hlt (λh=>hlo h hlt) hk,znd λk hk=>qaw (c:=3) hlt (λh=>hlo h hlt) hk]
   refine Eq.trans (zal (B:=λd=>zc9 d.1 d.2.1 d.2.2.1 d.2.2.2.1 d.2.2.2.2.1) hs) ?_;refine qax hg hl f _ (by omega) (by omega) λh hl2=> ?_;by_cases hh:hi rows i<=i
   ·have e:max (hi rows i) (i+1)=i+1:=by omega
    have hii:hi rows i=i:=by omega
    have hk:=a4 (by omega);rw[hii] at hk;rw[e];simp only[lo];rw[hk,yb0]
   ·have e:max (hi rows i) (i+1)=hi rows i:=by omega
    rw[e] at h hl2;rw[a4 hl2] at h;cases h
  ·have:i=rows.length:=by omega
   subst this;refine jh (B:=λd=>zc9 d.1 d.2.1 d.2.2.1 d.2.2.2.1 d.2.2.2.2.1) ?_;show zc9 g rows.length _ _ rows.length=_;unfold zc9;rw[yi0 (yi1 _),yd0]
theorem jab {g:PV zh}{rows:RW}(hg:g.2.2.1=rows)(hl:rows.length<=1048576):zpo g=some ((mkT rows.length (told rows 2 rows.length),mkT rows.length (told rows 3 rows.length),()),()):=by
 unfold zpo
 have e:∀c:Int,List.replicate rows.length false=mkT rows.length (told rows c 0):=λc=>by
  rw[q7q];exact znd λk _=>by unfold told;rw[yi0 (by omega)];rfl
 have:=qax hg hl rows.length 0 (by omega) (by omega) (λ_ _=>rfl);rw[<-e 2,<-e 3] at this;rw[hg,q5u (by omega),yb0,yb0,toNat_cast,show ztm (g,(rows.length:Int),List.replicate rows.length false,List.replicate rows.length false,0,())=_ from this];rfl
end R
end

section
/- The text of one half of a group: both sides write the same. -/
open Go Go.Dn
namespace R
def zbk (sign line:List UInt8):List UInt8:=bif endP line then sign++line else(sign++line)++[10,92,32,110,111,110,101,10]
def zbq (rows:RW)(c:Int)(k:Nat):List UInt8:=
 bif !(kd rows k==1)&&runA rows c k then[33,32] else bif kd rows k==2 then[45,32] else bif kd rows k==3 then[43,32] else[32,32]
def ziy (rows:RW)(c:Int)(k:Nat):List UInt8:=bif kd rows k==c then[] else zbk (zbq rows c k) (rows.getD k W0).2.1
def ku (rows:RW)(c:Int):Nat->List UInt8
 |0=>[]
 |k+1=>ku rows c k++ziy rows c k
theorem qe5 {sign line:List UInt8}(h1:sign.length<=100)(h2:line.length<=1048576):zdz sign line=some ((zbk sign line,()),()):=by
 unfold zdz zbk;rw[zrg _ (by omega),ya0];dsimp only;cases endP line
 ·rw[yd0,yd0,yc0 (by omega),yb0,yc0 (by simp;omega),yb0,yc0 (by simp;omega),yb0]
  simp
 ·rw[yb0,yb0,yc0 (by omega),yb0]
theorem jac {sign line:List UInt8}(h1:sign.length<=100)(h2:line.length<=1048576)(h3:1<=line.length):zhx sign line=some ((zbk sign line,()),()):=by
 unfold zhx zbk;rw[zix _ h3 (by omega),ya0];dsimp only;cases endP line
 ·rw[yd0,yd0,yc0 (by omega),yb0,yc0 (by simp;omega),yb0]
 ·rw[yb0,yb0,yc0 (by omega),yb0]
def znn (rows:RW):Prop:=rows.length<=80/\∀k,k<rows.length->(kd rows k=1\/kd rows k=2\/kd rows k=3)/\1<=List.length (rows.getD k W0).2.1/\List.length (rows.getD k W0).2.1<=30
theorem zvz (rows:RW)(c:Int)(k:Nat):(zbq rows c k).length=2:=by
 unfold zbq;cases(!(kd rows k==1)&&runA rows c k)<;>cases(kd rows k==2)<;>cases(kd rows k==3)<;>rfl
theorem zu4 {rows:RW}{c:Int}(h:znn rows){k:Nat}(hk:k<rows.length):(ziy rows c k).length<=40:=by
 obtain⟨_,_,h3⟩:=h.2 k hk;have:=zvz rows c k;unfold ziy zbk;cases(kd rows k==c)
 ·rw[yd0]
  cases endP (rows.getD k W0).2.1
  ·rw[yd0,ye0,ye0];simp only[yf0,yp0];omega
  ·rw[yb0,ye0];omega
 ·simp
theorem zqj {rows:RW}{c:Int}(h:znn rows):∀k,k<=rows.length->(ku rows c k).length<=40*k
 |0,_=>by simp[ku]
 |k+1,hk=>by
  have h1:=zqj (c:=c) h k (by omega);have h2:=zu4 (c:=c) h (by omega:k<rows.length);simp only[ku,ye0];omega
theorem q7y {rows:RW}{k:Nat}(h:kd rows k=1\/kd rows k=2\/kd rows k=3):∃s:List UInt8,zhs (rows.getD k W0)=some ((s,()),())/\s++[32]=bif kd rows k==2 then[45,32] else bif kd rows k==3 then[43,32] else[32,32]:=by
 unfold zhs;unfold kd at*;rcases h with h|h|h
 ·rw[h];exact⟨[32],rfl,rfl⟩
 ·rw[h];exact⟨[45],rfl,rfl⟩
 ·rw[h];exact⟨[43],rfl,rfl⟩
theorem z7f {g:PV zh}{rows:RW}(hg:g.2.2.1=rows)(h:znn rows)(c:Int):zjd g c=some ((ku rows c rows.length,()),()):=by
 have hl:=h.1
 have:=zio (B:=λd=>zg7 d.1 d.2.1 d.2.2.1 d.2.2.2.1 d.2.2.2.2.1 d.2.2.2.2.2.1) (λi=>(c,g,ku rows c i,rows,(rows.length:Int),(i:Int),())) rows.length (r:=(ku rows c rows.length,()))
  (λi hi'=>by
    show zg7 c g (ku rows c i) rows rows.length i=_;obtain⟨k1,k2,k3⟩:=h.2 i hi';have hlen:=zqj (c:=c) h i (by omega);have hpl:=zu4 (c:=c) h hi';have e:IntKind.wrap .i64 ((i:Int)+1)=((i+1:Nat):Int):=by rw[wrap64 (by omega) (by omega)];omega
    have hsl:=zvz rows c i;unfold zg7;rw[yc0 (by omega:(i:Int)<(rows.length:Int)),yb0,zq hi',yb0,toNat_cast,q6b hg (by omega) hi' c];simp only[ku];have hp:ziy rows c i=bif kd rows i==c then[] else zbk (zbq rows c i) (rows.getD i W0).2.1:=rfl;have hkd:kd rows i=(rows.getD i W0).1:=rfl;rw[<-hkd];cases hc:(kd rows i==c)
    ·rw[hc,yd0] at hp
     rw[hp] at hpl ⊢;have hs:zbq rows c i=bif !(kd rows i==1)&&runA rows c i then[33,32] else bif kd rows i==2 then[45,32] else bif kd rows i==3 then[43,32] else[32,32]:=rfl;rw[yd0,ya0];dsimp only
     have hb:((bif (!(kd rows i==1)) then some (c,g,ku rows c i,rows.getD i W0,rows,(rows.length:Int),(i:Int),runA rows c i,()) else some (c,g,ku rows c i,rows.getD i W0,rows,(rows.length:Int),(i:Int),false,())):
      Option ((PV (.int .i64)×PV zh×PV .str×PV zo×PV zi×PV (.int .i64)×PV (.int .i64)×PV .bool×Unit)))=some (c,g,ku rows c i,rows.getD i W0,rows,(rows.length:Int),(i:Int),(!(kd rows i==1)&&runA rows c i),()):=by
      cases(kd rows i==1)<;>rfl
     rw[hb,ya0];dsimp only;cases hr:(!(kd rows i==1)&&runA rows c i)
     ·rw[hr,yd0] at hs
      obtain⟨s,s1,s2⟩:=q7y k1;rw[yd0,s1,ya0];dsimp only;have s3:s++[32]=zbq rows c i:=s2.trans hs.symm;have s4:s.length+1=2:=by rw[<-hsl,<-s3];simp
      rw[yc0 (by simp;omega),yb0,s3,qe5 (by omega) (by omega),ya0];dsimp only;rw[yc0 (by omega),yb0,ya0];dsimp only;rw[e]
     ·rw[hr,yb0] at hs
      rw[yb0,<-hs,qe5 (by omega) (by omega),ya0];dsimp only;rw[yc0 (by omega),yb0,ya0];dsimp only;rw[e]
    ·rw[hc,yb0] at hp
     rw[hp,yb0,ya0,yz0];dsimp only;rw[e])
  (by
    show zg7 c g (ku rows c rows.length) rows rows.length rows.length=_;unfold zg7;rw[yi0 (yi1 _),yd0])
 unfold zjd;rw[hg,show zz0 (c,g,[],rows,(rows.length:Int),0,())=_ from this];rfl
theorem qd8 {rows:RW}{c:Int}{k:Nat}(hk:k<rows.length):(mkT rows.length (told rows c rows.length)).getD k false=(!(kd rows k==1)&&runA rows c k):=by
 rw[q7o hk];unfold told;rw[yc0 hk];rfl
theorem q7z {rows:RW}{k:Nat}(hk:k<rows.length)(h1:(kd rows k==1)=false):runA rows (kd rows k) k=true:=by
 obtain⟨a1,a2,a3,a4⟩:=zkr (rows:=rows) (k:=k) (by omega)
 have:k<hi rows k:=by
  rcases Nat.lt_or_ge k (hi rows k) with h|h
  ·exact h
  ·have e:hi rows k=k:=by omega
   have:=a4 (by omega);rw[e,h1] at this;cases this
 exact q6a (lo_le rows k) this a2 rfl
theorem z7g {g:PV zh}{rows:RW}(hg:g.2.2.1=rows)(h:znn rows)(old:Bool):zf6 g old=some ((ku rows (bif old then 3 else 2) rows.length,()),()):=by
 have hl:=h.1;generalize hc:(bif old then(3:Int) else 2)=c
 have:=zio (B:=λd=>zhu d.1 d.2.1 d.2.2.1 d.2.2.2.1 d.2.2.2.2.1 d.2.2.2.2.2.1 d.2.2.2.2.2.2.1) (λi=>(old,mkT rows.length (told rows 2 rows.length),mkT rows.length (told rows 3 rows.length),ku rows c i,rows,(rows.length:Int),(i:Int),())) rows.length (r:=(ku rows c rows.length,()))
  (λi hi'=>by
    show zhu old (mkT rows.length (told rows 2 rows.length)) (mkT rows.length (told rows 3 rows.length)) (ku rows c i) rows rows.length i=_;obtain⟨k1,k2,k3⟩:=h.2 i hi';have hlen:=zqj (c:=c) h i (by omega);have hpl:=zu4 (c:=c) h hi';have e:IntKind.wrap .i64 ((i:Int)+1)=((i+1:Nat):Int):=by rw[wrap64 (by omega) (by omega)];omega
    have hsl:=zvz rows c i;have hself:=λh1=>q7z hi' h1;have hp:ziy rows c i=bif kd rows i==c then[] else zbk (zbq rows c i) (rows.getD i W0).2.1:=rfl;have hs:zbq rows c i=bif !(kd rows i==1)&&runA rows c i then[33,32] else bif kd rows i==2 then[45,32] else bif kd rows i==3 then[43,32] else[32,32]:=rfl;have hsh:zbk (zbq rows c i) (rows.getD i W0).2.1=zbk (zbq rows c i) (rows.getD i W0).2.1:=rfl;have hS:=jac (sign:=zbq rows c i) (line:=(rows.getD i W0).2.1) (by omega) (by omega) k2;have hshl:(kd rows i==c)=false->(zbk (zbq rows c i) (rows.getD i W0).2.1).length<=40:=λhh=>by rw[hp,hh,yd0] at hpl;exact hpl
    unfold zhu;rw[yc0 (by omega:(i:Int)<(rows.length:Int)),yb0,zq hi',yb0,toNat_cast];simp only[ku];rw[hp];have hkd:kd rows i=(rows.getD i W0).1:=rfl;rw[hkd] at hs hself hp k1 hshl ⊢;generalize hx:rows.getD i W0=x at*;have g2:=qd8 (c:=2) hi';have g3:=qd8 (c:=3) hi';rw[hkd] at g2 g3;have i2:inB (i:Int) (mkT rows.length (told rows 2 rows.length)).length=true:=zq (by rw[znc];exact hi');have i3:inB (i:Int) (mkT rows.length (told rows 3 rows.length)).length=true:=zq (by rw[znc];exact hi');generalize mkT rows.length (told rows 2 rows.length)=G2 at*;generalize mkT rows.length (told rows 3 rows.length)=G3 at*;rcases k1 with k1|k1|k1
    ·
     have e1:(x.1==1)=true:=by rw[k1];rfl
     have e2:(x.1==2)=false:=by rw[k1];rfl
     have e3:(x.1==3)=false:=by rw[k1];rfl
     have ec:(x.1==c)=false:=by rw[k1,<-hc];cases old<;>rfl
     have hshl:=hshl ec;rw[e1,e2,e3] at hs;simp only[ys0,ye2,yd0] at hs;rw[hs] at hS hshl;simp only[e1,e2,e3,ec,yd0,ya0,ys0,hS,hs,yc0 (by omega:(ku rows c i).length+(zbk [32,32] x.2.1).length<=1099511627776),yb0,e]
    ·have e1:(x.1==1)=false:=by rw[k1];rfl
     have e2:(x.1==2)=true:=by rw[k1];rfl
     have e3:(x.1==3)=false:=by rw[k1];rfl
     cases old
     ·have ec:(x.1==c)=true:=by rw[k1,<-hc];rfl
      simp only[e1,e2,e3,ec,yd0,yb0,ya0,ys0,yb1,yz0,e]
     ·have ec:(x.1==c)=false:=by rw[k1,<-hc];rfl
      have hshl:=hshl ec;have hsf:=hself e1;rw[k1] at hsf;have hcc:c=3:=hc.symm;subst hcc;rw[e1,e2,e3] at hs;rw[e1,hsf] at g2;rw[e1] at g3;simp only[yb1,yx1] at g2 g3 hs;cases hr:runA rows 3 i
      ·rw[hr] at g3 hs
       simp only[yd0,yb0] at hs;rw[hs] at hS hshl;simp only[e1,e2,e3,ec,yd0,yb0,ya0,ys0,yb1,toNat_cast,i2,i3,g2,g3,hS,hs,yc0 (by omega:(ku rows 3 i).length+(zbk [45,32] x.2.1).length<=1099511627776),e]
      ·rw[hr] at g3 hs
       simp only[yd0,yb0] at hs;rw[hs] at hS hshl;simp only[e1,e2,e3,ec,yd0,yb0,ya0,ys0,yb1,toNat_cast,i2,i3,g2,g3,hS,hs,yc0 (by omega:(ku rows 3 i).length+(zbk [33,32] x.2.1).length<=1099511627776),e]
    ·have e1:(x.1==1)=false:=by rw[k1];rfl
     have e2:(x.1==2)=false:=by rw[k1];rfl
     have e3:(x.1==3)=true:=by rw[k1];rfl
     cases old
     ·have ec:(x.1==c)=false:=by rw[k1,<-hc];rfl
      have hshl:=hshl ec;have hsf:=hself e1;rw[k1] at hsf;have hcc:c=2:=hc.symm;subst hcc;rw[e1,e2,e3] at hs;rw[e1,hsf] at g3;rw[e1] at g2;simp only[yb1,yx1] at g2 g3 hs;cases hr:runA rows 2 i
      ·rw[hr] at g2 hs
       simp only[yd0,yb0] at hs;rw[hs] at hS hshl;simp only[e1,e2,e3,ec,yd0,yb0,ya0,ys0,yb1,toNat_cast,i2,i3,g2,g3,hS,hs,yc0 (by omega:(ku rows 2 i).length+(zbk [43,32] x.2.1).length<=1099511627776),e]
      ·rw[hr] at g2 hs
       simp only[yd0,yb0] at hs;rw[hs] at hS hshl;simp only[e1,e2,e3,ec,yd0,yb0,ya0,ys0,yb1,toNat_cast,i2,i3,g2,g3,hS,hs,yc0 (by omega:(ku rows 2 i).length+(zbk [33,32] x.2.1).length<=1099511627776),e]
     ·have ec:(x.1==c)=true:=by rw[k1,<-hc];rfl
      simp only[e1,e2,e3,ec,yd0,yb0,ya0,ys0,yb1,yz0,e])
  (by
    show zhu old _ _ (ku rows c rows.length) rows rows.length rows.length=_;unfold zhu;rw[yi0 (yi1 _),yd0])
 unfold zf6;rw[jab hg (by omega),ya0];dsimp only;rw[hg,show z5k (old,mkT rows.length (told rows 2 rows.length),mkT rows.length (told rows 3 rows.length),[],rows,(rows.length:Int),0,())=_ from this];rfl
theorem zu5 {g:PV zh}(h:zae g=true):znn g.2.2.1:=by
 unfold zae inI at h;simp only[yh0,yr0,yj1] at h;obtain⟨_,_,⟨h1,h2⟩,h3,_⟩:=h;refine⟨by omega,λk hk=> ?_⟩
 have hb:zaw g.2.2.1 k=false:=by
  cases hb:zaw g.2.2.1 k with
  |false=>rfl
  |true=>rw[zdf.2 ⟨k,hk,hb⟩] at h3;cases h3
 unfold zaw inI at hb;simp only[yz2,Bool.not_eq_false',yh0,yr0] at hb;obtain⟨⟨b1,b2⟩,b3,_⟩:=hb;have:=zm2 b3;refine⟨?_,this.1,this.2⟩;have e:∀z:Int,z>=1->z<=3->z=1\/z=2\/z=3:=λz _ _=>by omega
 exact e _ b1 b2
end R
end

section
/- Groups side by side: both sides write the same. -/
open Go Go.Dn
namespace R
theorem zrv (n:Nat)(h:n<=1000000):zfw (n:Int)=some ((dec n,()),()):=by
 unfold zfw zrq;rw[yc0 (by omega),yc0 (by omega:(n:Int)<=9223372036854775807),Lib.itoa_nonneg];rfl
theorem zv0 (a m:Nat)(ha:a<=10000):zhr (a:Int) (m:Int)=some ((((numb a m:Nat):Int),()),()):=by unfold zhr;exact qd7 a m ha
def pairT (a m:Nat):List UInt8:=if m<=1 then dec (numb a m) else dec (numb a m)++([44]++dec (a+m))
theorem zj8 {a m:Nat}(ha:a<=10000)(hm:m<=10000):(pairT a m).length<=43:=by
 have h1:=zcm (numb a m) (yo1 (zkq ha) (by omega));have h2:=zcm (a+m) (by omega);unfold pairT;split
 ·omega
 ·simp only[ye0,yf0,yp0];omega
theorem qe6 (a m:Nat)(ha:a<=10000)(hm:m<=10000):zjz (a:Int) (m:Int)=some ((pairT a m,()),()):=by
 have hn:=zkq (m:=m) ha;have h1:=zcm (numb a m) (by omega);have h2:=zcm (a+m) (by omega);unfold zjz;rw[qcp a m ha,ya0];dsimp only;rw[zru _ (by omega),ya0,show IntKind.wrap .i64 ((a:Int)+(m:Int))=((a+m:Nat):Int) from by rw[wrap64 (by omega) (by omega)];omega,zru (a+m) (by omega),ya0];dsimp only;unfold pairT;by_cases h:m<=1
 ·rw[yi0 (by omega:¬(m:Int)>1),yx0 h];rfl
 ·rw[yc0 (by omega:(m:Int)>1),yw0 h,yb0,yc0 (by simp only[yf0,yp0];omega),yb0,yc0 (by simp only[ye0,yf0,yp0];omega),yb0];rfl
theorem qe7 (a m:Nat)(ha:a<=10000)(hm:m<=10000):zjx ((numb a m:Nat):Int) ((a+m:Nat):Int)=some ((pairT a m,()),()):=by
 have hn:=zkq (m:=m) ha;have h1:=zcm (numb a m) (by omega);have h2:=zcm (a+m) (by omega);unfold zjx pairT;rw[zrv _ (by omega),zrv _ (by omega)];simp only[ya0];by_cases h:m<=1
 ·have e:numb a m=a+m:=by unfold numb;split<;>omega
  rw[yx0 h,show(((numb a m:Nat):Int)==((a+m:Nat):Int))=true from by rw[e];exact yn1 _];rfl
 ·have e:numb a m≠a+m:=by unfold numb;split<;>omega
  rw[yw0 h,show(((numb a m:Nat):Int)==((a+m:Nat):Int))=false from by rw[yo0];omega,yd0,yc0 (by simp only[yf0,yp0];omega),yb0,yc0 (by simp only[ye0,yf0,yp0];omega),yb0,yj0]
theorem qfq (a m:Nat)(ha:a<=10000)(hm:m<=10000):zj6 (a:Int) (m:Int)=some ((((a+m:Nat):Int),()),()):=by
 unfold zj6;rw[wrap64 (by omega) (by omega)];rfl
def hasK (rows:RW)(c:Int):Bool:=rows.any λ(r:PV zo)=>r.1==c
theorem qfr {g:PV zh}{rows:RW}(hg:g.2.2.1=rows)(hl:rows.length<=1048576)(c:Int):zjf g c=some ((hasK rows c,()),()):=by
 unfold zjf hasK;rw[hg]
 have step:∀i (hi:i<rows.length),zed g c g c false rows rows false rows rows rows.length i=some (if rows[i].1==c then .inr (.inr (g,c,g,c,false,rows,rows,false,rows,(i:Int),())) else .inl (g,c,g,c,false,rows,rows,false,rows,rows,(rows.length:Int),((i+1:Nat):Int),())):=by
  intro i hi;unfold zed;rw[yc0 (by omega:(i:Int)<(rows.length:Int)),yb0,zq hi,yb0,toNat_cast,ql hi];cases rows[i].1==c
  ·rw[yd0,wrap64 (by omega) (by omega)];rfl
  ·rfl
 rw[show zys (g,c,g,c,false,rows,rows,false,rows,rows,(rows.length:Int),0,())=_ from zko (B:=λd=>zed d.1 d.2.1 d.2.2.1 d.2.2.2.1 d.2.2.2.2.1 d.2.2.2.2.2.1 d.2.2.2.2.2.2.1 d.2.2.2.2.2.2.2.1 d.2.2.2.2.2.2.2.2.1 d.2.2.2.2.2.2.2.2.2.1 d.2.2.2.2.2.2.2.2.2.2.1 d.2.2.2.2.2.2.2.2.2.2.2.1) rows (λ(r:PV zo)=>r.1==c)
  (λi=>(g,c,g,c,false,rows,rows,false,rows,rows,(rows.length:Int),(i:Int),())) (λi=>.inr (g,c,g,c,false,rows,rows,false,rows,(i:Int),())) (.inl (g,c,g,c,false,rows,rows,false,rows,()))
  (λi hi hq=>by show zed g c g c false rows rows false rows rows rows.length i=_;rw[step i hi,hq];rfl)
  (λi hi hq=>by show zed g c g c false rows rows false rows rows rows.length i=_;rw[step i hi,hq];rfl)
  (by
    show zed g c g c false rows rows false rows rows rows.length rows.length=_;unfold zed;rw[yi0 (yi1 _),yd0])]
 cases rows.any λ(r:PV zo)=>r.1==c
 ·rfl
 ·rw[yx0 rfl,ya0]
  dsimp only;rw[yc0 (show((_:Nat):Int)>=0 from Int.natCast_nonneg _)]
theorem qfs {g:PV zh}{rows:RW}(hg:g.2.2.1=rows)(hl:rows.length<=1048576)(c:Int):zj0 g c=some ((hasK rows c,()),()):=by
 unfold zj0 hasK;rw[hg]
 have step:∀i (hi:i<rows.length),ze1 c rows rows.length i=some (if rows[i].1==c then .inr (.inr (true,())) else .inl (c,rows,(rows.length:Int),((i+1:Nat):Int),())):=by
  intro i hi;unfold ze1;rw[yc0 (by omega:(i:Int)<(rows.length:Int)),yb0,zq hi,yb0,toNat_cast,ql hi];cases rows[i].1==c
  ·rw[yd0,wrap64 (by omega) (by omega)];rfl
  ·rfl
 rw[show z5i (c,rows,(rows.length:Int),0,())=_ from zko (B:=λd=>ze1 d.1 d.2.1 d.2.2.1 d.2.2.2.1) rows (λ(r:PV zo)=>r.1==c)
  (λi=>(c,rows,(rows.length:Int),(i:Int),())) (λ_=>.inr (true,())) (.inl ())
  (λi hi hq=>by show ze1 c rows rows.length i=_;rw[step i hi,hq];rfl)
  (λi hi hq=>by show ze1 c rows rows.length i=_;rw[step i hi,hq];rfl)
  (by
    show ze1 c rows rows.length rows.length=_;unfold ze1;rw[yi0 (yi1 _),yd0])]
 cases rows.any λ(r:PV zo)=>r.1==c<;>rfl
def top1 (x:PV zh):List UInt8:=([42,42,42,42,42,42,42,42,42,42,42,42,42,42,42,10,42,42,42,32]++pairT (Int.toNat x.1) (zu x.2.2.1 3).length)++[32,42,42,42,42,10]
def top2 (x:PV zh):List UInt8:=([45,45,45,32]++pairT (Int.toNat x.2.1) (zu x.2.2.1 2).length)++[32,45,45,45,45,10]
def opt (x:PV zh)(d c:Int):List UInt8:=bif hasK x.2.2.1 d then ku x.2.2.1 c (List.length x.2.2.1) else[]
def zdo (x:PV zh):List UInt8:=((top1 x++opt x 2 3)++top2 x)++opt x 3 2
def zam (g:GR):List UInt8:=g.flatMap zdo
theorem z8q {x:PV zh}(h:zae x=true):(top1 x).length<=69/\(top2 x).length<=53/\(∀c,(ku x.2.2.1 c (List.length x.2.2.1)).length<=3200)/\(zdo x).length<=6522:=by
 obtain⟨⟨a,ea,ha⟩,⟨b,eb,hb⟩,h3,h4⟩:=zf4 h;have c1:=zj8 (a:=a) (m:=(zu x.2.2.1 3).length) (by omega) (by omega);have c2:=zj8 (a:=b) (m:=(zu x.2.2.1 2).length) (by omega) (by omega)
 have t1:(top1 x).length<=69:=by
  unfold top1;rw[ea,toNat_cast];simp only[ye0,yf0,yp0];omega
 have t2:(top2 x).length<=53:=by
  unfold top2;rw[eb,toNat_cast];simp only[ye0,yf0,yp0];omega
 have hr:=zu5 h
 have hh:∀c,(ku x.2.2.1 c (List.length x.2.2.1)).length<=3200:=λc=>by
  have:=zqj (c:=c) hr (List.length x.2.2.1) (ym0 _);have:=hr.1;omega
 have ho:∀d c,(opt x d c).length<=3200:=λd c=>by
  unfold opt;cases hasK x.2.2.1 d
  ·exact ye1 _
  ·exact hh c
 have o1:=ho 2 3;have o2:=ho 3 2;refine⟨t1,t2,hh,?_⟩;unfold zdo;simp only[ye0];omega
theorem room {n:Nat}(h:n<=10000000):decide (n<=1099511627776)=true:=yc0 (by omega)
theorem qwm {g:GR}(hs:SmG g)(hg:jo g=true):zot g=some ((zam g,()),()):=by
 have hl:=hs.1
 have hf:=za8 (B:=λd=>zha d.1 d.2.1 d.2.2.1 d.2.2.2.1) g (λa x=>a++zdo x) (λa i=>(a,g,(g.length:Int),(i:Int),())) (λa=>(a,())) (λi a=>a.length<=6522*i)
  (λi hi a hI=>by
    have hm:=hs.2 _ (ym1 hi);obtain⟨hx,h20⟩:=zga hg hi;obtain⟨⟨p,ep,hp⟩,⟨q,eq,hq⟩,h3,h4⟩:=zf4 hx;obtain⟨t1,t2,th,ts⟩:=z8q hx;refine⟨by rw[ye0];omega,?_⟩;show zha a g g.length i=_;unfold zha zer zeo;rw[yc0 (by omega:(i:Int)<(g.length:Int)),yb0,zq hi,yb0,toNat_cast,ql hi,zgf hm,ya0,ya0,zgf hm,ya0,ya0];have hr:=zu5 hx;have k2:=z7f (g:=g[i]) rfl hr 3;have k3:=z7f (g:=g[i]) rfl hr 2;have j2:=qfr (g:=g[i]) rfl hm.1 2;have j3:=qfr (g:=g[i]) rfl hm.1 3;have u3:=th 3;have u2:=th 2;have e1:([42,42,42,42,42,42,42,42,42,42,42,42,42,42,42,10,42,42,42,32]++pairT p (zu g[i].2.2.1 3).length)++[32,42,42,42,42,10]=top1 g[i]:=by unfold top1;rw[ep,toNat_cast]
    have e2:([45,45,45,32]++pairT q (zu g[i].2.2.1 2).length)++[32,45,45,45,45,10]=top2 g[i]:=by unfold top2;rw[eq,toNat_cast]
    have c1:=zj8 (a:=p) (m:=(zu g[i].2.2.1 3).length) (by omega) (by omega);have c2:=zj8 (a:=q) (m:=(zu g[i].2.2.1 2).length) (by omega) (by omega);dsimp only;rw[ep,zv0 p _ (by omega),ya0,qfq p _ (by omega) (by omega),ya0];dsimp only;rw[qe7 p _ (by omega) (by omega),ya0];dsimp only;rw[room (by simp only[yf0,yp0];omega),yb0,room (by simp only[ye0,yf0,yp0];omega),yb0,e1,room (by omega),yb0,j2,ya0];dsimp only
    have fin:∀z:List UInt8,z.length<=6522*i+3300->
     ((zhr g[i].2.1 ((zu g[i].2.2.1 2).length:Int)).bind λr18=>(zj6 g[i].2.1 ((zu g[i].2.2.1 2).length:Int)).bind λr19=>(zjx r18.1.1 r19.1.1).bind λr20=>
       bif decide (([45,45,45,32]:List UInt8).length+r20.1.1.length<=1099511627776) then
        bif decide ((([45,45,45,32]:List UInt8)++r20.1.1).length+([32,45,45,45,45,10]:List UInt8).length<=1099511627776) then
         bif decide (z.length+(([45,45,45,32]++r20.1.1)++[32,45,45,45,45,10]).length<=1099511627776) then
          (zjf g[i] 3).bind λr22=>
            bif r22.1.1 then
             (zjd g[i] 2).bind λr23=>
               bif decide ((z++(([45,45,45,32]++r20.1.1)++[32,45,45,45,45,10])).length+r23.1.1.length<=1099511627776) then
                some (((z++(([45,45,45,32]++r20.1.1)++[32,45,45,45,45,10]))++r23.1.1),g,(g.length:Int),(i:Int),())
               else none
            else some ((z++(([45,45,45,32]++r20.1.1)++[32,45,45,45,45,10])),g,(g.length:Int),(i:Int),())
         else none
        else none
       else none:Option (PV .str×PV zk×PV (.int .i64)×PV (.int .i64)×Unit))=some ((z++top2 g[i])++opt g[i] 3 2,g,(g.length:Int),(i:Int),()):=by
     intro z hz;rw[eq,zv0 q _ (by omega),ya0,qfq q _ (by omega) (by omega),ya0];dsimp only;rw[qe7 q _ (by omega) (by omega),ya0];dsimp only;rw[room (by simp only[yf0,yp0];omega),yb0,room (by simp only[ye0,yf0,yp0];omega),yb0,e2,room (by omega),yb0,j3,ya0];dsimp only;unfold opt;cases hasK g[i].2.2.1 3
     ·rw[yd0,yd0,yz0]
     ·rw[yb0,yb0,k3,ya0]
      dsimp only;rw[room (by rw[ye0];omega),yb0]
    have hw:IntKind.wrap .i64 ((i:Int)+1)=((i+1:Nat):Int):=by rw[wrap64 (by omega) (by omega)];omega
    have es:a++zdo g[i]=(((a++top1 g[i])++opt g[i] 2 3)++top2 g[i])++opt g[i] 3 2:=by unfold zdo;simp only[yj0]
    rw[es];have eo:opt g[i] 2 3=bif hasK g[i].2.2.1 2 then ku g[i].2.2.1 3 (List.length g[i].2.2.1) else[]:=rfl;rw[eo];cases hasK g[i].2.2.1 2
    ·rw[yd0,yd0,ya0,yz0]
     refine(congrArg (λz=>Option.bind z _) (fin (a++top1 g[i]) (by rw[ye0];omega))).trans ?_;rw[ya0];dsimp only;rw[hw]
    ·rw[yb0,yb0,k2,ya0]
     dsimp only;rw[room (by rw[ye0];omega),yb0,ya0];refine(congrArg (λz=>Option.bind z _) (fin ((a++top1 g[i])++ku g[i].2.2.1 3 (List.length g[i].2.2.1)) (by rw[ye0,ye0];omega))).trans ?_;rw[ya0];dsimp only;rw[hw])
  (λa _=>by
    show zha a g g.length g.length=_;unfold zha;rw[yi0 (yi1 _),yd0]) [] (ye1 _)
 unfold zot;rw[show z0q ([],g,(g.length:Int),0,())=_ from hf.1,ya0,zf9];rfl
theorem ztq {g:GR}(hs:SmG g)(hg:jo g=true):zjw g=some ((zam g,()),()):=by
 have hl:=hs.1
 have hf:=za8 (B:=λd=>zhv d.1 d.2.1 d.2.2.1 d.2.2.2.1) g (λa x=>a++zdo x) (λa i=>(a,g,(g.length:Int),(i:Int),())) (λa=>(a,())) (λi a=>a.length<=6522*i)
  (λi hi a hI=>by
    have hm:=hs.2 _ (ym1 hi);obtain⟨hx,h20⟩:=zga hg hi;obtain⟨⟨p,ep,hp⟩,⟨q,eq,hq⟩,h3,h4⟩:=zf4 hx;obtain⟨t1,t2,th,ts⟩:=z8q hx;refine⟨by rw[ye0];omega,?_⟩;show zhv a g g.length i=_;unfold zhv;rw[yc0 (by omega:(i:Int)<(g.length:Int)),yb0,zq hi,yb0,toNat_cast,ql hi,znw hm,ya0];have hr:=zu5 hx;have k2:zf6 g[i] true=_:=z7g (g:=g[i]) rfl hr true;have k3:zf6 g[i] false=_:=z7g (g:=g[i]) rfl hr false;rw[yb0] at k2;rw[yd0] at k3;have j2:=qfs (g:=g[i]) rfl hm.1 2;have j3:=qfs (g:=g[i]) rfl hm.1 3;have u3:=th 3;have u2:=th 2;have e1:([42,42,42,42,42,42,42,42,42,42,42,42,42,42,42,10,42,42,42,32]++pairT p (zu g[i].2.2.1 3).length)++[32,42,42,42,42,10]=top1 g[i]:=by unfold top1;rw[ep,toNat_cast]
    have e2:([45,45,45,32]++pairT q (zu g[i].2.2.1 2).length)++[32,45,45,45,45,10]=top2 g[i]:=by unfold top2;rw[eq,toNat_cast]
    have c1:=zj8 (a:=p) (m:=(zu g[i].2.2.1 3).length) (by omega) (by omega);have c2:=zj8 (a:=q) (m:=(zu g[i].2.2.1 2).length) (by omega) (by omega);dsimp only;rw[ep,qe6 p _ (by omega) (by omega),ya0];dsimp only;rw[room (by simp only[yf0,yp0];omega),yb0,room (by simp only[ye0,yf0,yp0];omega),yb0,e1,room (by omega),yb0,j2,ya0];dsimp only
    have fin:∀z:List UInt8,z.length<=6522*i+3300->
     ((zdy g[i]).bind λr11=>(zjz g[i].2.1 (r11.1.1.length:Int)).bind λr20=>
       bif decide (([45,45,45,32]:List UInt8).length+r20.1.1.length<=1099511627776) then
        bif decide ((([45,45,45,32]:List UInt8)++r20.1.1).length+([32,45,45,45,45,10]:List UInt8).length<=1099511627776) then
         bif decide (z.length+(([45,45,45,32]++r20.1.1)++[32,45,45,45,45,10]).length<=1099511627776) then
          (zj0 g[i] 3).bind λr22=>
            bif r22.1.1 then
             (zf6 g[i] false).bind λr23=>
               bif decide ((z++(([45,45,45,32]++r20.1.1)++[32,45,45,45,45,10])).length+r23.1.1.length<=1099511627776) then
                some (((z++(([45,45,45,32]++r20.1.1)++[32,45,45,45,45,10]))++r23.1.1),g,(g.length:Int),(i:Int),())
               else none
            else some ((z++(([45,45,45,32]++r20.1.1)++[32,45,45,45,45,10])),g,(g.length:Int),(i:Int),())
         else none
        else none
       else none:Option (PV .str×PV zk×PV (.int .i64)×PV (.int .i64)×Unit))=some ((z++top2 g[i])++opt g[i] 3 2,g,(g.length:Int),(i:Int),()):=by
     intro z hz;rw[znx hm,ya0];dsimp only;rw[eq,qe6 q _ (by omega) (by omega),ya0];dsimp only;rw[room (by simp only[yf0,yp0];omega),yb0,room (by simp only[ye0,yf0,yp0];omega),yb0,e2,room (by omega),yb0,j3,ya0];dsimp only;unfold opt;cases hasK g[i].2.2.1 3
     ·rw[yd0,yd0,yz0]
     ·rw[yb0,yb0,k3,ya0]
      dsimp only;rw[room (by rw[ye0];omega),yb0]
    have hw:IntKind.wrap .i64 ((i:Int)+1)=((i+1:Nat):Int):=by rw[wrap64 (by omega) (by omega)];omega
    have es:a++zdo g[i]=(((a++top1 g[i])++opt g[i] 2 3)++top2 g[i])++opt g[i] 3 2:=by unfold zdo;simp only[yj0]
    rw[es];have eo:opt g[i] 2 3=bif hasK g[i].2.2.1 2 then ku g[i].2.2.1 3 (List.length g[i].2.2.1) else[]:=rfl;rw[eo];cases hasK g[i].2.2.1 2
    ·rw[yd0,yd0,ya0,yz0]
     refine(congrArg (λz=>Option.bind z _) (fin (a++top1 g[i]) (by rw[ye0];omega))).trans ?_;rw[ya0];dsimp only;rw[hw]
    ·rw[yb0,yb0,k2,ya0]
     dsimp only;rw[room (by rw[ye0];omega),yb0,ya0];refine(congrArg (λz=>Option.bind z _) (fin ((a++top1 g[i])++ku g[i].2.2.1 3 (List.length g[i].2.2.1)) (by rw[ye0,ye0];omega))).trans ?_;rw[ya0];dsimp only;rw[hw])
  (λa _=>by
    show zhv a g g.length g.length=_;unfold zhv;rw[yi0 (yi1 _),yd0]) [] (ye1 _)
 unfold zjw;rw[show z5l ([],g,(g.length:Int),0,())=_ from hf.1,ya0,zf9];rfl
def stOk (g:GR):Bool:=jo g&&decide ((zam g).length<=3000)
def stR (g:GR):List UInt8:=bif stOk g then zam g else[]
theorem z5r {g:GR}(hs:SmG g):zls g=some ((stR g,stOk g,()),()):=by
 unfold zls stR stOk zmq;rw[zvw hs,ya0];dsimp only;cases hg:jo g
 ·rfl
 ·rw[ys0,yd0,qwm hs hg,ya0]
  dsimp only;by_cases h:(zam g).length<=3000
  ·rw[yi0 (by omega:¬((zam g).length:Int)>3000),yc0 h];rfl
  ·rw[yc0 (by omega:((zam g).length:Int)>3000),yi0 h];rfl
end R
end

section
/- Texts cut: what the leaves of both sides answer. -/
open Go Go.Dn
namespace R
theorem q6c (s p:List UInt8)(hs:s.length<=100000)(hp:p.length<=100):zn1 s p=some ((s.take p.length==p,()),()):=by
 unfold zn1;by_cases h:p.length<=s.length
 ·rw[yc0 (by omega:(s.length:Int)>=(p.length:Int)),yb0,show cutB 0 (p.length:Int) s.length=true from by unfold cutB;simp;omega,yb0]
  unfold cutL;simp
 ·rw[yi0 (by omega:¬(s.length:Int)>=(p.length:Int)),yd0]
  have:(s.take p.length==p)=false:=yo0.2 λe=>by
   have:=congrArg List.length e;rw[yr1] at this;omega
  rw[this]
theorem zl7 (s p:List UInt8)(hs:s.length<=100000)(hp:p.length<=100):zla s p=some ((bif s.take p.length==p then s.drop p.length else s,s.take p.length==p,()),()):=by
 unfold zla zr3;rw[q6c s p hs hp,ya0];dsimp only;cases h:s.take p.length==p
 ·rfl
 ·have hl:p.length<=s.length:=by
   have:=congrArg List.length (yy0.1 h);rw[yr1] at this;omega
  rw[ys0,yd0,show cutB (p.length:Int) (s.length:Int) s.length=true from by unfold cutB;simp;omega,yb0,yb0];unfold cutL;simp
theorem qay (s p:List UInt8)(hs:s.length<=100000)(hp:p.length<=100):zg0 s p=some ((s.drop (s.length -p.length)==p,()),()):=by
 unfold zg0;by_cases h:p.length<=s.length
 ·rw[yc0 (by omega:(s.length:Int)>=(p.length:Int)),yb0,wrap64 (by omega) (by omega),show(s.length:Int) -(p.length:Int)=((s.length -p.length:Nat):Int) by omega]
  rw[show cutB ((s.length -p.length:Nat):Int) (s.length:Int) s.length=true from by unfold cutB;simp,yb0];unfold cutL;simp
 ·rw[yi0 (by omega:¬(s.length:Int)>=(p.length:Int)),yd0]
  have:(s.drop (s.length -p.length)==p)=false:=yo0.2 λe=>by
   have:=congrArg List.length e;rw[yc1] at this;omega
  rw[this]
theorem zl8 (s p:List UInt8)(hs:s.length<=100000)(hp:p.length<=100):zlb s p=some ((bif s.drop (s.length -p.length)==p then s.take (s.length -p.length) else s,s.drop (s.length -p.length)==p,()),()):=by
 unfold zlb zr4;rw[qay s p hs hp,ya0];dsimp only;cases h:s.drop (s.length -p.length)==p
 ·rfl
 ·have hl:p.length<=s.length:=by
   have:=congrArg List.length (yy0.1 h);rw[yc1] at this;omega
  rw[ys0,yd0,wrap64 (by omega) (by omega),show(s.length:Int) -(p.length:Int)=((s.length -p.length:Nat):Int) by omega];rw[show cutB 0 ((s.length -p.length:Nat):Int) s.length=true from by unfold cutB;simp,yb0,yb0];unfold cutL;simp
def zbh (s:List UInt8):List UInt8:=bif endP s then s.take (s.length -1) else s
theorem qd9 (s:List UInt8)(hs:s.length<=100000):zj7 s=some ((zbh s,()),()):=by
 unfold zj7 zr7 zr1 zbh;rw[qay s [10] hs (by decide),ya0];dsimp only;rw[show(s.drop (s.length -[(10:UInt8)].length)==[10])=endP s from rfl];cases h:endP s
 ·rfl
 ·have h1:1<=s.length:=by
   cases s with
   |nil=>cases h
   |cons a s=>simp
  rw[yb0,yb0,show(([(10:UInt8)].length:Nat):Int)=1 from rfl,wrap64 (by omega) (by omega),show(s.length:Int) -1=((s.length -1:Nat):Int) by omega];rw[show cutB 0 ((s.length -1:Nat):Int) s.length=true from by unfold cutB;simp,yb0];unfold cutL;simp
theorem qcr {s sep:List UInt8}{i:Nat}(hs:s.length<=100000)(hp:sep.length<=100)(hi:i+sep.length<=s.length)(h:zfn s sep=some (((i:Int),()),())):
 zc8 s sep=some ((s.take i,s.drop (i+sep.length),true,()),()):=by
 unfold zc8 zn2;rw[h,ya0];dsimp only;rw[yc0 (by omega:(i:Int)>=0),yb0,show cutB 0 (i:Int) s.length=true from by unfold cutB;simp;omega,yb0,wrap64 (by omega) (by omega)];rw[show(i:Int)+(sep.length:Int)=((i+sep.length:Nat):Int) by omega,show cutB ((i+sep.length:Nat):Int) (s.length:Int) s.length=true from by unfold cutB;simp;omega,yb0];show some (((s.take ((i:Nat):Int).toNat).drop 0,(s.take ((s.length:Nat):Int).toNat).drop (((i+sep.length:Nat):Int)).toNat,true,()),())=_;rw[toNat_cast,toNat_cast,toNat_cast,List.take_length,List.drop_zero]
theorem qcs {s sep:List UInt8}(h:zfn s sep=some ((-1,()),())):zc8 s sep=some ((s,[],false,()),()):=by
 unfold zc8 zn2;rw[h,ya0];rfl
theorem qea (s:List UInt8)(hs:s.length<=100000):zc8 s [44]=some ((match comma s with|none=>(s,[],false,())|some (a,b)=>(a,b,true,())),()):=by
 by_cases h:(44:UInt8)∈s
 ·obtain⟨t,r,rfl,ht⟩:=zcj h
  rw[zd3 r ht,qcr (i:=t.length) hs (by decide) (by simp) (by unfold zfn zkx;dsimp only;rw[ztd 44 r ht])];dsimp only;rw[List.take_left' rfl,show t.length+[(44:UInt8)].length=(t++[44]).length by simp,show t++(44:UInt8)::r=(t++[44])++r by simp,List.drop_left' rfl]
 ·rw[zfd h,qcs (by unfold zfn zkx;dsimp only;rw[zsu 44 h])]
theorem qaz (sub:List UInt8):∀(s:List UInt8) (i:Nat),Lib.index s sub=(i:Int)->sub.isPrefixOf (s.drop i)=true/\i<=s.length
 |[],i,h=>by
  unfold Lib.index at h;split at h
  ·rename_i he
   have:i=0:=by omega
   subst this;rw[List.isEmpty_iff] at he;subst he;exact⟨rfl,ym0 _⟩
  ·omega
 |b::l,i,h=>by
  unfold Lib.index at h;split at h
  ·rename_i hp
   have:i=0:=by omega
   subst this;exact⟨hp,ye1 _⟩
  ·split at h
   ·omega
   ·rename_i h1 h2
    have hge:=Lib.index_ge l sub;have hne:Lib.index l sub≠-1:=λe=>h2 (by rw[e];rfl);obtain⟨q1,q2⟩:=qaz sub l (i -1) (by omega);have:i=(i -1)+1:=by omega
    rw[this];exact⟨q1,by simp;omega⟩
theorem qe8 (s:List UInt8)(hs:s.length<=100000):(∃t r,s=t++[32,43]++r/\zc8 s [32,43]=some ((t,r,true,()),())/\∀o f,s=o++[32,43]++f->(32:UInt8)∉o->o=t/\f=r)\/
 ((∀o f,s=o++[32,43]++f->False)/\zc8 s [32,43]=some ((s,[],false,()),())):=by
 have hF:zfn s [32,43]=some ((Lib.index s [32,43],()),()):=by
  unfold zfn zkx;dsimp only;rw[yc0 (by omega),yb0]
 have hge:=Lib.index_ge s [32,43]
 have hfirst:∀o f,s=o++[32,43]++f->(32:UInt8)∉o->Lib.index s [32,43]=(o.length:Int):=by
  rintro o f rfl ho;refine Lib.index_first (by simp) ?_ λj hj=> ?_
  ·unfold Lib.occAt
   rw[yj0,List.drop_left' rfl];simp
  ·unfold Lib.occAt
   rw[yj0,List.drop_append_of_le_length (by omega)];have hd:o.drop j=o[j]::o.drop (j+1):=List.drop_eq_getElem_cons hj;rw[hd,yw1];have:((32:UInt8)==o[j])=false:=yo0.2 λe=>ho (e▸ym1 hj);simp[List.isPrefixOf,this]
 have hany:∀o f,s=o++[32,43]++f->Lib.index s [32,43]≠-1:=by
  rintro o f rfl he
  have key:∀(o:List UInt8) (r:List UInt8),Lib.index (o++(32::43::r)) [32,43]≠-1:=by
   intro o
   induction o with
   |nil=>intro r;simp[Lib.index,List.isPrefixOf]
   |cons a o ih=>
    intro r h;have i2:=ih r;have g2:=Lib.index_ge (o++(32::43::r)) [32,43];rw[yw1,Lib.index] at h;split at h
    ·omega
    ·split at h
     ·rename_i h1;exact i2 (by simpa using h1)
     ·omega
  exact key o f (by simpa using he)
 by_cases h:Lib.index s [32,43]= -1
 ·exact .inr ⟨λo f e=>hany o f e h,qcs (by rw[hF,h])⟩
 ·have hi:Lib.index s [32,43]=((Lib.index s [32,43]).toNat:Int):=by omega
  generalize hn:(Lib.index s [32,43]).toNat=n at hi;obtain⟨q1,q2⟩:=qaz [32,43] s n hi;obtain⟨r,hr⟩:=List.isPrefixOf_iff_prefix.1 q1
  have hlen:n+([32,43]:List UInt8).length<=s.length:=by
   have:=congrArg List.length hr;rw[ye0,yc1] at this;simp at this ⊢;omega
  have hsp:s=s.take n++[32,43]++r:=by rw[yj0,hr,yp2]
  have hdr:s.drop (n+([32,43]:List UInt8).length)=r:=by
   rw[<-List.drop_drop,<-hr,List.drop_left' rfl]
  refine .inl ⟨s.take n,r,hsp,?_,λo f e ho=> ?_⟩
  ·rw[qcr hs (by decide) hlen (by rw[hF,hi]),hdr]
  ·have h2:=hfirst o f e ho
   have hno:n=o.length:=by omega
   subst hno;have e1:s.take o.length=o:=by rw[e,yj0,List.take_left' rfl]
   refine⟨e1.symm,?_⟩;rw[<-hdr,e,List.drop_left' (by simp)]
end R
end

section
/- The lines of a text, and its pieces. -/
open Go Go.Dn
namespace R
abbrev TX:=List (List UInt8)
theorem qa1 (s:List UInt8)(hs:s.length<=100000):zl6 s=some ((cutP s,()),()):=by
 unfold zl6;by_cases h:s=[]
 ·subst h;rfl
 ·rw[show(s==[])=false from yo0.2 h,yd0]
  have hsp:zn3 s [10]=some ((spl s,()),()):=by
   unfold zn3 zsa zre;dsimp only;rw[show(([(10:UInt8)].length:Nat):Int)=1 from rfl,show((1:Int)==1)=true from rfl,show((-1:Int)==-1)=true from rfl,yc0 (by omega),z7x _ s rfl];rfl
  rw[hsp,ya0];dsimp only;obtain⟨q,h1,h2⟩:=q3m h;generalize hL:spl s=L at*;generalize hx:L.getLastD []=x at*;have hlen:L.length=q.length+1:=by rw[h1];simp
  have hll:q.length<=100000:=by
   have hc:=zil s;rw[<-h2] at hc;split at hc<;>omega
  rw[wrap64 (by omega) (by omega),show(L.length:Int) -1=((q.length:Nat):Int) by omega,zq (by omega),yb0,toNat_cast];have hg:L.getD q.length []=x:=by rw[h1];simp
  rw[hg];by_cases hx0:x=[]
  ·rw[show(x==[])=true from yy0.2 hx0,yb0,show cutB 0 ((q.length:Nat):Int) L.length=true from by unfold cutB;simp;omega,yb0,ya0]
   rw[yx0 hx0] at h2;rw[<-h2]
   have:cutL 0 ((q.length:Nat):Int) L=q:=by
    show(L.take ((q.length:Nat):Int).toNat).drop 0=q;rw[toNat_cast,List.drop_zero,h1,List.take_left' rfl]
   rw[this]
  ·rw[show(x==[])=false from yo0.2 hx0,yd0,ya0]
   rw[yw0 hx0] at h2;rw[<-h2]
theorem zrh {α:Type}(p c r:List α):cutL (p.length:Int) ((p.length+c.length:Nat):Int) (p++c++r)=c:=by
 unfold cutL;rw[toNat_cast,toNat_cast,List.take_left' (by simp),List.drop_left' rfl]
theorem zb3 (a b:UInt8):(((a.toNat:Nat):Int)==((b.toNat:Nat):Int))=(a==b):=by
 rw[Bool.eq_iff_iff,yy0,yy0];constructor
 ·intro h
  exact UInt8.toNat_inj.1 (by omega)
 ·rintro rfl;rfl
theorem zv1 (s:List UInt8)(hs:s.length<=100000):∀(rest cur pre:List UInt8) (acc:TX),(10:UInt8)∉cur->s=pre++cur++rest->acc.length<=pre.length->
 (zhy (s,acc,(pre.length:Int),((pre.length+cur.length:Nat):Int),())).bind (λl3=>
 ((
   bif (decide (l3.2.2.1<(l3.1.length:Int))) then
    bif cutB l3.2.2.1 (l3.1.length:Int) l3.1.length then
     bif qm (l3.2.1.length+[(cutL l3.2.2.1 (l3.1.length:Int) l3.1)].length) then
      some ((l3.2.1++[(cutL l3.2.2.1 (l3.1.length:Int) l3.1)]),())
     else
      none
    else
     none
   else
    some (l3.2.1,()):Option ((PV zf×Unit)))).bind λj4=>
   (some ((j4.1,()),()):Option (PVs [zf]×PVs [])))=some ((acc++cutP (cur++rest),()),())
 |[],cur,pre,acc,hc,e,ha=>by
  have hl:s.length=pre.length+cur.length:=by rw[e];simp
  have:zhy (s,acc,(pre.length:Int),((pre.length+cur.length:Nat):Int),())=some (s,acc,(pre.length:Int),()):=by
   refine jh ?_;show zf3 s acc (pre.length:Int) ((pre.length+cur.length:Nat):Int)=_;unfold zf3;rw[yi0 (by omega:¬((pre.length+cur.length:Nat):Int)<(s.length:Int)),yd0]
  rw[this,ya0];dsimp only;rw[yz0] at e ⊢;by_cases h0:cur=[]
  ·subst h0
   rw[yi0 (by rw[yp0] at hl;omega:¬(pre.length:Int)<(s.length:Int)),yd0,ya0];simp[cutP]
  ·have h1:0<cur.length:=yq2.2 h0
   have hx:cutL (pre.length:Int) (s.length:Int) s=cur:=by
    have:=zrh pre cur [];rw[yz0,<-e,<-hl] at this;exact this
   rw[yc0 (by omega:(pre.length:Int)<(s.length:Int)),yb0,show cutB (pre.length:Int) (s.length:Int) s.length=true from by unfold cutB;simp;omega,yb0,hx,jc (by simp;omega),yb0,ya0];rw[zuz hc h0]
 |b::rest,cur,pre,acc,hc,e,ha=>by
  have hl:s.length=pre.length+cur.length+rest.length+1:=by rw[e];simp;omega
  have hlt:pre.length+cur.length<s.length:=by omega
  have hb:s[pre.length+cur.length]=b:=by
   simp only[e];rw[List.getElem_append_right (by simp)];simp
  by_cases h10:b=10
  ·have hx:cutL (pre.length:Int) ((pre.length+cur.length+1:Nat):Int) s=cur++[10]:=by
    have:=zrh pre (cur++[10]) rest;rw[show pre++(cur++[10])++rest=s from by rw[e,h10];simp,show(cur++[(10:UInt8)]).length=cur.length+1 by simp] at this;exact this
   have:zhy (s,acc,(pre.length:Int),((pre.length+cur.length:Nat):Int),())=zhy (s,acc++[cur++[10]],((pre.length+cur.length+1:Nat):Int),((pre.length+cur.length+1:Nat):Int),()):=by
    refine zal ?_;show zf3 s acc (pre.length:Int) ((pre.length+cur.length:Nat):Int)=_;unfold zf3;rw[yc0 (by omega:((pre.length+cur.length:Nat):Int)<(s.length:Int)),yb0,zq hlt,yb0,toNat_cast,ql hlt,hb,h10,show((((10:UInt8).toNat:Nat):Int)==10)=true from rfl,yb0,wrap64 (by omega) (by omega)];rw[show((pre.length+cur.length:Nat):Int)+1=((pre.length+cur.length+1:Nat):Int) from rfl,show cutB (pre.length:Int) ((pre.length+cur.length+1:Nat):Int) s.length=true from by unfold cutB;simp;omega,yb0,hx,jc (by simp;omega),yb0,ya0];dsimp only;rw[wrap64 (by omega) (by omega)];rfl
   rw[this];have ih:=zv1 s hs rest [] (pre++(cur++[10])) (acc++[cur++[10]]) (by simp) (by rw[e,h10];simp) (by simp;omega);rw[show(pre++(cur++[(10:UInt8)])).length=pre.length+cur.length+1 by simp;omega] at ih;simp only[yp0,Nat.add_zero,yp1] at ih;rw[ih,h10,zp2 rest hc];simp
  ·have:zhy (s,acc,(pre.length:Int),((pre.length+cur.length:Nat):Int),())=zhy (s,acc,(pre.length:Int),((pre.length+(cur++[b]).length:Nat):Int),()):=by
    refine zal ?_;show zf3 s acc (pre.length:Int) ((pre.length+cur.length:Nat):Int)=_;unfold zf3
    have hne:(((b.toNat:Nat):Int)==10)=false:=by
     rw[show(10:Int)=(((10:UInt8).toNat:Nat):Int) from rfl,zb3];exact yo0.2 h10
    rw[yc0 (by omega:((pre.length+cur.length:Nat):Int)<(s.length:Int)),yb0,zq hlt,yb0,toNat_cast,ql hlt,hb,hne,yd0,ya0];dsimp only;rw[wrap64 (by omega) (by omega),ye0];rfl
   rw[this];have ih:=zv1 s hs rest (cur++[b]) pre acc (by simp only[yu0,yl1,not_or];exact⟨hc,λh=>h10 h.symm⟩) (by rw[e];simp) ha;rw[ih];simp
theorem qeb (s:List UInt8)(hs:s.length<=100000):zmn s=some ((cutP s,()),()):=by
 unfold zmn;exact zv1 s hs s [] [] [] (by simp) (by simp) (ym0 _)
def zad (c:UInt8):List UInt8->TX
 |[]=>[[]]
 |b::s=>if b=c then[]::zad c s else match zad c s with
  |[]=>[[b]]
  |h::t=>(b::h)::t
theorem qa3 {c b:UInt8}(h:b≠c)(s:List UInt8):zad c (b::s)=match zad c s with
 |[]=>[[b]]
 |h::t=>(b::h)::t:=by simp[zad,h]
theorem zf7 {c:UInt8}:∀{t:List UInt8},c∉t->zad c t=[t]
 |[],_=>rfl
 |b::t,h=>by
  rw[qa3 (λe=>h (by rw[e];exact yk0 ..)),zf7 (t:=t) λm=>h (yg0 _ m)]
theorem zd0 {c:UInt8}(r:List UInt8):∀{t:List UInt8},c∉t->zad c (t++c::r)=t::zad c r
 |[],_=>by simp[zad]
 |b::t,h=>by
  rw[yw1,qa3 (λe=>h (by rw[e];exact yk0 ..)),zd0 r (t:=t) λm=>h (yg0 _ m)]
theorem zu6 (c:UInt8)(s:List UInt8):zad c s≠[]:=by
 cases s with
 |nil=>simp[zad]
 |cons b s=>
  unfold zad;split
  ·simp
  ·split<;>simp
theorem zuk (s:List UInt8)(c:UInt8)(hs:s.length<=100000):∀(rest cur pre:List UInt8) (acc:TX),c∉cur->s=pre++cur++rest->acc.length<=pre.length->
 (zhf (s,(c.toNat:Int),acc,(pre.length:Int),((pre.length+cur.length:Nat):Int),())).bind (λl3=>
 bif cutB l3.2.2.1 (l3.1.length:Int) l3.1.length then
  bif qm (l3.2.1.length+[(cutL l3.2.2.1 (l3.1.length:Int) l3.1)].length) then
   (some (((l3.2.1++[(cutL l3.2.2.1 (l3.1.length:Int) l3.1)]),()),()):Option (PVs [zf]×PVs []))
  else
   none
 else
  none)=some ((acc++zad c (cur++rest),()),())
 |[],cur,pre,acc,hc,e,ha=>by
  have hl:s.length=pre.length+cur.length:=by rw[e];simp
  have:zhf (s,(c.toNat:Int),acc,(pre.length:Int),((pre.length+cur.length:Nat):Int),())=some (s,acc,(pre.length:Int),()):=by
   refine jh ?_;show zf1 s (c.toNat:Int) acc (pre.length:Int) ((pre.length+cur.length:Nat):Int)=_;unfold zf1;rw[yi0 (by omega:¬((pre.length+cur.length:Nat):Int)<(s.length:Int)),yd0]
  rw[this,ya0];dsimp only;rw[yz0] at e ⊢
  have hx:cutL (pre.length:Int) (s.length:Int) s=cur:=by
   have:=zrh pre cur [];rw[yz0,<-e,<-hl] at this;exact this
  rw[show cutB (pre.length:Int) (s.length:Int) s.length=true from by unfold cutB;simp;omega,yb0,hx,jc (by simp;omega),yb0];rw[zf7 hc]
 |b::rest,cur,pre,acc,hc,e,ha=>by
  have hl:s.length=pre.length+cur.length+rest.length+1:=by rw[e];simp;omega
  have hlt:pre.length+cur.length<s.length:=by omega
  have hb:s[pre.length+cur.length]=b:=by
   simp only[e];rw[List.getElem_append_right (by simp)];simp
  by_cases h10:b=c
  ·have hx:cutL (pre.length:Int) ((pre.length+cur.length:Nat):Int) s=cur:=by
    rw[e];exact zrh pre cur (b::rest)
   have:zhf (s,(c.toNat:Int),acc,(pre.length:Int),((pre.length+cur.length:Nat):Int),())=zhf (s,(c.toNat:Int),acc++[cur],((pre.length+cur.length+1:Nat):Int),((pre.length+cur.length+1:Nat):Int),()):=by
    refine zal ?_;show zf1 s (c.toNat:Int) acc (pre.length:Int) ((pre.length+cur.length:Nat):Int)=_;unfold zf1;rw[yc0 (by omega:((pre.length+cur.length:Nat):Int)<(s.length:Int)),yb0,zq hlt,yb0,toNat_cast,ql hlt,hb,zb3,yy0.2 h10,yb0];rw[show cutB (pre.length:Int) ((pre.length+cur.length:Nat):Int) s.length=true from by unfold cutB;simp;omega,yb0,hx,jc (by simp;omega),yb0,wrap64 (by omega) (by omega),ya0];dsimp only;rw[wrap64 (by omega) (by omega)];rfl
   rw[this];have ih:=zuk s c hs rest [] (pre++(cur++[b])) (acc++[cur]) (by simp) (by rw[e];simp) (by simp;omega);rw[show(pre++(cur++[b])).length=pre.length+cur.length+1 by simp;omega] at ih;simp only[yp0,Nat.add_zero,yp1] at ih;rw[ih,h10,zd0 rest hc];simp
  ·have:zhf (s,(c.toNat:Int),acc,(pre.length:Int),((pre.length+cur.length:Nat):Int),())=zhf (s,(c.toNat:Int),acc,(pre.length:Int),((pre.length+(cur++[b]).length:Nat):Int),()):=by
    refine zal ?_;show zf1 s (c.toNat:Int) acc (pre.length:Int) ((pre.length+cur.length:Nat):Int)=_;unfold zf1;rw[yc0 (by omega:((pre.length+cur.length:Nat):Int)<(s.length:Int)),yb0,zq hlt,yb0,toNat_cast,ql hlt,hb,zb3,yo0.2 h10,yd0,ya0];dsimp only;rw[wrap64 (by omega) (by omega),ye0];rfl
   rw[this];have ih:=zuk s c hs rest (cur++[b]) pre acc (by simp only[yu0,yl1,not_or];exact⟨hc,λh=>h10 h.symm⟩) (by rw[e];simp) ha;rw[ih];simp
theorem zu7 (s:List UInt8)(c:UInt8)(hs:s.length<=100000):zh0 s (c.toNat:Int)=some ((zad c s,()),()):=by
 unfold zh0;exact zuk s c hs s [] [] [] (by simp) (by simp) (ym0 _)
end R
end

section
/- Numbers and counts, as both sides read them. -/
open Go Go.Dn
namespace R
def digG (n:Nat)(x:UInt8):Nat⊕Unit:=if isDg x=true then .inl (zb6 n x) else .inr ()
theorem qec:∀(l:List UInt8) (n:Nat),run digG n l=if l.all isDg=true then .inl (l.foldl zb6 n) else .inr ()
 |[],n=>rfl
 |x::l,n=>by
  unfold run digG;by_cases h:isDg x=true
  ·rw[yx0 h]
   dsimp only;rw[show run (λn x=>if isDg x=true then Sum.inl (zb6 n x) else Sum.inr ()) (zb6 n x) l=run digG (zb6 n x) l from rfl,qec l];rw[List.all_cons,h,yx1,List.foldl_cons]
  ·rw[yw0 h]
   dsimp only;rw[List.all_cons,yw0 (by simp[h])]
theorem qct (x:UInt8):isDg x=(!(decide (((x.toNat:Nat):Int)<48))&& !(decide (((x.toNat:Nat):Int)>57))):=by
 unfold isDg;rw[Bool.eq_iff_iff];simp only[yh0,yr0,yj1,decide_eq_false_iff_not];omega
theorem q3v {s:List UInt8}(hs:s.length<=6):zox (s,0,0,())=some (match (if s.all isDg=true then .inl (dval s) else .inr ():Nat⊕Unit) with| .inl b=>.inl ((b:Int),())| .inr _=>.inr (-1,())):=by
 have hpow:∀i,i<=6->10^i<=1000000:=λi hi=>yo1 (Nat.pow_le_pow_right (by omega) hi) (by decide)
 have h:=(qdy (B:=λd=>zex d.1 d.2.1 d.2.2.1) s digG (λ(n:Nat) i=>(s,(n:Int),(i:Int),())) (λb=>(.inl ((b:Int),()):(PV (.int .i64)×Unit)⊕(PV (.int .i64)×Unit))) (λ_=>.inr (-1,())) (λi n=>n<10^i)
  (λi hi a b hI hg=>by
    have hp:=hpow i (by omega);unfold digG at hg;split at hg
    ·rename_i hd
     obtain rfl:=Sum.inl.inj hg;have h10:=zrf hd;have hd0:=hd;unfold isDg at hd0;rw[yh0,yr0,yr0] at hd0;rw[qct,yh0,yj1,yj1] at hd;refine⟨by unfold zb6;rw[Nat.pow_succ];omega,?_⟩;show zex s (a:Int) (i:Int)=_;unfold zex;rw[yc0 (by omega:(i:Int)<(s.length:Int)),yb0,zq hi,yb0,toNat_cast,ql hi,hd.1,yd0,yb0,hd.2,ya0];dsimp only;rw[yd0,zq hi,yb0,toNat_cast,ql hi,qfo (by omega) (by omega),wrap64 (x:=10*(a:Int)) (by omega) (by omega),wrap64 (x:=((s[i].toNat:Nat):Int) -48) (by omega) (by omega),wrap64 (by omega) (by omega),wrap64 (by omega) (by omega)];unfold zb6;rw[show 10*(a:Int)+(((s[i].toNat:Nat):Int) -48)=((10*a+(s[i].toNat -48):Nat):Int) by omega];rfl
    ·cases hg)
  (λi hi a r hI hg=>by
    unfold digG at hg;split at hg
    ·cases hg
    ·rename_i hd
     rw[qct] at hd;show zex s (a:Int) (i:Int)=_;unfold zex;rw[yc0 (by omega:(i:Int)<(s.length:Int)),yb0,zq hi,yb0,toNat_cast,ql hi,yb0];cases h1:decide (((s[i].toNat:Nat):Int)<48)
     ·cases h2:decide (((s[i].toNat:Nat):Int)>57)
      ·rw[h1,h2] at hd;exact absurd rfl hd
      ·rfl
     ·rfl)
  (λa hI=>by
    show zex s (a:Int) (s.length:Int)=_;unfold zex;rw[yi0 (yi1 _),yd0]) 0 (by decide)).1
 rw[show zox (s,0,0,())=_ from h,qec];unfold dval;by_cases hd:s.all isDg=true
 ·rw[yx0 hd]
 ·rw[yw0 hd]
theorem zj9 (s:List UInt8)(hs:s.length<=100000):zfv s=some ((if canon s=true then(dval s:Int) else 0,canon s,()),()):=by
 have hl:∀v:Int,zia s=some ((v,()),())->(canon s=true->v=(dval s:Int))->(canon s=false->s.length<=4->v<0)->zfv s=some ((if canon s=true then(dval s:Int) else 0,canon s,()),()):=by
  intro v h h1 h2;unfold zfv;rw[h,ya0];dsimp only;cases hc:canon s with
  |true=>
   have h4:=(zdg hc).1;rw[h1 hc,yi0 (by omega:¬(s.length:Int)>4),yd0,ya0];dsimp only;rw[yi0 (by omega:¬(dval s:Int)<0),yd0];rfl
  |false=>
   by_cases h4:s.length<=4
   ·have:=h2 hc h4
    rw[yi0 (by omega:¬(s.length:Int)>4),yd0,ya0];dsimp only;rw[yc0 this];rfl
   ·rw[yc0 (by omega:(s.length:Int)>4)]
    rfl
 have hin:zck (s.length:Int) 1 6=some ((decide ((s.length:Int)>=1)&&decide ((s.length:Int)<=6),()),()):=in_S _ _ _;by_cases h16:1<=s.length/\s.length<=6
 ·have e16:(decide ((s.length:Int)>=1)&&decide ((s.length:Int)<=6))=true:=by
   rw[yc0 (by omega),yc0 (by omega)];rfl
  obtain⟨c,r,rfl⟩:∃c r,s=c::r:=by
   cases s with
   |nil=>simp at h16
   |cons c r=>exact⟨c,r,rfl⟩
  have hb:(((((c::r).getD (0:Int).toNat 0).toNat:Nat):Int)==48)=(c==48):=by
   show(((c.toNat:Nat):Int)==48)=_;rw[show(48:Int)=(((48:UInt8).toNat:Nat):Int) from rfl,zb3]
  have hzero:c=48/\r≠[]->canon (c::r)=false:=by
   rintro⟨rfl,hr⟩;obtain⟨d,q,rfl⟩:=List.exists_cons_of_ne_nil hr;unfold canon lead;simp
  by_cases hz:c=48/\r≠[]
  ·refine hl (-1) ?_ (λh=>by rw[hzero hz] at h;cases h) λ_ _=>by omega
   unfold zia;rw[hin,ya0,e16,show inB 0 (c::r).length=true from zq (i:=0) (by simp),show(((((c::r).getD (0:Int).toNat 0).toNat:Nat):Int)==48)=true from by rw[hb,hz.1];rfl];have:0<r.length:=yq2.2 hz.2;simp only[ys0,yd0,yb0];rw[yc0 (by simp;omega:((c::r).length:Int)>1),ya0];rfl
  ·have hlead:lead (c::r)=true:=by
    cases r with
    |nil=>rfl
    |cons d q=>
     have:c≠48:=λe=>hz ⟨e,by simp⟩;simp[lead,this]
   have hgo:zia (c::r)=(zox (c::r,0,0,())).bind λx14=>
    match x14 with
    | .inl l12=>some ((l12.1,()),())
    | .inr l13=>some ((l13.1,()),()):=by
    unfold zia;rw[hin,ya0,e16,show inB 0 (c::r).length=true from zq (i:=0) (by simp),hb];simp only[ys0,yd0,yb0];cases hc48:c==48
    ·rw[yd0,ya0];rfl
    ·have hr:r=[]:=Classical.byContradiction λhn=>hz ⟨yy0.1 hc48,hn⟩
     subst hr;rfl
   rw[q3v (by omega)] at hgo;by_cases hd:(c::r).all isDg=true
   ·rw[yx0 hd] at hgo
    refine hl _ hgo (λ_=>rfl) λhc h4=> ?_;unfold canon at hc;rw[hd,hlead,yc0 h4] at hc;cases hc
   ·rw[yw0 hd] at hgo
    refine hl _ hgo (λhc=>absurd (zdg hc).2.1 hd) λ_ _=>by show(-1:Int)<0;omega
 ·have e16:(decide ((s.length:Int)>=1)&&decide ((s.length:Int)<=6))=false:=by
   rw[Bool.and_eq_false_iff,decide_eq_false_iff_not,decide_eq_false_iff_not];omega
  refine hl (-1) ?_ (λh=> ?_) λ_ _=>by omega
  ·unfold zia
   rw[hin,ya0,e16];rfl
  ·have h1:=(zdg h).1
   have h2:=yq2.2 (zdg h).2.2.2;omega
theorem zka (s:List UInt8)(hs:s.length<=100000):zll s=some ((numV s,canon s,()),()):=by
 unfold zll numF;rw[yc0 (by omega:s.length<=1000000),yb0,qz9]
def cntR (s:List UInt8):PVs [.int .i64,.int .i64,.bool]:=match countP s with
 |some (n,m)=>(n,m,true,())
 |none=>(0,0,false,())
theorem zri {s:List UInt8}{n m:Int}(h:countP s=rngP n m):cntR s=bif decide (0<=n/\n<=999/\0<=m/\m<=999) then(n,m,true,()) else(0,0,false,()):=by
 unfold cntR;rw[h];unfold rngP;by_cases hc:0<=n/\n<=999/\0<=m/\m<=999
 ·rw[yx0 hc,yc0 hc];rfl
 ·rw[yw0 hc,yi0 hc];rfl
theorem zfg {s:List UInt8}(h:countP s=none):cntR s=(0,0,false,()):=by
 unfold cntR;rw[h]
end R
end

section
/- Ranges by their first and last line, as both sides read them. -/
open Go Go.Dn
namespace R
def twoN (s:List UInt8):Option (Nat×Nat×Bool):=match comma s with
 |none=>if canon s=true then some (dval s,dval s,false) else none
 |some (a,b)=>if canon a=true/\canon b=true then some (dval a,dval b,true) else none
def endR (less:Nat)(s:List UInt8):PVs [.int .i64,.int .i64,.bool]:=match twoN s with
 |none=>(0,0,false,())
 |some (n,m,two)=>bif decide (n<=1000)&&(decide (m<=1000)&& !(two&&decide (m+less<n))) then((n:Int),(m:Int),true,()) else(0,0,false,())
theorem q6d {s:List UInt8}{n m:Nat}(h:twoN s=some (n,m,false)):n=m:=by
 unfold twoN at h;split at h
 ·split at h
  ·cases h;rfl
  ·cases h
 ·split at h
  ·cases h
  ·cases h
theorem q8a {s:List UInt8}{n m:Nat}{t:Bool}(h:twoN s=some (n,m,t)):n<10000/\m<10000:=by
 unfold twoN at h;split at h
 ·split at h
  ·rename_i hc
   cases h;exact⟨zcz hc,zcz hc⟩
  ·cases h
 ·split at h
  ·rename_i hc
   cases h;exact⟨zcz hc.1,zcz hc.2⟩
  ·cases h
theorem q3w {s a b:List UInt8}(hc:comma s=some (a,b)):a.length<=s.length/\b.length<=s.length:=by
 by_cases hm:(44:UInt8)∈s
 ·obtain⟨t,r,rfl,ht⟩:=zcj hm
  rw[zd3 r ht] at hc;obtain⟨rfl,rfl⟩:=yk1 (yl0 hc);constructor<;>simp<;>omega
 ·rw[zfd hm] at hc;cases hc
theorem q3x (s:List UInt8)(hs:s.length<=100000):(∃n m t,twoN s=some (n,m,t)/\zh6 s=some (((n:Int),(m:Int),t,true,()),()))\/(twoN s=none/\∃n m t,zh6 s=some ((n,m,t,false,()),())):=by
 unfold zh6 twoN;rw[qea s hs,ya0];cases hc:comma s with
 |none=>
  dsimp only;rw[zka s hs,ya0,yb1,yb0];cases hn:canon s with
  |false=>exact .inr ⟨by simp,_,_,_,rfl⟩
  |true=>exact .inl ⟨dval s,dval s,false,by simp,by rw[zjs hn]⟩
 |some p=>
  obtain⟨a,b⟩:=p;obtain⟨h1,h2⟩:=q3w hc;dsimp only;rw[zka a (by omega),ya0,ys0,yd0,zka b (by omega),ya0];cases ha:canon a with
  |false=>exact .inr ⟨by simp,_,_,_,rfl⟩
  |true=>
   cases hb:canon b with
   |false=>exact .inr ⟨by simp,_,_,_,rfl⟩
   |true=>exact .inl ⟨dval a,dval b,true,by simp,by rw[zjs ha,zjs hb];rfl⟩
theorem q3y (s:List UInt8)(hs:s.length<=100000):zpc s=some (endR 1 s,()):=by
 unfold zpc ztp endR;rcases q3x s hs with⟨n,m,t,h1,h2⟩|⟨h1,n,m,t,h2⟩
 ·obtain⟨l1,l2⟩:=q8a h1
  rw[h1,h2,ya0];dsimp only;rw[ys0,yd0];by_cases hm:n<=1000/\m<=1000
  ·rw[yc0 hm.1,yc0 hm.2,yx1,yx1]
   have hmax:¬((bif decide ((m:Int)>(n:Int)) then(m:Int) else(n:Int))>1000):=by
    cases decide ((m:Int)>(n:Int))
    ·rw[yd0];omega
    ·rw[yb0];omega
   rw[yi0 hmax,yd0];cases t with
   |false=>rfl
   |true=>
    rw[yb0,wrap64 (by omega) (by omega)];by_cases hlt:m+1<n
    ·rw[yc0 (by omega:(n:Int)>(m:Int)+1),yc0 hlt];rfl
    ·rw[yi0 (by omega:¬(n:Int)>(m:Int)+1),yi0 hlt];rfl
  ·have hmax:(bif decide ((m:Int)>(n:Int)) then(m:Int) else(n:Int))>1000:=by
    by_cases h:(m:Int)>(n:Int)
    ·rw[yc0 h,yb0];omega
    ·rw[yi0 h,yd0];omega
   rw[yc0 hmax,yb0,ya0]
   have:(decide (n<=1000)&&(decide (m<=1000)&& !(t&&decide (m+1<n))))=false:=by
    rw[Bool.eq_false_iff];intro h;simp only[yh0,yr0] at h;exact hm ⟨h.1,h.2.1⟩
   rw[this];rfl
 ·rw[h1,h2]
  rfl
theorem q1i (s:List UInt8)(hs:s.length<=100000):zov s=some (endR 0 s,()):=by
 have key:(∃n m t,twoN s=some (n,m,t)/\zmp s=some ((bif decide (n<=1000)&&decide (m<=1000) then((n:Int),(m:Int),true,()) else(0,0,false,())),()))\/(twoN s=none/\zmp s=some ((0,0,false,()),())):=by
  unfold zmp twoN;rw[show(44:Int)=(((44:UInt8).toNat:Nat):Int) from rfl,zu7 s 44 hs,ya0];dsimp only;by_cases hm:(44:UInt8)∈s
  ·obtain⟨a,b,rfl,ht⟩:=zcj hm
   have hla:a.length<=100000:=by simp at hs;omega
   have hlb:b.length<=100000:=by simp at hs;omega
   rw[zd3 b ht,zd0 b ht,show inB 0 (a::zad 44 b).length=true from zq (i:=0) (by simp),yb0];rw[show(a::zad 44 b).getD (0:Int).toNat []=a from rfl,zj9 a hla,ya0];dsimp only;cases ha:canon a with
   |false=>exact .inr ⟨by simp,rfl⟩
   |true=>
    rw[ys0,yd0,yx0 rfl];by_cases hb:(44:UInt8)∈b
    ·refine .inr ⟨?_,?_⟩
     ·rw[yw0]
      intro h;have:=zfc h.2 44 hb;cases this
     ·obtain⟨b1,b2,rfl,hb1⟩:=zcj hb
      rw[zd0 b2 hb1];have hlen:1<=(zad 44 b2).length:=yq2.2 (zu6 44 b2);rw[yc0 (by simp;omega:((a::b1::zad 44 b2).length:Int)>2)];rfl
    ·rw[zf7 hb,show decide (((a::[b]).length:Int)>2)=false from rfl,yd0]
     have h1:=zcz ha;by_cases hn:dval a<=1000
     ·rw[yi0 (by omega:¬(dval a:Int)>1000),ya0]
      dsimp only;rw[yd0,show(((a::[b]).length:Int)==1)=false from rfl,yd0,show inB 1 (a::[b]).length=true from rfl,yb0,show(a::[b]).getD (1:Int).toNat []=b from rfl,zj9 b hlb,ya0];dsimp only;cases hbc:canon b with
      |false=>exact .inr ⟨by simp,rfl⟩
      |true=>
       have h2:=zcz hbc;refine .inl ⟨dval a,dval b,true,by simp,?_⟩;rw[ys0,yd0,yx0 rfl,yc0 hn,yx1];by_cases hmm:dval b<=1000
       ·rw[yi0 (by omega:¬(dval b:Int)>1000),yc0 hmm];rfl
       ·rw[yc0 (by omega:(dval b:Int)>1000),yi0 hmm];rfl
     ·rw[yc0 (by omega:(dval a:Int)>1000),ya0]
      dsimp only;rw[yb0];cases hbc:canon b with
      |false=>exact .inr ⟨by simp,rfl⟩
      |true=>
       refine .inl ⟨dval a,dval b,true,by simp,?_⟩;rw[yi0 hn];rfl
  ·rw[zfd hm,zf7 hm,show inB 0 [s].length=true from rfl,yb0,show[s].getD (0:Int).toNat []=s from rfl,zj9 s hs,ya0]
   dsimp only;cases hn:canon s with
   |false=>exact .inr ⟨by simp,rfl⟩
   |true=>
    refine .inl ⟨dval s,dval s,false,by simp,?_⟩;rw[ys0,yd0,yx0 rfl,show decide (([s].length:Int)>2)=false from rfl,yd0];by_cases h:dval s<=1000
    ·rw[yi0 (by omega:¬(dval s:Int)>1000),yc0 h];rfl
    ·rw[yc0 (by omega:(dval s:Int)>1000),yi0 h];rfl
 unfold zov endR;rcases key with⟨n,m,t,h1,h2⟩|⟨h1,h2⟩
 ·rw[h1,h2,ya0]
  dsimp only;by_cases hm:n<=1000/\m<=1000
  ·rw[yc0 hm.1,yc0 hm.2]
   show((some ((n:Int),(m:Int),decide ((n:Int)>(m:Int)),()):Option ((PV (.int .i64)×PV (.int .i64)×PV .bool×Unit))).bind _)=some ((bif !(t&&decide (m+0<n)) then _ else _),());rw[ya0];dsimp only;cases t with
   |false=>
    obtain rfl:=q6d h1;rw[yi0 (yi1 _)];rfl
   |true=>
    by_cases hlt:m+0<n
    ·rw[yc0 (by omega:(n:Int)>(m:Int)),yc0 hlt];rfl
    ·rw[yi0 (by omega:¬(n:Int)>(m:Int)),yi0 hlt];rfl
  ·have e1:(decide (n<=1000)&&decide (m<=1000))=false:=by
    rw[Bool.eq_false_iff];intro h;simp only[yh0,yr0] at h;exact hm h
   have e2:(decide (n<=1000)&&(decide (m<=1000)&& !(t&&decide (m+0<n))))=false:=by
    rw[<-Bool.and_assoc,e1];rfl
   rw[e1,e2];rfl
 ·rw[h1,h2]
  rfl
theorem qcu (n:Nat)(h:n<10000):(44:UInt8)∉dec n:=λhm=>by
 have:=zfc (zdc h).1 44 hm;cases this
theorem q4a {a m:Nat}(ha:a<=999)(hm:a+m<=1000):∃t,twoN (pairT a m)=some (numb a m,a+m,t):=by
 unfold pairT twoN;have hn:numb a m<10000:=by unfold numb;split<;>omega
 obtain⟨c1,c2⟩:=zdc hn;obtain⟨c3,c4⟩:=zdc (show a+m<10000 by omega);by_cases h:m<=1
 ·rw[yx0 h,zfd (qcu _ hn)]
  dsimp only;rw[yx0 c1,c2];have:numb a m=a+m:=by unfold numb;split<;>omega
  rw[this];exact⟨_,rfl⟩
 ·rw[yw0 h,show dec (numb a m)++([44]++dec (a+m))=dec (numb a m)++44::dec (a+m) from rfl,zd3 _ (qcu _ hn)]
  dsimp only;rw[yx0 ⟨c1,c3⟩,c2,c4];exact⟨_,rfl⟩
theorem zp7 {less a m:Nat}(ha:a<=999)(hm:a+m<=1000):endR less (pairT a m)=(((numb a m:Nat):Int),((a+m:Nat):Int),true,()):=by
 obtain⟨t,h⟩:=q4a ha hm;unfold endR;rw[h];dsimp only;have hn:numb a m<=a+m\/(m=0/\numb a m=a):=by unfold numb;split<;>omega
 have:(decide (numb a m<=1000)&&(decide (a+m<=1000)&& !(t&&decide (a+m+less<numb a m))))=true:=by
  rw[yc0 (by omega),yc0 (by omega),yi0 (by omega)];simp
 rw[this];rfl
theorem qcv (less:Nat)(s:List UInt8):0<=(endR less s).1/\(endR less s).1<=1000:=by
 unfold endR;split
 ·exact⟨Int.le_refl _,by decide⟩
 ·rename_i n m t _
  cases h:decide (n<=1000)&&(decide (m<=1000)&& !(t&&decide (m+less<n)))
  ·exact⟨Int.le_refl _,by show(0:Int)<=1000;decide⟩
  ·simp only[yh0,yr0] at h
   rw[yb0];exact⟨Int.natCast_nonneg _,by show(n:Int)<=1000;omega⟩
theorem q6e {a m:Nat}(ha:a<=999)(hm:a+m<=1000):∀c∈pairT a m,isDg c=true\/c=44:=by
 intro c hc;have hn:numb a m<10000:=by unfold numb;split<;>omega
 unfold pairT at hc;split at hc
 ·exact .inl (zfc (zdc hn).1 c hc)
 ·rcases yu0.1 hc with hc|hc
  ·exact .inl (zfc (zdc hn).1 c hc)
  ·rcases yg1.1 hc with rfl|hc
   ·exact .inr rfl
   ·exact .inl (zfc (zdc (show a+m<10000 by omega)).1 c hc)
end R
end

section
/- The rows of one half, as the program takes them. -/
open Go Go.Dn
namespace R
abbrev qy:List UInt8:=[92,32,110,111,110,101,10]
def jg (rest:TX):TX:=if rest.head?=some qy then rest.drop 1 else rest
def jf (t:List UInt8)(rest:TX):List UInt8:=if rest.head?=some qy then zbh t else t
abbrev mkRow (k:Int)(s:List UInt8):PV zo:=(k,(s,()))
theorem zp8 (rest:TX):(jg rest).length<=rest.length:=by
 unfold jg;split
 ·rw[yc1];omega
 ·exact ym0 _
theorem zgb {rest:TX}{l:List UInt8}(h:l∈jg rest):l∈rest:=by
 unfold jg at h;split at h
 ·exact yb2 h
 ·exact h
theorem z8r (t:List UInt8):(zbh t).length<=t.length:=by
 unfold zbh;cases endP t
 ·exact ym0 _
 ·rw[yb0,yr1];omega
theorem zu8 (t:List UInt8)(rest:TX):(jf t rest).length<=t.length:=by
 unfold jf;split
 ·exact z8r t
 ·exact ym0 _
theorem drop_one {α:Type}(l:α)(ls:List α):cutL 1 ((l::ls).length:Int) (l::ls)=ls:=by
 unfold cutL;rw[toNat_cast,List.take_length];rfl
theorem za2 {α:Type}(l:α)(ls:List α):cutB 1 ((l::ls).length:Int) (l::ls).length=true:=by
 unfold cutB;simp;omega
def rowH (sg:UInt8)(l:List UInt8):Bool:=decide (1<l.length)&&(l.getD 1 0==32&&([32,33,sg]:List UInt8).contains (l.getD 0 0))
def kdH (kd:Int)(l:List UInt8):Int:=bif l.getD 0 0==32 then 1 else kd
def zab (sg:UInt8)(kd:Int):Nat->TX->RW×TX
 |0,ls=>([],ls)
 |_+1,[]=>([],[])
 |f+1,l::ls=>bif rowH sg l then(mkRow (kdH kd l) (jf (l.drop 2) ls)::(zab sg kd f (jg ls)).1,(zab sg kd f (jg ls)).2) else([],l::ls)
theorem b32 (c:UInt8):(((c.toNat:Nat):Int)==32)=(c==32):=zb3 c 32
theorem zxl {l:List UInt8}(h:1<l.length):cutB 0 1 l.length=true/\cutL 0 1 l=[l.getD 0 0]/\cutB 2 (l.length:Int) l.length=true/\cutL 2 (l.length:Int) l=l.drop 2:=by
 match l,h with
 |a::b::t,_=>
  refine⟨by unfold cutB;simp;omega,by unfold cutL;simp,by unfold cutB;simp;omega,by unfold cutL;rw[toNat_cast,List.take_length];rfl⟩
theorem q4b (sg:UInt8)(kd:Int)(l:List UInt8)(ls:TX)(acc:RW)(hl:l.length<=3000)(hls:ls.length<=3000)(ha:acc.length<=3000):
 zhd (l::ls) [sg] kd acc=some (bif rowH sg l then .inl (jg ls,[sg],kd,acc++[mkRow (kdH kd l) (jf (l.drop 2) ls)],()) else .inr (l::ls,acc,())):=by
 have e0:(l::ls).getD ((0:Int).toNat) []=l:=rfl;have i0:inB 0 (l::ls).length=true:=zq (i:=0) (by simp);unfold zhd rowH;rw[yc0 (by simp:((l::ls).length:Int)>0)];simp only[e0,i0,yb0];by_cases h1:1<l.length
 ·obtain⟨k1,k2,k3,k4⟩:=zxl h1
  have i1:inB 1 l.length=true:=zq (i:=1) h1;have i2:inB 0 l.length=true:=zq (i:=0) (by omega);rw[yc0 (by omega:(l.length:Int)>1),yc0 h1];simp only[yb0,i1,i2,b32,k1,k2,k3,k4,yx1,show((1:Int).toNat)=1 from rfl,show((0:Int).toNat)=0 from rfl];cases hc:(l.getD 1 0==32)
  ·rfl
  ·rw[yb0,show decide ([32,33].length+[sg].length<=1099511627776)=true from rfl,yb0,show zlc ([32,33]++[sg]) [l.getD 0 0]=some ((([32,33,sg]:List UInt8).contains (l.getD 0 0),()),()) from rfl,ya0,yx1]
   dsimp only;cases hs:([32,33,sg]:List UInt8).contains (l.getD 0 0)
   ·rfl
   ·rw[yb0,yb0]
    unfold kdH;cases ls with
    |nil=>
     have e1:jg []=[]:=rfl;have e2:jf (l.drop 2) []=l.drop 2:=rfl;cases(l.getD 0 0==32)
     ·simp only[yd0,ya0,za2,drop_one,yb0,e1,e2,show decide ((([]:TX).length:Int)>0)=false from rfl]
      rw[jc (by simp;omega)];rfl
     ·simp only[yb0,ya0,za2,drop_one,e1,e2,show decide ((([]:TX).length:Int)>0)=false from rfl,yd0]
      rw[jc (by simp;omega)];rfl
    |cons n ls=>
     have j0:inB 0 (n::ls).length=true:=zq (i:=0) (by simp);have j1:decide (((n::ls).length:Int)>0)=true:=yc0 (by simp);have j2:(n::ls).getD 0 []=n:=rfl;have hpl:=qd9 (l.drop 2) (by rw[yc1];omega);cases hn:(n==qy)
     ·have hne:(n::ls).head?≠some qy:=by
       intro h;have:n=qy:=yl0 h;rw[this] at hn;simp at hn
      have e1:jg (n::ls)=n::ls:=yw0 hne;have e2:jf (l.drop 2) (n::ls)=l.drop 2:=yw0 hne;cases(l.getD 0 0==32)
      ·simp only[yd0,ya0,za2,drop_one,yb0,e1,e2,j0,j1,j2,hn,show((0:Int).toNat)=0 from rfl]
       rw[jc (by simp;omega)];rfl
      ·simp only[yd0,ya0,za2,drop_one,yb0,e1,e2,j0,j1,j2,hn,show((0:Int).toNat)=0 from rfl]
       rw[jc (by simp;omega)];rfl
     ·have hne:(n::ls).head?=some qy:=by
       rw[show n=qy from by simpa using hn];rfl
      have e1:jg (n::ls)=ls:=yx0 hne;have e2:jf (l.drop 2) (n::ls)=zbh (l.drop 2):=yx0 hne;cases(l.getD 0 0==32)
      ·simp only[yd0,ya0,za2,drop_one,yb0,e1,e2,j0,j1,j2,hn,hpl,show((0:Int).toNat)=0 from rfl]
       rw[jc (by simp;omega)];rfl
      ·simp only[yd0,ya0,za2,drop_one,yb0,e1,e2,j0,j1,j2,hn,hpl,show((0:Int).toNat)=0 from rfl]
       rw[jc (by simp;omega)];rfl
 ·rw[yi0 (by omega:¬(l.length:Int)>1),yi0 h1]
  rfl
theorem zmr (sg:UInt8)(kd:Int):∀(fu:Nat) (ls:TX),(zab sg kd fu ls).1.length+(zab sg kd fu ls).2.length<=ls.length
 |0,ls=>by simp[zab]
 |_+1,[]=>ym0 _
 |f+1,l::ls=>by
  unfold zab;have ih:=zmr sg kd f (jg ls);have:=zp8 ls;cases rowH sg l
  ·simp
  ·rw[yb0]
   simp only[yf0];omega
theorem zp9 (sg:UInt8)(kd:Int):∀(fu:Nat) (ls:TX) (x:List UInt8),x∈(zab sg kd fu ls).2->x∈ls
 |0,ls,x,h=>h
 |_+1,[],x,h=>h
 |f+1,l::ls,x,h=>by
  unfold zab at h;cases hc:rowH sg l<;>rw[hc] at h
  ·exact h
  ·exact yg0 _ (zgb (zp9 sg kd f _ x h))
theorem zul (sg:UInt8)(kd:Int):∀(fu:Nat) (ls:TX),(∀l∈ls,l.length<=3000)->∀r∈(zab sg kd fu ls).1,(r.1=1\/r.1=kd)/\List.length r.2.1<=3000
 |0,ls,_,r,h=>by simp[zab] at h
 |_+1,[],_,r,h=>by simp[zab] at h
 |f+1,l::ls,hl,r,h=>by
  unfold zab at h;cases hc:rowH sg l<;>rw[hc] at h
  ·cases h
  ·rcases yg1.1 h with rfl|h
   ·refine⟨?_,?_⟩
    ·show kdH kd l=1\/kdH kd l=kd
     unfold kdH;cases(l.getD 0 0==32)
     ·exact .inr rfl
     ·exact .inl rfl
    ·have:=zu8 (l.drop 2) ls
     rw[yc1] at this;have:=hl l (yk0 ..);show(jf (l.drop 2) ls).length<=3000;omega
   ·exact zul sg kd f _ (λx hx=>hl x (yg0 _ (zgb hx))) r h
theorem qa4 (sg:UInt8)(kd:Int):∀(fu:Nat) (ls:TX) (acc:RW),ls.length<=fu->(∀l∈ls,l.length<=3000)->acc.length+ls.length<=3000->
 z1z (ls,[sg],kd,acc,())=some ((zab sg kd fu ls).2,acc++(zab sg kd fu ls).1,())
 |fu,[],acc,_,_,_=>by
  refine(jh (B:=λd=>zhd d.1 d.2.1 d.2.2.1 d.2.2.2.1) (r:=([],acc,())) rfl).trans ?_;cases fu<;>simp[zab]
 |0,l::ls,acc,h,_,_=>absurd h (by simp)
 |fu+1,l::ls,acc,h,hl,ha=>by
  have hs:=q4b sg kd l ls acc (hl l (yk0 ..)) (by simp at ha;omega) (by omega);unfold zab;cases hc:rowH sg l<;>rw[hc] at hs
  ·refine(jh (B:=λd=>zhd d.1 d.2.1 d.2.2.1 d.2.2.2.1) (r:=(l::ls,acc,())) hs).trans ?_
   simp
  ·have hr:=zp8 ls
   have ih:=qa4 sg kd fu (jg ls) (acc++[mkRow (kdH kd l) (jf (l.drop 2) ls)]) (by simp at h;omega) (λx hx=>hl x (yg0 _ (zgb hx))) (by simp at ha ⊢;omega);refine(zal (B:=λd=>zhd d.1 d.2.1 d.2.2.1 d.2.2.2.1) (t:=(jg ls,[sg],kd,acc++[mkRow (kdH kd l) (jf (l.drop 2) ls)],())) hs).trans (ih.trans ?_);simp
theorem zum (sg:UInt8)(kd:Int)(ls:TX)(h1:ls.length<=3000)(h2:∀l∈ls,l.length<=3000):zlz ls [sg] kd=some (((zab sg kd ls.length ls).1,(zab sg kd ls.length ls).2,()),()):=by
 unfold zlz;rw[qa4 sg kd ls.length ls [] (ym0 _) h2 (by simpa using h1),ya0];rfl
end R
end

section
/- Both sides' rows put together. -/
open Go Go.Dn
namespace R
def mg:Nat->RW->RW->Option RW
 |0,_,_=>some []
 |f+1,[],[]=>some []
 |f+1,[],y::b=>bif y.1==1 then none else(mg f [] b).map (y::·)
 |f+1,x::a,[]=>bif x.1==1 then none else(mg f a []).map (x::·)
 |f+1,x::a,y::b=>bif x.1==1 then(bif y.1==1 then(mg f a b).map (x::·) else(mg f (x::a) b).map (y::·)) else(mg f a (y::b)).map (x::·)
abbrev MR:=PV zi×Unit
theorem qe9 (acc:RW):zbr [] [] acc=some (.inr (.inl (acc,()))):=rfl
theorem mg_a (x:PV zo)(a b acc:RW)(hx:(x.1==1)=false)(ha:a.length<=10000)(hb:b.length<=10000)(hc:acc.length<=100000):zbr (x::a) b acc=some (.inl (a,b,acc++[x],())):=by
 unfold zbr;have e0:(x::a).getD ((0:Int).toNat) (dflt zo)=x:=rfl;have i0:inB 0 (x::a).length=true:=zq (i:=0) (by simp);rw[wrap64 (by simp;omega) (by simp;omega),yc0 (by simp;omega:((x::a).length:Int)+(b.length:Int)>0),yc0 (by simp:((x::a).length:Int)>0)];simp only[yb0,i0,e0,hx,yb1,ya0,za2,drop_one];rw[jc (by simp;omega)];rfl
theorem mg_b (y:PV zo)(a b acc:RW)(h:∀x∈a.head?,(x.1==1)=true)(hy:(y.1==1)=false)(ha:a.length<=10000)(hb:b.length<=10000)(hc:acc.length<=100000):zbr a (y::b) acc=some (.inl (a,b,acc++[y],())):=by
 unfold zbr;have e0:(y::b).getD ((0:Int).toNat) (dflt zo)=y:=rfl;have i0:inB 0 (y::b).length=true:=zq (i:=0) (by simp);have d0:decide (((y::b).length:Int)>0)=true:=yc0 (by simp);rw[wrap64 (by simp;omega) (by simp;omega),yc0 (by simp;omega:(a.length:Int)+((y::b).length:Int)>0)];cases a with
 |nil=>
  simp only[yb0,show decide ((([]:RW).length:Int)>0)=false from rfl,yd0,ya0,d0,i0,e0,hy,yb1,za2,drop_one];rw[jc (by simp;omega)];rfl
 |cons x a=>
  have hx:=h x rfl;have e1:(x::a).getD ((0:Int).toNat) (dflt zo)=x:=rfl;have i1:inB 0 (x::a).length=true:=zq (i:=0) (by simp);have d1:decide (((x::a).length:Int)>0)=true:=yc0 (by simp);simp only[yb0,d1,i1,e1,hx,ys0,yd0,ya0,d0,i0,e0,hy,yb1,za2,drop_one];rw[jc (by simp;omega)];rfl
theorem jav (x y:PV zo)(a b acc:RW)(hx:(x.1==1)=true)(hy:(y.1==1)=true)(ha:a.length<=10000)(hb:b.length<=10000)(hc:acc.length<=100000):zbr (x::a) (y::b) acc=some (.inl (a,b,acc++[x],())):=by
 unfold zbr;have e0:(y::b).getD ((0:Int).toNat) (dflt zo)=y:=rfl;have i0:inB 0 (y::b).length=true:=zq (i:=0) (by simp);have d0:decide (((y::b).length:Int)>0)=true:=yc0 (by simp);have e1:(x::a).getD ((0:Int).toNat) (dflt zo)=x:=rfl;have i1:inB 0 (x::a).length=true:=zq (i:=0) (by simp);have d1:decide (((x::a).length:Int)>0)=true:=yc0 (by simp);rw[wrap64 (by simp;omega) (by simp;omega),yc0 (by simp;omega:((x::a).length:Int)+((y::b).length:Int)>0)];simp only[yb0,d1,i1,e1,hx,ys0,yd0,ya0,d0,i0,e0,hy,yb1,za2,drop_one];rw[jc (by simp;omega)];rfl
theorem jad (x:PV zo)(a acc:RW)(hx:(x.1==1)=true)(ha:a.length<=10000):zbr (x::a) [] acc=some (.inr (.inr ([],()))):=by
 unfold zbr;have e1:(x::a).getD ((0:Int).toNat) (dflt zo)=x:=rfl;have i1:inB 0 (x::a).length=true:=zq (i:=0) (by simp);have d1:decide (((x::a).length:Int)>0)=true:=yc0 (by simp);rw[wrap64 (by simp;omega) (by simp;omega),yc0 (by simp<;>omega:((x::a).length:Int)+(([]:RW).length:Int)>0)];have n0:decide ((([]:RW).length:Int)>0)=false:=rfl;simp only[yb0,d1,i1,e1,hx,ys0,yd0,ya0,n0]
theorem jae (y:PV zo)(b acc:RW)(hy:(y.1==1)=true)(hb:b.length<=10000):zbr [] (y::b) acc=some (.inr (.inr ([],()))):=by
 unfold zbr;have e0:(y::b).getD ((0:Int).toNat) (dflt zo)=y:=rfl;have i0:inB 0 (y::b).length=true:=zq (i:=0) (by simp);have d0:decide (((y::b).length:Int)>0)=true:=yc0 (by simp);rw[wrap64 (by simp;omega) (by simp;omega),yc0 (by simp<;>omega:(([]:RW).length:Int)+((y::b).length:Int)>0)];simp only[yb0,show decide ((([]:RW).length:Int)>0)=false from rfl,yd0,ya0,d0,i0,e0,hy,ys0]
def zk5 (acc:RW):Option RW->MR⊕MR
 |some r=>.inl (acc++r,())
 |none=>.inr ([],())
theorem zms (acc:RW)(x:PV zo)(o:Option RW):zk5 acc (o.map (x::·))=zk5 (acc++[x]) o:=by
 cases o<;>simp[zk5]
noncomputable abbrev BM (d:PV zi×PV zi×PV zi×Unit):=zbr d.1 d.2.1 d.2.2.1
theorem znz {a b acc a' b' acc':RW}{r:MR⊕MR}(h:zbr a b acc=some (.inl (a',b',acc',())))(h2:zl0 (a',b',acc',())=some r):zl0 (a,b,acc,())=some r:=
 Eq.trans (zal (B:=BM) (s:=(a,b,acc,())) (t:=(a',b',acc',())) h) h2
theorem zq3 {a b acc:RW}{r:MR⊕MR}(h:zbr a b acc=some (.inr r)):zl0 (a,b,acc,())=some r:=
 jh (B:=BM) (s:=(a,b,acc,())) h
theorem q8b:∀(fu:Nat) (a b acc:RW),a.length+b.length<=fu->fu<=10000->acc.length+fu<=100000->zl0 (a,b,acc,())=some (zk5 acc (mg fu a b)):=by
 intro fu
 induction fu with
 |zero=>
  intro a b acc h _ _;obtain rfl:a=[]:=yt0 (by omega);obtain rfl:b=[]:=yt0 (by omega);rw[zq3 (qe9 acc)];simp[mg,zk5]
 |succ fu ih=>
  intro a b acc h h1 h2;cases a with
  |nil=>
   cases b with
   |nil=>
    rw[zq3 (qe9 acc)];simp[mg,zk5]
   |cons y b=>
    rw[yp0,yf0] at h;simp only[mg];cases hy:(y.1==1)
    ·rw[yd0,zms]
     exact znz (mg_b y [] b acc (λx hx=>by cases hx) hy (ye1 _) (by omega) (by omega)) (ih [] b _ (by rw[yp0];omega) (by omega) (by rw[ye0,ya3];omega))
    ·exact zq3 (jae y b acc hy (by omega))
  |cons x a=>
   rw[yf0] at h;cases b with
   |nil=>
    rw[yp0] at h;simp only[mg];cases hx:(x.1==1)
    ·rw[yd0,zms]
     exact znz (mg_a x a [] acc hx (by omega) (ye1 _) (by omega)) (ih a [] _ (by rw[yp0];omega) (by omega) (by rw[ye0,ya3];omega))
    ·exact zq3 (jad x a acc hx (by omega))
   |cons y b=>
    rw[yf0] at h;simp only[mg];cases hx:(x.1==1)
    ·rw[yd0,zms]
     exact znz (mg_a x a (y::b) acc hx (by omega) (by rw[yf0];omega) (by omega)) (ih a (y::b) _ (by rw[yf0];omega) (by omega) (by rw[ye0,ya3];omega))
    ·rw[yb0]
     cases hy:(y.1==1)
     ·rw[yd0,zms]
      exact znz (mg_b y (x::a) b acc (λz hz=>by obtain rfl:=yl0 hz;exact hx) hy (by rw[yf0];omega) (by omega) (by omega)) (ih (x::a) b _ (by rw[yf0];omega) (by omega) (by rw[ye0,ya3];omega))
     ·rw[yb0,zms]
      exact znz (jav x y a b acc hx hy (by omega) (by omega) (by omega)) (ih a b _ (by omega) (by omega) (by rw[ye0,ya3];omega))
theorem q6f (a b:RW)(h:a.length+b.length<=10000):zmj a b=some (((mg (a.length+b.length) a b).getD [],()),()):=by
 unfold zmj;rw[q8b (a.length+b.length) a b [] (ym0 _) h (by simp;omega),ya0];cases mg (a.length+b.length) a b<;>rfl
theorem zkz:∀(fu:Nat) (a b r:RW),mg fu a b=some r->r.length<=a.length+b.length/\∀x∈r,x∈a\/x∈b
 |0,a,b,r,h=>by
  obtain rfl:[]=r:=yl0 h;exact⟨ye1 _,λx hx=>by cases hx⟩
 |f+1,[],[],r,h=>by
  obtain rfl:[]=r:=yl0 h;exact⟨ye1 _,λx hx=>by cases hx⟩
 |f+1,[],y::b,r,h=>by
  simp only[mg] at h;cases hy:(y.1==1)<;>rw[hy] at h
  ·obtain⟨r',h1,rfl⟩:=yk2.1 h
   obtain⟨k1,k2⟩:=zkz f [] b r' h1;refine⟨by simp at k1 ⊢;omega,λx hx=> ?_⟩;rcases yg1.1 hx with rfl|hx
   ·exact .inr (yk0 ..)
   ·exact(k2 x hx).imp id (yg0 _)
  ·cases h
 |f+1,x::a,[],r,h=>by
  simp only[mg] at h;cases hx:(x.1==1)<;>rw[hx] at h
  ·obtain⟨r',h1,rfl⟩:=yk2.1 h
   obtain⟨k1,k2⟩:=zkz f a [] r' h1;refine⟨by simp at k1 ⊢;omega,λz hz=> ?_⟩;rcases yg1.1 hz with rfl|hz
   ·exact .inl (yk0 ..)
   ·exact(k2 z hz).imp (yg0 _) id
  ·cases h
 |f+1,x::a,y::b,r,h=>by
  simp only[mg] at h;cases hx:(x.1==1)<;>rw[hx] at h
  ·obtain⟨r',h1,rfl⟩:=yk2.1 h
   obtain⟨k1,k2⟩:=zkz f a (y::b) r' h1;refine⟨by simp at k1 ⊢;omega,λz hz=> ?_⟩;rcases yg1.1 hz with rfl|hz
   ·exact .inl (yk0 ..)
   ·exact(k2 z hz).imp (yg0 _) id
  ·rw[yb0] at h
   cases hy:(y.1==1)<;>rw[hy] at h
   ·obtain⟨r',h1,rfl⟩:=yk2.1 h
    obtain⟨k1,k2⟩:=zkz f (x::a) b r' h1;refine⟨by simp at k1 ⊢;omega,λz hz=> ?_⟩;rcases yg1.1 hz with rfl|hz
    ·exact .inr (yk0 ..)
    ·exact(k2 z hz).imp id (yg0 _)
   ·obtain⟨r',h1,rfl⟩:=yk2.1 h
    obtain⟨k1,k2⟩:=zkz f a b r' h1;refine⟨by simp at k1 ⊢;omega,λz hz=> ?_⟩;rcases yg1.1 hz with rfl|hz
    ·exact .inl (yk0 ..)
    ·exact(k2 z hz).imp (yg0 _) (yg0 _)
def NG:RW->Prop
 |[]=>True
 |x::rs=>(x.1=1\/x.1=2\/x.1=3)/\(x.1=3->∀y∈rs.head?,y.1≠2)/\NG rs
def oldR (rs:RW):RW:=rs.filter λx=> !(x.1==3)
def newR (rs:RW):RW:=rs.filter λx=> !(x.1==2)
theorem qcw:∀{rs:RW},NG rs->(∀y∈rs.head?,y.1≠2)->∀z∈(oldR rs).head?,(z.1==1)=true
 |[],_,_,z,hz=>by cases hz
 |x::rs,h,hh,z,hz=>by
  have h2:x.1≠2:=hh x rfl;rcases h.1 with h1|h1|h1
  ·have:oldR (x::rs)=x::oldR rs:=by unfold oldR;rw[yw2 (by rw[h1];rfl)]
   rw[this] at hz;obtain rfl:=yl0 hz;rw[h1];rfl
  ·exact absurd h1 h2
  ·have:oldR (x::rs)=oldR rs:=by unfold oldR;rw[List.filter_cons_of_neg (by rw[h1];decide)]
   rw[this] at hz;exact qcw h.2.2 (h.2.1 h1) z hz
theorem zng:∀(rs:RW) (fu:Nat),NG rs->(oldR rs).length+(newR rs).length<=fu->mg fu (oldR rs) (newR rs)=some rs
 |[],fu,_,_=>by cases fu<;>rfl
 |x::rs,fu,h,hf=>by
  rcases h.1 with h1|h1|h1
  ·have e1:oldR (x::rs)=x::oldR rs:=by unfold oldR;rw[yw2 (by rw[h1];rfl)]
   have e2:newR (x::rs)=x::newR rs:=by unfold newR;rw[yw2 (by rw[h1];rfl)]
   rw[e1,e2] at hf ⊢;cases fu with
   |zero=>simp at hf
   |succ f=>
    simp only[mg];rw[h1,show((1:Int)==1)=true from rfl,yb0,yb0,zng rs f h.2.2 (by simp at hf;omega)];rfl
  ·have e1:oldR (x::rs)=x::oldR rs:=by unfold oldR;rw[yw2 (by rw[h1];rfl)]
   have e2:newR (x::rs)=newR rs:=by unfold newR;rw[List.filter_cons_of_neg (by rw[h1];decide)]
   rw[e1,e2] at hf ⊢;cases fu with
   |zero=>simp at hf
   |succ f=>
    have ih:=zng rs f h.2.2 (by simp at hf;omega);cases hn:newR rs with
    |nil=>rw[hn] at ih;simp only[mg];rw[h1,show((2:Int)==1)=false from rfl,yd0,ih];rfl
    |cons y b=>rw[hn] at ih;simp only[mg];rw[h1,show((2:Int)==1)=false from rfl,yd0,ih];rfl
  ·have e1:oldR (x::rs)=oldR rs:=by unfold oldR;rw[List.filter_cons_of_neg (by rw[h1];decide)]
   have e2:newR (x::rs)=x::newR rs:=by unfold newR;rw[yw2 (by rw[h1];rfl)]
   rw[e1,e2] at hf ⊢;cases fu with
   |zero=>simp at hf
   |succ f=>
    have ih:=zng rs f h.2.2 (by simp at hf;omega);have hd:=qcw h.2.2 (h.2.1 h1);cases ho:oldR rs with
    |nil=>rw[ho] at ih;simp only[mg];rw[h1,show((3:Int)==1)=false from rfl,yd0,ih];rfl
    |cons z a=>
     rw[ho] at ih hd;have hz:=hd z rfl;simp only[mg];rw[hz,yb0,h1,show((3:Int)==1)=false from rfl,yd0,ih];rfl
end R
end

section
/- The lines of one half, as the reference takes them. -/
open Go Go.Dn
namespace R
abbrev LN8:=List (PV jw)
def rowS (sg:UInt8)(l:List UInt8):Bool:=([32,sg,33]:List UInt8).contains (l.getD 0 0)&&(decide (3<=l.length)&&l.getD 1 0==32)
def lineS (t:List UInt8)(rest:TX):List UInt8:=if rest.head?=some qy then t.take (t.length -1) else t
def mkL8 (l:List UInt8)(ls:TX):PV jw:=(((l.getD 0 0).toNat:Int),(lineS (l.drop 2) ls,()))
def zgx (ls:TX):Nat:=if ls.head?=some qy then 2 else 1
def je (sg:UInt8):Nat->TX->LN8×Nat
 |0,_=>([],0)
 |_+1,[]=>([],0)
 |f+1,l::ls=>bif rowS sg l then(mkL8 l ls::(je sg f (jg ls)).1,zgx ls+(je sg f (jg ls)).2) else([],0)
theorem q6g (a b:UInt8):(((a.toNat:Nat):Int)==((b.toNat:Nat):Int))=(b==a):=by
 rw[zb3,Bool.eq_iff_iff];simp only[yy0];exact⟨Eq.symm,Eq.symm⟩
theorem zw7 (t0:TX)(sg:UInt8)(acc:LN8)(n:Int)(l:List UInt8)(hl:1<=l.length):
 ∃k:Int,zlw (t0,[32,sg,33],acc,n,l,0,())=some (t0,[32,sg,33],acc,n,l,k,())/\(k==3)= !([32,sg,33]:List UInt8).contains (l.getD 0 0):=by
 have i0:inB 0 l.length=true:=zq (i:=0) hl
 have key:∀(i:Int) (c:UInt8),0<=i->i<3->([32,sg,33]:List UInt8).getD i.toNat 0=c->zds t0 [32,sg,33] acc n l i=some (bif !(l.getD 0 0==c) then .inl (t0,[32,sg,33],acc,n,l,i+1,()) else .inr (t0,[32,sg,33],acc,n,l,i,())):=by
  intro i c h0 h1 hc;unfold zds;rw[show(([32,sg,33]:List UInt8).length:Int)=3 from rfl,yc0 h1,yb0,show inB i ([32,sg,33]:List UInt8).length=true from by obtain⟨j,rfl⟩:=Int.eq_ofNat_of_zero_le h0;exact zq (by simp;omega),yb0,i0,yb0,hc,show((0:Int).toNat)=0 from rfl,q6g,wrap64 (by omega) (by omega)];cases(l.getD 0 0==c)<;>rfl
 have s0:=key 0 32 (by omega) (by omega) rfl;have s1:=key 1 sg (by omega) (by omega) rfl;have s2:=key 2 33 (by omega) (by omega) rfl
 have s3:zds t0 [32,sg,33] acc n l 3=some (.inr (t0,[32,sg,33],acc,n,l,3,())):=by
  unfold zds;rfl
 have go:∀{i:Int} {r},zds t0 [32,sg,33] acc n l i=some (.inl (t0,[32,sg,33],acc,n,l,i+1,()))->zlw (t0,[32,sg,33],acc,n,l,i+1,())=some r->zlw (t0,[32,sg,33],acc,n,l,i,())=some r:=
  λ{i r} h h2=>Eq.trans (zal (B:=λd=>zds d.1 d.2.1 d.2.2.1 d.2.2.2.1 d.2.2.2.2.1 d.2.2.2.2.2.1) (s:=(t0,[32,sg,33],acc,n,l,i,())) (t:=(t0,[32,sg,33],acc,n,l,i+1,())) h) h2
 have stop:∀{i:Int} {r},zds t0 [32,sg,33] acc n l i=some (.inr r)->zlw (t0,[32,sg,33],acc,n,l,i,())=some r:=
  λ{i r} h=>jh (B:=λd=>zds d.1 d.2.1 d.2.2.1 d.2.2.2.1 d.2.2.2.2.1 d.2.2.2.2.2.1) (s:=(t0,[32,sg,33],acc,n,l,i,())) h
 have hcont:([32,sg,33]:List UInt8).contains (l.getD 0 0)=(l.getD 0 0==32||(l.getD 0 0==sg||l.getD 0 0==33)):=by
  simp only[List.contains_cons,List.contains_nil,Bool.or_false]
 rw[hcont];cases c0:(l.getD 0 0==32)
 ·cases c1:(l.getD 0 0==sg)
  ·cases c2:(l.getD 0 0==33)
   ·exact⟨3,go (i:=0) (by rw[s0,c0];rfl) (go (i:=1) (by rw[s1,c1];rfl) (go (i:=2) (by rw[s2,c2];rfl) (stop s3))),rfl⟩
   ·exact⟨2,go (i:=0) (by rw[s0,c0];rfl) (go (i:=1) (by rw[s1,c1];rfl) (stop (by rw[show(1:Int)+1=2 from rfl,s2,c2];rfl))),rfl⟩
  ·exact⟨1,go (i:=0) (by rw[s0,c0];rfl) (stop (by rw[show(0:Int)+1=1 from rfl,s1,c1];rfl)),rfl⟩
 ·exact⟨0,stop (by rw[s0,c0];rfl),rfl⟩
theorem zu9 (rest:TX):∃u,rest=u++jg rest/\u.length+1=zgx rest:=by
 unfold jg zgx;by_cases h:rest.head?=some qy
 ·rw[yx0 h,yx0 h]
  cases rest with
  |nil=>cases h
  |cons n ls=>exact⟨[n],rfl,rfl⟩
 ·rw[yw0 h,yw0 h]
  exact⟨[],rfl,rfl⟩
theorem q1j {L pre ls:TX}{l:List UInt8}(sg:UInt8)(acc:LN8)(hL:L=pre++l::ls)(h1:1<=l.length)(hl:l.length<=3000)(hLl:L.length<=3000)(ha:acc.length<=3000):
 zew L [32,sg,33] acc (pre.length:Int)=some (bif rowS sg l then .inl (L,[32,sg,33],acc++[mkL8 l ls],((pre.length+zgx ls:Nat):Int),()) else .inr (acc,(pre.length:Int),())):=by
 have hlen:L.length=pre.length+(ls.length+1):=by rw[hL];simp
 have hn:pre.length<L.length:=by omega
 have hg:L.getD pre.length []=l:=by rw[hL];simp
 obtain⟨k,hk,hk3⟩:=zw7 L sg acc (pre.length:Int) l h1;have i0:inB 0 l.length=true:=zq (i:=0) h1;unfold zew rowS;rw[yc0 (by omega:(pre.length:Int)<(L.length:Int)),yb0,zq hn,yb0,toNat_cast,hg,hk,ya0];dsimp only;rw[show(([32,sg,33]:List UInt8).length:Int)=3 from rfl,hk3];cases hc:([32,sg,33]:List UInt8).contains (l.getD 0 0)
 ·rfl
 ·rw[ys0,yd0,yx1]
  by_cases h3:3<=l.length
  ·have i1:inB 1 l.length=true:=zq (i:=1) (by omega)
   have c2:cutB 2 (l.length:Int) l.length=true:=(zxl (by omega)).2.2.1;have e2:cutL 2 (l.length:Int) l=l.drop 2:=(zxl (by omega)).2.2.2;rw[yi0 (by omega:¬(l.length:Int)<3),yd0,i1,yb0,yc0 h3,yx1];simp only[b32,show((1:Int).toNat)=1 from rfl,show((0:Int).toNat)=0 from rfl];cases hs:(l.getD 1 0==32)
   ·rfl
   ·rw[ys0,yd0,i0,yb0,c2,yb0,yb0]
    unfold mkL8;have hw:IntKind.wrap .i64 ((pre.length:Int)+1)=((pre.length+1:Nat):Int):=by rw[wrap64 (by omega) (by omega)];omega
    rw[hw,e2];cases ls with
    |nil=>
     have n0:decide (((pre.length+1:Nat):Int)<(L.length:Int))=false:=yi0 (by rw[hlen,yp0];omega);have z1:lineS (l.drop 2) []=l.drop 2:=rfl;have z2:zgx []=1:=rfl;simp only[n0,yd0,ya0,z1,z2];rw[jc (by simp;omega)];rfl
    |cons m ls=>
     have n0:decide (((pre.length+1:Nat):Int)<(L.length:Int))=true:=yc0 (by have hq:=hlen;simp only[yf0] at hq;omega);have i2:inB ((pre.length+1:Nat):Int) L.length=true:=zq (by have hq:=hlen;simp only[yf0] at hq;omega)
     have g2:L.getD (pre.length+1) []=m:=by
      rw[hL,yg2,ya2 (by omega)];simp
     have hd:(l.drop 2).length=l.length -2:=yc1;have w2:IntKind.wrap .i64 (((l.drop 2).length:Int) -1)=(((l.drop 2).length -1:Nat):Int):=by rw[wrap64 (by omega) (by omega)];omega
     have c3:cutB 0 (((l.drop 2).length -1:Nat):Int) (l.drop 2).length=true:=by unfold cutB;simp
     have e3:cutL 0 (((l.drop 2).length -1:Nat):Int) (l.drop 2)=(l.drop 2).take ((l.drop 2).length -1):=by unfold cutL;rw[toNat_cast];rfl
     have w3:IntKind.wrap .i64 (((pre.length+1:Nat):Int)+1)=((pre.length+2:Nat):Int):=by rw[wrap64 (by omega) (by omega)];omega
     cases hm:(m==qy)
     ·have hne:(m::ls).head?≠some qy:=by
       intro h;have:m=qy:=yl0 h;rw[this] at hm;simp at hm
      have z1:lineS (l.drop 2) (m::ls)=l.drop 2:=yw0 hne;have z2:zgx (m::ls)=1:=yw0 hne;simp only[n0,yb0,i2,toNat_cast,g2,hm,ya0,yd0,z1,z2];rw[jc (by simp;omega)];rfl
     ·have hne:(m::ls).head?=some qy:=by
       rw[show m=qy from by simpa using hm];rfl
      have z1:lineS (l.drop 2) (m::ls)=(l.drop 2).take ((l.drop 2).length -1):=yx0 hne;have z2:zgx (m::ls)=2:=yx0 hne;simp only[n0,yb0,i2,toNat_cast,g2,hm,ya0,z1,z2,w2,c3,e3,w3];rw[jc (by simp;omega)];rfl
  ·rw[yc0 (by omega:(l.length:Int)<3),yb0,yi0 h3,ye2]
   rfl
theorem zih (sg:UInt8):∀(fu:Nat) (ls:TX),(je sg fu ls).1.length<=ls.length/\(je sg fu ls).2<=ls.length/\((je sg fu ls).2=0↔(je sg fu ls).1=[])
 |0,ls=>⟨ye1 _,ye1 _,by simp[je]⟩
 |_+1,[]=>⟨ye1 _,ye1 _,by simp[je]⟩
 |f+1,l::ls=>by
  unfold je;obtain⟨k1,k2,k3⟩:=zih sg f (jg ls);obtain⟨u,hu,hu2⟩:=zu9 ls;have hlu:ls.length=u.length+(jg ls).length:=by conv=>lhs;rw[hu];simp
  cases rowS sg l
  ·exact⟨ye1 _,ye1 _,by simp⟩
  ·rw[yb0]
   refine⟨by simp;omega,by simp;omega,by simp;omega⟩
theorem zmt (sg:UInt8):∀(fu:Nat) (ls:TX),(∀l∈ls,l.length<=3000)->∀x∈(je sg fu ls).1,List.length x.2.1<=3000
 |0,ls,_,x,h=>by cases h
 |_+1,[],_,x,h=>by cases h
 |f+1,l::ls,hl,x,h=>by
  unfold je at h;cases hc:rowS sg l<;>rw[hc] at h
  ·cases h
  ·rcases yg1.1 h with rfl|h
   ·have:=hl l (yk0 ..)
    show(lineS (l.drop 2) ls).length<=3000;unfold lineS;split
    ·rw[yr1,yc1];omega
    ·rw[yc1];omega
   ·exact zmt sg f _ (λy hy=>hl y (yg0 _ (zgb hy))) x h
noncomputable abbrev BT (d:PV zf×PV .str×PV zy×PV (.int .i64)×Unit):=zew d.1 d.2.1 d.2.2.1 d.2.2.2.1
theorem q1k (sg:UInt8){L:TX}(hLl:L.length<=3000)(hall:∀l∈L,1<=l.length/\l.length<=3000):∀(fu:Nat) (pre ls:TX) (acc:LN8),L=pre++ls->ls.length<=fu->acc.length<=pre.length->
 zji (L,[32,sg,33],acc,(pre.length:Int),())=some (acc++(je sg fu ls).1,((pre.length+(je sg fu ls).2:Nat):Int),()):=by
 intro fu
 induction fu with
 |zero=>
  intro pre ls acc hL h ha;obtain rfl:ls=[]:=yt0 (by omega);have hp:pre.length=L.length:=by rw[hL];simp
  have hs:zew L [32,sg,33] acc (pre.length:Int)=some (.inr (acc,(pre.length:Int),())):=by
   unfold zew;rw[yi0 (by omega:¬(pre.length:Int)<(L.length:Int)),yd0]
  rw[show zji (L,[32,sg,33],acc,(pre.length:Int),())=_ from jh (B:=BT) (s:=(L,[32,sg,33],acc,(pre.length:Int),())) hs];simp[je]
 |succ fu ih=>
  intro pre ls acc hL h ha;cases ls with
  |nil=>
   have hp:pre.length=L.length:=by rw[hL];simp
   have hs:zew L [32,sg,33] acc (pre.length:Int)=some (.inr (acc,(pre.length:Int),())):=by
    unfold zew;rw[yi0 (by omega:¬(pre.length:Int)<(L.length:Int)),yd0]
   rw[show zji (L,[32,sg,33],acc,(pre.length:Int),())=_ from jh (B:=BT) (s:=(L,[32,sg,33],acc,(pre.length:Int),())) hs];simp[je]
  |cons l ls=>
   have hm:=hall l (by rw[hL];simp);have hlen:L.length=pre.length+(ls.length+1):=by rw[hL];simp
   have hs:=q1j sg acc hL hm.1 hm.2 hLl (by omega);unfold je;cases hc:rowS sg l<;>rw[hc] at hs
   ·rw[show zji (L,[32,sg,33],acc,(pre.length:Int),())=_ from jh (B:=BT) (s:=(L,[32,sg,33],acc,(pre.length:Int),())) hs]
    simp
   ·obtain⟨u,hu,hu2⟩:=zu9 ls
    have hlu:ls.length=u.length+(jg ls).length:=by conv=>lhs;rw[hu];simp
    have:=ih (pre++l::u) (jg ls) (acc++[mkL8 l ls]) (by rw[hL,yj0,yw1,<-hu]) (by simp at h;omega) (by simp;omega);have hpl:(pre++l::u).length=pre.length+zgx ls:=by simp;omega
    rw[hpl] at this;refine(Eq.trans (zal (B:=BT) (s:=(L,[32,sg,33],acc,(pre.length:Int),())) hs) this).trans ?_;rw[yb0,yj0,Nat.add_assoc];rfl
theorem zks (sg:UInt8)(L:TX)(hLl:L.length<=3000)(hall:∀l∈L,1<=l.length/\l.length<=3000):zmf L [32,sg,33]=some (((je sg L.length L).1,(((je sg L.length L).2:Nat):Int),()),()):=by
 unfold zmf;have:=q1k sg hLl hall L.length [] L [] rfl (ym0 _) (ye1 _);rw[yp0,Nat.zero_add] at this;rw[show zji (L,[32,sg,33],[],0,())=_ from this,ya0];rfl
end R
end

section
/- The rows of a group, as the reference puts them together. -/
open Go Go.Dn
namespace R
def spB (x:PV jw):Bool:=x.1==32
def jm (l:LN8):LN8:=l.filter spB
theorem zva:∀(l acc:LN8),l.foldl (λa x=>bif spB x then a++[x] else a) acc=acc++jm l
 |[],acc=>by simp[jm]
 |x::l,acc=>by
  rw[List.foldl_cons,zva l];unfold jm;cases h:spB x
  ·rw[yd0,List.filter_cons_of_neg (by rw[h];simp)]
  ·rw[yb0,yw2 h,yj0];rfl
theorem q8c (l:LN8)(t3:Bool)(hl:l.length<=10000):ztg ([],l,t3,l,(l.length:Int),0,())=some (jm l,l,t3,()):=by
 have:=za8 (B:=λd=>zho d.1 d.2.1 d.2.2.1 d.2.2.2.1 d.2.2.2.2.1 d.2.2.2.2.2.1) l (λa x=>bif spB x then a++[x] else a) (λa i=>(a,l,t3,l,(l.length:Int),(i:Int),())) (λa=>(a,l,t3,())) (λi a=>a.length<=i)
  (λi hi a hI=>by
    refine⟨by cases spB l[i]<;>simp<;>omega,?_⟩;show zho a l t3 l l.length i=_;unfold zho;rw[yc0 (by omega:(i:Int)<(l.length:Int)),yb0,zq hi,yb0,toNat_cast,ql hi];unfold spB;cases(l[i].1==32)
    ·rw[yd0,ya0]
     dsimp only;rw[wrap64 (x:=(i:Int)+1) (by omega) (by omega)];rfl
    ·rw[yb0,jc (by simp;omega),yb0,ya0]
     dsimp only;rw[wrap64 (x:=(i:Int)+1) (by omega) (by omega)];rfl)
  (λa _=>by
    show zho a l t3 l l.length l.length=_;unfold zho;rw[yi0 (yi1 _),yd0]) [] (ye1 _)
 rw[show ztg ([],l,t3,l,(l.length:Int),0,())=_ from this.1,zva];rfl
theorem qcx (o l:LN8)(hl:l.length<=10000):zsx (o,[],l,(l.length:Int),0,())=some (o,jm l,()):=by
 have:=za8 (B:=λd=>zhe d.1 d.2.1 d.2.2.1 d.2.2.2.1 d.2.2.2.2.1) l (λa x=>bif spB x then a++[x] else a) (λa i=>(o,a,l,(l.length:Int),(i:Int),())) (λa=>(o,a,())) (λi a=>a.length<=i)
  (λi hi a hI=>by
    refine⟨by cases spB l[i]<;>simp<;>omega,?_⟩;show zhe o a l l.length i=_;unfold zhe;rw[yc0 (by omega:(i:Int)<(l.length:Int)),yb0,zq hi,yb0,toNat_cast,ql hi];unfold spB;cases(l[i].1==32)
    ·rw[yd0,ya0]
     dsimp only;rw[wrap64 (x:=(i:Int)+1) (by omega) (by omega)];rfl
    ·rw[yb0,jc (by simp;omega),yb0,ya0]
     dsimp only;rw[wrap64 (x:=(i:Int)+1) (by omega) (by omega)];rfl)
  (λa _=>by
    show zhe o a l l.length l.length=_;unfold zhe;rw[yi0 (yi1 _),yd0]) [] (ye1 _)
 rw[show zsx (o,[],l,(l.length:Int),0,())=_ from this.1,zva];rfl
def rwF:Nat->LN8->LN8->RW
 |0,_,_=>[]
 |f+1,[],[]=>[]
 |f+1,[],y::b=>bif spB y then rwF f [] b else mkRow 3 y.2.1::rwF f [] b
 |f+1,x::a,[]=>bif spB x then mkRow 1 x.2.1::rwF f a [] else mkRow 2 x.2.1::rwF f a []
 |f+1,x::a,y::b=>bif spB x then(bif spB y then mkRow 1 x.2.1::rwF f a b else mkRow 3 y.2.1::rwF f (x::a) b) else mkRow 2 x.2.1::rwF f a (y::b)
noncomputable abbrev BR (d:PV zy×PV zy×PV zi×PV (.int .i64)×PV (.int .i64)×Unit):=zdr d.1 d.2.1 d.2.2.1 d.2.2.2.1 d.2.2.2.2.1
theorem zi3 {o n:LN8}{acc acc':RW}{i j i' j':Int}{r}(h:zdr o n acc i j=some (.inl (o,n,acc',i',j',())))(h2:zfz (o,n,acc',i',j',())=some r):zfz (o,n,acc,i,j,())=some r:=
 Eq.trans (zal (B:=BR) (s:=(o,n,acc,i,j,())) (t:=(o,n,acc',i',j',())) h) h2
theorem zwh {o n:LN8}{acc:RW}{i j:Nat}(hi:i<=20000)(hj:j<=20000)(ha:acc.length<=100000)(hne:i<o.length\/j<n.length):
 zdr o n acc i j=some (.inl (match (o[i]? :Option (PV jw)),(n[j]? :Option (PV jw)) with
  |some x,some y=>bif spB x then(bif spB y then(o,n,acc++[mkRow 1 x.2.1],((i+1:Nat):Int),((j+1:Nat):Int),()) else(o,n,acc++[mkRow 3 y.2.1],(i:Int),((j+1:Nat):Int),())) else(o,n,acc++[mkRow 2 x.2.1],((i+1:Nat):Int),(j:Int),())
  |some x,none=>bif spB x then(o,n,acc++[mkRow 1 x.2.1],((i+1:Nat):Int),((j+1:Nat):Int),()) else(o,n,acc++[mkRow 2 x.2.1],((i+1:Nat):Int),(j:Int),())
  |none,some y=>bif spB y then(o,n,acc,((i+1:Nat):Int),((j+1:Nat):Int),()) else(o,n,acc++[mkRow 3 y.2.1],(i:Int),((j+1:Nat):Int),())
  |none,none=>(o,n,acc,(i:Int),(j:Int),()))):=by
 have wi:IntKind.wrap .i64 ((i:Int)+1)=((i+1:Nat):Int):=by rw[wrap64 (by omega) (by omega)];omega
 have wj:IntKind.wrap .i64 ((j:Int)+1)=((j+1:Nat):Int):=by rw[wrap64 (by omega) (by omega)];omega
 have hr:qm (acc.length+(0+1))=true:=jc (by omega);have z0:([]:List (PV zo)).length=0:=rfl;by_cases h1:i<o.length
 ·have e1:(o[i]? :Option (PV jw))=some o[i]:=yt1 h1
  have i1:inB (i:Int) o.length=true:=zq h1;have d1:decide ((i:Int)<(o.length:Int))=true:=yc0 (by omega);by_cases h2:j<n.length
  ·have e2:(n[j]? :Option (PV jw))=some n[j]:=yt1 h2
   have i2:inB (j:Int) n.length=true:=zq h2;have d2:decide ((j:Int)<(n.length:Int))=true:=yc0 (by omega);rw[e1,e2];dsimp only;unfold zdr spB;cases hx:(o[i].1==32)
   ·simp only[d1,yb0,ya0,i1,toNat_cast,ql h1,hx,yb1,yf0,yp0,hr,wi,yd0]
   ·cases hy:(n[j].1==32)
    ·simp only[d1,yb0,ya0,i1,toNat_cast,ql h1,hx,ys0,yd0,d2,i2,ql h2,hy,yb1,yf0,yp0,hr,wj]
    ·simp only[d1,yb0,ya0,i1,toNat_cast,ql h1,hx,ys0,yd0,d2,i2,ql h2,hy,yf0,yp0,hr,wi,wj]
  ·have d2:decide ((j:Int)<(n.length:Int))=false:=yi0 (by omega)
   rw[e1,show(n[j]? :Option (PV jw))=none from yh2 (by omega)];dsimp only;unfold zdr spB;cases hx:(o[i].1==32)
   ·simp only[d1,yb0,ya0,i1,toNat_cast,ql h1,hx,yb1,yf0,yp0,hr,wi,yd0]
   ·simp only[d1,yb0,ya0,i1,toNat_cast,ql h1,hx,ys0,yd0,d2,yf0,yp0,hr,wi,wj]
 ·have h2:j<n.length:=by omega
  have d1:decide ((i:Int)<(o.length:Int))=false:=yi0 (by omega);have e2:(n[j]? :Option (PV jw))=some n[j]:=yt1 h2;have i2:inB (j:Int) n.length=true:=zq h2;have d2:decide ((j:Int)<(n.length:Int))=true:=yc0 (by omega);rw[show(o[i]? :Option (PV jw))=none from yh2 (by omega),e2];dsimp only;unfold zdr spB;cases hy:(n[j].1==32)
  ·simp only[d1,d2,yd0,yb0,ya0,i2,toNat_cast,ql h2,hy,yb1,yf0,yp0,hr,wj]
  ·simp only[d1,d2,yd0,yb0,ya0,i2,toNat_cast,ql h2,hy,ys0,wi,wj]
theorem qfa {o n:LN8}{acc:RW}{i j:Nat}(h1:o.length<=i)(h2:n.length<=j):zfz (o,n,acc,(i:Int),(j:Int),())=some (acc,()):=by
 refine jh (B:=BR) (s:=(o,n,acc,(i:Int),(j:Int),())) ?_;show zdr o n acc i j=_;unfold zdr;rw[yi0 (by omega:¬(i:Int)<(o.length:Int)),yd0,yi0 (by omega:¬(j:Int)<(n.length:Int)),yd0,ya0]
theorem q8d (o n:LN8):∀(fu:Nat) (i j:Nat) (acc:RW),(o.drop i).length+(n.drop j).length<=fu->i+fu<=20000->j+fu<=20000->acc.length+fu<=100000->
 zfz (o,n,acc,(i:Int),(j:Int),())=some (acc++rwF fu (o.drop i) (n.drop j),()):=by
 intro fu
 induction fu with
 |zero=>
  intro i j acc h _ _ _;rw[yc1,yc1] at h;rw[qfa (by omega) (by omega)];simp[rwF]
 |succ fu ih=>
  intro i j acc h h1 h2 h3;rw[yc1,yc1] at h;have hdr:∀(l:LN8) (k:Nat),(hk:k<l.length)->l.drop k=l[k]::l.drop (k+1):=λl k hk=>List.drop_eq_getElem_cons hk
  have next:∀(i' j':Nat) (acc':RW),(o.length -i')+(n.length -j')<=fu->i'<=i+1->j'<=j+1->acc'.length<=acc.length+1->zfz (o,n,acc',(i':Int),(j':Int),())=some (acc'++rwF fu (o.drop i') (n.drop j'),()):=
   λi' j' acc' q1 q2 q3 q4=>ih i' j' acc' (by rw[yc1,yc1];exact q1) (by omega) (by omega) (by omega)
  by_cases c1:i<o.length
  ·have e1:(o[i]? :Option (PV jw))=some o[i]:=yt1 c1
   by_cases c2:j<n.length
   ·have e2:(n[j]? :Option (PV jw))=some n[j]:=yt1 c2
    have hs:=zwh (acc:=acc) (i:=i) (j:=j) (o:=o) (n:=n) (by omega) (by omega) (by omega) (.inl c1);rw[e1,e2] at hs;dsimp only at hs;rw[hdr o i c1,hdr n j c2];simp only[rwF];cases hx:spB o[i]<;>rw[hx] at hs
    ·rw[yd0] at hs ⊢
     rw[zi3 hs (next (i+1) j _ (by omega) (by omega) (by omega) (by simp)),hdr n j c2,yj0];rfl
    ·rw[yb0] at hs ⊢
     cases hy:spB n[j]<;>rw[hy] at hs
     ·rw[yd0] at hs ⊢
      rw[zi3 hs (next i (j+1) _ (by omega) (by omega) (by omega) (by simp)),hdr o i c1,yj0];rfl
     ·rw[yb0] at hs ⊢
      rw[zi3 hs (next (i+1) (j+1) _ (by omega) (by omega) (by omega) (by simp)),yj0];rfl
   ·have e2:(n[j]? :Option (PV jw))=none:=yh2 (by omega)
    have hs:=zwh (acc:=acc) (i:=i) (j:=j) (o:=o) (n:=n) (by omega) (by omega) (by omega) (.inl c1);rw[e1,e2] at hs;dsimp only at hs;rw[hdr o i c1,yr2 (show n.length<=j by omega)];simp only[rwF];cases hx:spB o[i]<;>rw[hx] at hs
    ·rw[yd0] at hs ⊢
     rw[zi3 hs (next (i+1) j _ (by omega) (by omega) (by omega) (by simp)),yr2 (show n.length<=j by omega),yj0];rfl
    ·rw[yb0] at hs ⊢
     rw[zi3 hs (next (i+1) (j+1) _ (by omega) (by omega) (by omega) (by simp)),yr2 (show n.length<=j+1 by omega),yj0];rfl
  ·have e1:(o[i]? :Option (PV jw))=none:=yh2 (by omega)
   by_cases c2:j<n.length
   ·have e2:(n[j]? :Option (PV jw))=some n[j]:=yt1 c2
    have hs:=zwh (acc:=acc) (i:=i) (j:=j) (o:=o) (n:=n) (by omega) (by omega) (by omega) (.inr c2);rw[e1,e2] at hs;dsimp only at hs;rw[hdr n j c2,yr2 (show o.length<=i by omega)];simp only[rwF];cases hy:spB n[j]<;>rw[hy] at hs
    ·rw[yd0] at hs ⊢
     rw[zi3 hs (next i (j+1) _ (by omega) (by omega) (by omega) (by simp)),yr2 (show o.length<=i by omega),yj0];rfl
    ·rw[yb0] at hs ⊢
     rw[zi3 hs (next (i+1) (j+1) _ (by omega) (by omega) (by omega) (by omega)),yr2 (show o.length<=i+1 by omega)]
   ·rw[qfa (by omega) (by omega),yr2 (show n.length<=j by omega),yr2 (show o.length<=i by omega)]
    simp[rwF]
def rowsOf (o n:LN8)(a b:Bool):RW:=
 let o':=bif a then jm n else o
 let n':=bif b then jm o' else n
 rwF (o'.length+n'.length) o' n'
theorem zmu (l:LN8):(jm l).length<=l.length:=List.length_filter_le _ _
theorem q8e (o n:LN8)(a b:Bool)(ho:o.length<=3000)(hn:n.length<=3000):zpj o n a b=some ((rowsOf o n a b,()),()):=by
 have fin:∀(o' n':LN8),o'.length<=3000->n'.length<=3000->((zfz (o',n',[],0,0,())).bind λl15=>some ((l15.1,()),()):Option (PVs [zi]×PVs []))=some ((rwF (o'.length+n'.length) o' n',()),()):=by
  intro o' n' h1 h2;have:=q8d o' n' (o'.length+n'.length) 0 0 [] (by simp) (by omega) (by omega) (by simp;omega);rw[show zfz (o',n',[],0,0,())=_ from this,ya0];rfl
 unfold zpj rowsOf;have k1:=zmu o;have k2:=zmu n;have k3:=zmu (jm n);cases a
 ·rw[yd0,ya0]
  dsimp only;cases b
  ·rw[yd0,ya0]
   exact fin o n ho hn
  ·rw[yb0,qcx o o (by omega),ya0,ya0]
   exact fin o (jm o) ho (by omega)
 ·rw[yb0,q8c n b (by omega),ya0,ya0]
  dsimp only;cases b
  ·rw[yd0,ya0]
   exact fin (jm n) n (by omega) hn
  ·rw[yb0,qcx (jm n) (jm n) (by omega),ya0,ya0]
   exact fin (jm n) (jm (jm n)) (by omega) (by omega)
end R
end

section
/- Groups side by side, as the program reads them. -/
open Go Go.Dn
namespace R
abbrev qp:List UInt8:=[42,42,42,42,42,42,42,42,42,42,42,42,42,42,42,10]
abbrev pS1:List UInt8:=[42,42,42,32]
abbrev qS1:List UInt8:=[32,42,42,42,42,10]
abbrev pS2:List UInt8:=[45,45,45,32]
abbrev qS2:List UInt8:=[32,45,45,45,45,10]
def preI (p l:List UInt8):List UInt8:=bif l.take p.length==p then l.drop p.length else l
def midI (p q l:List UInt8):List UInt8:=bif (preI p l).drop ((preI p l).length -q.length)==q then(preI p l).take ((preI p l).length -q.length) else preI p l
def hasI (p q l:List UInt8):Bool:=(l.take p.length==p)&&((preI p l).drop ((preI p l).length -q.length)==q)
def zbv (p q l:List UInt8):Int:=(endR 1 (midI p q l)).1
def headB (p q l:List UInt8):Bool:=hasI p q l&&(endR 1 (midI p q l)).2.2.1
theorem qcy (p l:List UInt8):(preI p l).length<=l.length:=by
 unfold preI;cases(l.take p.length==p)
 ·exact ym0 _
 ·rw[yb0,yc1];omega
theorem q6h (p q l:List UInt8):(midI p q l).length<=l.length:=by
 have:=qcy p l;unfold midI;cases((preI p l).drop ((preI p l).length -q.length)==q)
 ·exact this
 ·rw[yb0,yr1];omega
theorem qa5 (p q l:List UInt8):0<=zbv p q l/\zbv p q l<=1000:=qcv 1 _
theorem zmk (p q l:List UInt8)(t:TX)(hp:p.length<=100)(hq:q.length<=100)(hl:l.length<=3000):zjl (l::t) p q=some ((zbv p q l,t,headB p q l,()),()):=by
 have e0:(l::t).getD ((0:Int).toNat) []=l:=rfl;have i0:inB 0 (l::t).length=true:=zq (i:=0) (by simp);have hne:(((l::t).length:Int)==0)=false:=yo0.2 (by simp only[yf0];omega);have h1:=qcy p l;have h2:=q6h p q l;unfold zjl;rw[hne,yd0,i0,yb0,e0,zl7 l p (by omega) hp,ya0];dsimp only;rw[show(bif l.take p.length==p then l.drop p.length else l)=preI p l from rfl,zl8 (preI p l) q (by omega) hq,ya0];dsimp only;rw[show(bif (preI p l).drop ((preI p l).length -q.length)==q then(preI p l).take ((preI p l).length -q.length) else preI p l)=midI p q l from rfl,q3y _ (by omega),ya0];dsimp only;rw[za2,yb0,drop_one];unfold zbv headB hasI;cases(l.take p.length==p)
 ·rfl
 ·cases((preI p l).drop ((preI p l).length -q.length)==q)<;>rfl
theorem z5s (p q:List UInt8):zjl [] p q=some ((0,[],false,()),()):=rfl
theorem qa6 {p q x:List UInt8}{n m:Int}(h:endR 1 x=(n,m,true,())):zbv p q (p++x++q)=n/\headB p q (p++x++q)=true:=by
 have e1:((p++x++q).take p.length==p)=true:=by rw[yj0,List.take_left' rfl];exact yn1 _
 have e2:preI p (p++x++q)=x++q:=by unfold preI;rw[e1,yb0,yj0,List.drop_left' rfl]
 have hl:(x++q).length -q.length=x.length:=by rw[ye0];omega
 have e3:((preI p (p++x++q)).drop ((preI p (p++x++q)).length -q.length)==q)=true:=by rw[e2,hl,List.drop_left' rfl];exact yn1 _
 have e4:midI p q (p++x++q)=x:=by unfold midI;rw[e3,yb0,e2,hl,List.take_left' rfl]
 unfold zbv headB hasI;rw[e1,e3,e4,h];exact⟨rfl,rfl⟩
def keepR (l:RW):RW:=l.filter λx=>x.1==1
theorem qee (l:RW)(h:l.length<=10000):zmo l=some ((keepR l,()),()):=by
 unfold zmo znv;rw[jc (by show List.length l<=_;omega)];rfl
theorem zqa (l:RW):(keepR l).length<=l.length:=List.length_filter_le _ _
def oldH (a b:RW):RW:=bif (a.length==0) then keepR b else a
def newH (a b:RW):RW:=bif (a.length==0) then b else bif (b.length==0) then keepR a else b
def atH (n:Int)(l:RW):Int:=bif decide (0<l.length) then n -1 else n
def grpH (n m:Int)(a b:RW):PV zh:=(atH n (oldH a b),(atH m (newH a b),((mg ((oldH a b).length+(newH a b).length) (oldH a b) (newH a b)).getD [],())))
theorem len0 (l:RW):((l.length:Int)==0)=(l.length==0):=by
 rw[Bool.eq_iff_iff];simp only[yy0];omega
theorem at_eq (n:Int)(l:RW)(h0:0<=n)(h1:n<=1000):(bif decide ((l.length:Int)>0) then IntKind.wrap .i64 (n -1) else n)=atH n l:=by
 unfold atH;rw[wrap64 (by omega) (by omega)];by_cases h:0<l.length
 ·rw[yc0 (by omega:(l.length:Int)>0),yc0 h]
 ·rw[yi0 (by omega:¬(l.length:Int)>0),yi0 h]
theorem z8s (out:GR)(l1 l2:List UInt8)(t1 r2 r3:TX)(a b:RW)(h1:headB pS1 qS1 l1=true)(ha:zab 45 2 t1.length t1=(a,l2::r2))(h2:headB pS2 qS2 l2=true)(hb:zab 43 3 r2.length r2=(b,r3))
 (hn:t1.length<=3000)(hm:∀l∈l1::t1,l.length<=3000)(ho:out.length<20):
 zbl (qp::l1::t1) out=some (.inl (r3,out++[grpH (zbv pS1 qS1 l1) (zbv pS2 qS2 l2) a b],())):=by
 have k1:=zmr 45 2 t1.length t1;rw[ha] at k1;simp only[yf0] at k1;have k2:=zmr 43 3 r2.length r2;rw[hb] at k2;simp only at k2;have m2:∀l∈l2::r2,l.length<=3000:=λl hl=>hm l (yg0 _ (zp9 45 2 t1.length t1 l (by rw[ha];exact hl)));have e0:(qp::l1::t1).getD ((0:Int).toNat) []=qp:=rfl;have i0:inB 0 (qp::l1::t1).length=true:=zq (i:=0) (by simp);have n20:((out.length:Int)==20)=false:=yo0.2 (by omega);obtain⟨u1,u2⟩:=qa5 pS1 qS1 l1;obtain⟨v1,v2⟩:=qa5 pS2 qS2 l2;have ko:=zqa b;have kn:=zqa a;unfold zbl;rw[yc0 (by simp only[yf0];omega:((qp::l1::t1).length:Int)>0),yb0,i0,yb0,e0,show(!(qp==qp))=false from rfl,yd0,ya0];dsimp only;rw[n20,yd0,za2,yb0,drop_one,zmk pS1 qS1 l1 t1 (by decide) (by decide) (hm l1 (yk0 ..)),ya0];dsimp only;rw[h1,ys0,yd0,zum 45 2 t1 (by omega) (λl hl=>hm l (yg0 _ hl)),ha,ya0];dsimp only;rw[zmk pS2 qS2 l2 r2 (by decide) (by decide) (m2 l2 (yk0 ..)),ya0];dsimp only;rw[h2,ys0,yd0,zum 43 3 r2 (by omega) (λl hl=>m2 l (yg0 _ hl)),hb,ya0];dsimp only;rw[len0,len0]
 have fin:∀(o n:RW),o=oldH a b->n=newH a b->o.length<=3000->n.length<=3000->(((some (out,zbv pS1 qS1 l1,r3,o,zbv pS2 qS2 l2,n,()):Option ((PV zk×PV (.int .i64)×PV zf×PV zi×PV (.int .i64)×PV zi×Unit)))).bind λj13=>
  (zmj j13.2.2.2.1 j13.2.2.2.2.2.1).bind λr15=>
    ((bif (decide ((j13.2.2.2.1.length:Int)>0)) then
       some (j13.1,j13.2.2.1,j13.2.2.2.2.2.1,((IntKind.wrap .i64 (j13.2.1 -1)),(j13.2.2.2.2.1,(r15.1.1,()))),())
      else
       some (j13.1,j13.2.2.1,j13.2.2.2.2.2.1,(j13.2.1,(j13.2.2.2.2.1,(r15.1.1,()))),()):Option ((PV zk×PV zf×PV zi×PV zh×Unit)))).bind λj16=>
      ((bif (decide ((j16.2.2.1.length:Int)>0)) then
         some (j16.1,j16.2.1,(j16.2.2.2.1.1,((IntKind.wrap .i64 (j16.2.2.2.1.2.1 -1)),j16.2.2.2.1.2.2)),())
        else
         some (j16.1,j16.2.1,j16.2.2.2.1,()):Option ((PV zk×PV zf×PV zh×Unit)))).bind λj17=>
        (bif qm (j17.1.length+[j17.2.2.1].length) then
          some (.inl (j17.2.1,(j17.1++[j17.2.2.1]),()))
        else
         none:Option ((PV zf×PV zk×Unit)⊕((PV zk×Unit)⊕(PV zk×PV .bool×Unit)))))=some (.inl (r3,out++[grpH (zbv pS1 qS1 l1) (zbv pS2 qS2 l2) a b],())):=by
  intro o n ho' hn' l1' l2';have q1:=at_eq (zbv pS1 qS1 l1) o u1 u2;have q2:=at_eq (zbv pS2 qS2 l2) n v1 v2;rw[ya0];dsimp only;rw[q6f o n (by omega),ya0];dsimp only;unfold grpH;rw[<-ho',<-hn'];cases c1:decide ((o.length:Int)>0)<;>rw[c1] at q1
  ·rw[yd0] at q1 ⊢
   rw[ya0];dsimp only;cases c2:decide ((n.length:Int)>0)<;>rw[c2] at q2
   ·rw[yd0] at q2 ⊢
    rw[ya0];dsimp only;rw[jc (by simp;omega),yb0,<-q1,<-q2]
   ·rw[yb0] at q2 ⊢
    rw[ya0];dsimp only;rw[jc (by simp;omega),yb0,<-q1,<-q2]
  ·rw[yb0] at q1 ⊢
   rw[ya0];dsimp only;cases c2:decide ((n.length:Int)>0)<;>rw[c2] at q2
   ·rw[yd0] at q2 ⊢
    rw[ya0];dsimp only;rw[jc (by simp;omega),yb0,<-q1,<-q2]
   ·rw[yb0] at q2 ⊢
    rw[ya0];dsimp only;rw[jc (by simp;omega),yb0,<-q1,<-q2]
 cases hz:(a.length==0)
 ·rw[yd0]
  cases hy:(b.length==0)
  ·rw[yd0]
   exact fin a b (by unfold oldH;rw[hz];rfl) (by unfold newH;rw[hz,hy];rfl) (by omega) (by omega)
  ·rw[yb0,qee a (by omega),ya0]
   exact fin a (keepR a) (by unfold oldH;rw[hz];rfl) (by unfold newH;rw[hz,hy];rfl) (by omega) (by omega)
 ·rw[yb0,qee b (by omega),ya0]
  exact fin (keepR b) b (by unfold oldH;rw[hz];rfl) (by unfold newH;rw[hz];rfl) (by omega) (by omega)
end R
end

section
/- Groups side by side, as the program reads them: whatever the lines are. -/
open Go Go.Dn
namespace R
def GW (g:PV zh):Prop:=List.length g.2.2.1<=10000/\∀r∈(g.2.2.1:RW),List.length r.2.1<=3000
theorem GW.smG {gs:GR}(h1:gs.length<=10000)(h:∀x∈gs,GW x):SmG gs:=
 ⟨by omega,λx hx=>⟨by have:=(h x hx).1;omega,λr hr=>by have:=(h x hx).2 r hr;omega⟩⟩
theorem qa7 {l:RW}{x:PV zo}(h:x∈keepR l):x∈l:=(List.mem_filter.1 h).1
theorem jaf (n m:Int){a b:RW}(h:a.length+b.length<=3000)(ha:∀r∈a,List.length r.2.1<=3000)(hb:∀r∈b,List.length r.2.1<=3000):GW (grpH n m a b):=by
 have ko:=zqa b;have kn:=zqa a
 have ho:(oldH a b).length<=3000/\∀r∈oldH a b,List.length r.2.1<=3000:=by
  unfold oldH;cases(a.length==0)
  ·exact⟨by rw[yd0];omega,ha⟩
  ·exact⟨by rw[yb0];omega,λr hr=>hb r (qa7 hr)⟩
 have hn:(newH a b).length<=3000/\∀r∈newH a b,List.length r.2.1<=3000:=by
  unfold newH;cases(a.length==0)
  ·rw[yd0]
   cases(b.length==0)
   ·exact⟨by rw[yd0];omega,hb⟩
   ·exact⟨by rw[yb0];omega,λr hr=>ha r (qa7 hr)⟩
  ·exact⟨by rw[yb0];omega,hb⟩
 unfold grpH GW;dsimp only;cases hm:mg ((oldH a b).length+(newH a b).length) (oldH a b) (newH a b) with
 |none=>exact⟨ye1 _,λr hr=>by cases hr⟩
 |some r=>
  obtain⟨k1,k2⟩:=zkz _ _ _ _ hm;exact⟨by show r.length<=_;omega,λx hx=>(k2 x hx).elim (ho.2 x) (hn.2 x)⟩
theorem qzm (out:GR)(ls:TX)(hn:ls.length<=3000)(hm:∀l∈ls,l.length<=3000)(ho:out.length<=20):
 (∃r3 g,zbl ls out=some (.inl (r3,out++[g],()))/\out.length<20/\r3.length<ls.length/\(∀l∈r3,l∈ls)/\GW g)\/zbl ls out=some (.inr (.inl (out,())))\/zbl ls out=some (.inr (.inr ([],false,()))):=by
 cases ls with
 |nil=>exact .inr (.inl rfl)
 |cons l0 t=>
  have e0:(l0::t).getD ((0:Int).toNat) []=l0:=rfl;have i0:inB 0 (l0::t).length=true:=zq (i:=0) (by simp);have d0:decide (((l0::t).length:Int)>0)=true:=yc0 (by simp only[yf0];omega);cases hs:(l0==qp)
  ·refine .inr (.inr ?_)
   unfold zbl;rw[d0,yb0,i0,yb0,e0,hs];rfl
  ·obtain rfl:l0=qp:=by simpa using hs
   by_cases h20:out.length=20
   ·refine .inr (.inr ?_)
    unfold zbl;rw[d0,yb0,i0,yb0,e0,show(!(qp==qp))=false from rfl,yd0,ya0];dsimp only;rw[show((out.length:Int)==20)=true from by rw[h20];rfl];rfl
   ·have n20:((out.length:Int)==20)=false:=yo0.2 (by omega)
    cases t with
    |nil=>
     refine .inr (.inr ?_);unfold zbl;rw[d0,yb0,i0,yb0,e0,show(!(qp==qp))=false from rfl,yd0,ya0];dsimp only;rw[n20,yd0,za2,yb0,drop_one,z5s];rfl
    |cons l1 t1=>
     have hm1:∀l∈l1::t1,l.length<=3000:=λl hl=>hm l (yg0 _ hl);cases h1:headB pS1 qS1 l1
     ·refine .inr (.inr ?_)
      unfold zbl;rw[d0,yb0,i0,yb0,e0,show(!(qp==qp))=false from rfl,yd0,ya0];dsimp only;rw[n20,yd0,za2,yb0,drop_one,zmk pS1 qS1 l1 t1 (by decide) (by decide) (hm1 l1 (yk0 ..)),ya0];dsimp only;rw[h1];rfl
     ·have hlen:t1.length<=2998:=by simp only[yf0] at hn;omega
      obtain⟨a,r1,ha⟩:∃a r1,zab 45 2 t1.length t1=(a,r1):=⟨_,_,rfl⟩;have k1:=zmr 45 2 t1.length t1;have rw1:=zul 45 2 t1.length t1 (λl hl=>hm1 l (yg0 _ hl));have mem1:∀l∈r1,l∈t1:=λl hl=>zp9 45 2 t1.length t1 l (by rw[ha];exact hl);rw[ha] at k1 rw1;simp only at k1 rw1
      have bad:∀(H:(r1=[]\/∃l2 r2,r1=l2::r2/\headB pS2 qS2 l2=false)),zbl (qp::l1::t1) out=some (.inr (.inr ([],false,()))):=by
       intro H;unfold zbl;rw[d0,yb0,i0,yb0,e0,show(!(qp==qp))=false from rfl,yd0,ya0];dsimp only;rw[n20,yd0,za2,yb0,drop_one,zmk pS1 qS1 l1 t1 (by decide) (by decide) (hm1 l1 (yk0 ..)),ya0];dsimp only;rw[h1,ys0,yd0,zum 45 2 t1 (by omega) (λl hl=>hm1 l (yg0 _ hl)),ha,ya0];dsimp only;rcases H with rfl|⟨l2,r2,rfl,h2⟩
       ·rw[z5s]
        rfl
       ·rw[zmk pS2 qS2 l2 r2 (by decide) (by decide) (hm1 l2 (yg0 _ (mem1 l2 (yk0 ..)))),ya0]
        dsimp only;rw[h2];rfl
      cases r1 with
      |nil=>exact .inr (.inr (bad (.inl rfl)))
      |cons l2 r2=>
       cases h2:headB pS2 qS2 l2
       ·exact .inr (.inr (bad (.inr ⟨l2,r2,rfl,h2⟩)))
       ·obtain⟨b,r3,hb⟩:∃b r3,zab 43 3 r2.length r2=(b,r3):=⟨_,_,rfl⟩
        have k2:=zmr 43 3 r2.length r2;have rw2:=zul 43 3 r2.length r2 (λl hl=>hm1 l (yg0 _ (mem1 l (yg0 _ hl))));have mem2:∀l∈r3,l∈r2:=λl hl=>zp9 43 3 r2.length r2 l (by rw[hb];exact hl);rw[hb] at k2 rw2;simp only at k2 rw2;simp only[yf0] at k1;refine .inl ⟨r3,_,z8s out l1 l2 t1 r2 r3 a b h1 ha h2 hb (by omega) hm1 (by omega),by omega,by simp only[yf0];omega,λl hl=>yg0 _ (yg0 _ (mem1 l (yg0 _ (mem2 l hl)))),jaf _ _ (by omega) (λr hr=>(rw1 r hr).2) (λr hr=>(rw2 r hr).2)⟩
noncomputable abbrev BS (d:PV zf×PV zk×Unit):=zbl d.1 d.2.1
theorem zv2 {ls r3:TX}{out:GR}{g:PV zh}{r}(h:zbl ls out=some (.inl (r3,out++[g],())))(h2:zhc (r3,out++[g],())=some r):zhc (ls,out,())=some r:=
 Eq.trans (zal (B:=BS) (s:=(ls,out,())) (t:=(r3,out++[g],())) h) h2
theorem zpp {ls:TX}{out:GR}{r}(h:zbl ls out=some (.inr r)):zhc (ls,out,())=some r:=jh (B:=BS) (s:=(ls,out,())) h
theorem q1l:∀(n:Nat) (ls:TX) (out:GR),ls.length<=n->ls.length<=3000->(∀l∈ls,l.length<=3000)->out.length<=20->(∀x∈out,GW x)->
 ∃(gs:GR),gs.length<=20/\(∀x∈gs,GW x)/\(zhc (ls,out,())=some (.inl (gs,()))\/zhc (ls,out,())=some (.inr (gs,false,()))):=by
 intro n
 induction n with
 |zero=>
  intro ls out h _ _ ho hg;obtain rfl:ls=[]:=yt0 (by omega);exact⟨out,ho,hg,.inl (zpp rfl)⟩
 |succ n ih=>
  intro ls out h h1 hm ho hg;rcases qzm out ls h1 hm ho with⟨r3,g,e,h20,hl,hmem,hw⟩|e|e
  ·obtain⟨gs,q1,q2,q3⟩:=ih r3 (out++[g]) (by omega) (by omega) (λl hl=>hm l (hmem l hl)) (by simp;omega) (λx hx=>by
    rcases yu0.1 hx with hx|hx
    ·exact hg x hx
    ·obtain rfl:=yl1.1 hx
     exact hw)
   exact⟨gs,q1,q2,q3.imp (zv2 e) (zv2 e)⟩
  ·exact⟨out,ho,hg,.inl (zpp e)⟩
  ·exact⟨[],ye1 _,λx hx=>(by cases hx),.inr (zpp e)⟩
theorem qzn (ls:TX)(h1:ls.length<=3000)(hm:∀l∈ls,l.length<=3000):∃(gs:GR) (q:Bool),zjg ls=some ((gs,q,()),())/\SmG gs:=by
 obtain⟨gs,q1,q2,q3⟩:=q1l ls.length ls [] (ym0 _) h1 hm (ye1 _) (λx hx=>by cases hx);unfold zjg;rcases q3 with e|e
 ·rw[e]
  exact⟨gs,true,rfl,GW.smG (by omega) q2⟩
 ·rw[e]
  exact⟨gs,false,rfl,GW.smG (by omega) q2⟩
end R
end

section
/- Groups written side by side are read back by the program. -/
open Go Go.Dn
namespace R
theorem zwi {u:List UInt8}(h:(10:UInt8)∉u):endP u=false:=by
 cases he:endP u with
 |false=>rfl
 |true=>
  unfold endP at he;exact absurd (yb2 (by rw[yy0.1 he];simp)) h
theorem qa8 (s:List UInt8):endP s=(s.getLast?==some 10):=by
 unfold endP;rcases List.eq_nil_or_concat s with rfl|⟨t,a,rfl⟩
 ·rfl
 ·rw[List.concat_eq_append,ye0,ya3,Nat.add_sub_cancel,List.drop_left,List.getLast?_append]
  simp
theorem zb0 {s t:List UInt8}(h:t≠[]):endP (s++t)=endP t:=by
 rw[qa8,qa8,List.getLast?_append];rcases List.eq_nil_or_concat t with rfl|⟨u,a,rfl⟩
 ·exact absurd rfl h
 ·rw[List.concat_eq_append,List.getLast?_append];simp
theorem zqk {l:List UInt8}(h:isL l):endP l=true:=by
 obtain⟨t,rfl,_⟩:=h;rw[zb0 (by simp)];decide
theorem zml {s:List UInt8}(h:xk s=true):s≠[]/\((isL s/\endP s=true)\/((10:UInt8)∉s/\endP s=false)):=by
 have hl:=zm2 h;have hne:s≠[]:=λe=>by rw[e] at hl;simp at hl
 refine⟨hne,?_⟩;unfold xk at h;rw[yh0,yj1] at h
 have h10:(10:UInt8)∉s.take (s.length -1):=by
  have:=h.2;unfold hasEnd at this;simpa using this
 rcases List.eq_nil_or_concat s with rfl|⟨t,c,rfl⟩
 ·exact absurd rfl hne
 ·rw[List.concat_eq_append] at*
  rw[ye0,ya3,Nat.add_sub_cancel,List.take_left' rfl] at h10;by_cases hc:c=10
  ·subst hc
   exact .inl ⟨⟨t,rfl,h10⟩,zqk ⟨t,rfl,h10⟩⟩
  ·have:(10:UInt8)∉t++[c]:=by
    simp only[yu0,yl1,not_or];exact⟨h10,λe=>hc e.symm⟩
   exact .inr ⟨this,zwi this⟩
theorem qa9:isL qy:=⟨[92,32,110,111,110,101],rfl,by decide⟩
def NN (r:TX):Prop:=r.head?≠some qy
def zgy (sg line:List UInt8):TX:=bif endP line then[sg++line] else[sg++line++[10],qy]
theorem q1m (sg line:List UInt8):(zgy sg line).flatten=zbk sg line:=by
 unfold zgy zbk;cases endP line
 ·simp
 ·simp
def RG (rows:RW):Prop:=∀k,k<rows.length->(kd rows k=1\/kd rows k=2\/kd rows k=3)/\xk (rows.getD k W0).2.1=true
def SgOk (c:Int)(sg:UInt8)(q:Int):Prop:=(c=3/\sg=45/\q=2)\/(c=2/\sg=43/\q=3)
theorem zii {rows:RW}{c q:Int}{sg:UInt8}{k:Nat}(h:SgOk c sg q)(hk:kd rows k=1\/kd rows k=2\/kd rows k=3)(hc:(kd rows k==c)=false):
 ∃s:UInt8,zbq rows c k=[s,32]/\s≠10/\s≠92/\([32,33,sg]:List UInt8).contains s=true/\(bif s==32 then(1:Int) else q)=kd rows k:=by
 unfold zbq;rcases h with⟨rfl,rfl,rfl⟩|⟨rfl,rfl,rfl⟩
 ·rcases hk with hk|hk|hk
  ·rw[hk];exact⟨32,rfl,by decide,by decide,by decide,rfl⟩
  ·rw[hk]
   cases runA rows 3 k
   ·exact⟨45,rfl,by decide,by decide,by decide,rfl⟩
   ·exact⟨33,rfl,by decide,by decide,by decide,rfl⟩
  ·rw[hk] at hc;cases hc
 ·rcases hk with hk|hk|hk
  ·rw[hk];exact⟨32,rfl,by decide,by decide,by decide,rfl⟩
  ·rw[hk] at hc;cases hc
  ·rw[hk]
   cases runA rows 2 k
   ·exact⟨43,rfl,by decide,by decide,by decide,rfl⟩
   ·exact⟨33,rfl,by decide,by decide,by decide,rfl⟩
def hG (rows:RW)(c:Int):Nat->Nat->TX
 |0,_=>[]
 |f+1,k=>(bif kd rows k==c then[] else zgy (zbq rows c k) (rows.getD k W0).2.1)++hG rows c f (k+1)
theorem qba (rows:RW)(c:Int):∀(f k:Nat),ku rows c (k+f)=ku rows c k++(hG rows c f k).flatten
 |0,k=>by simp[hG]
 |f+1,k=>by
  rw[show k+(f+1)=(k+1)+f by omega,qba rows c f (k+1)];show(ku rows c k++ziy rows c k)++(hG rows c f (k+1)).flatten=ku rows c k++((bif kd rows k==c then[] else zgy (zbq rows c k) (rows.getD k W0).2.1)++hG rows c f (k+1)).flatten;unfold ziy;rw[yb3];cases(kd rows k==c)
  ·rw[yd0,yd0,q1m,yj0]
  ·simp
theorem q6i {rows:RW}{c q:Int}{sg:UInt8}{k:Nat}(h:SgOk c sg q)(hr:RG rows)(hk:k<rows.length)(hc:(kd rows k==c)=false):∀l∈zgy (zbq rows c k) (rows.getD k W0).2.1,isL l:=by
 obtain⟨h1,h2⟩:=hr k hk;obtain⟨s,e,s10,_⟩:=zii h h1 hc;intro l hl;unfold zgy at hl;rw[e] at hl;rcases(zml h2).2 with⟨⟨t,ht,h10⟩,he⟩|⟨h10,he⟩<;>rw[he] at hl
 ·obtain rfl:=yl1.1 hl
  refine⟨s::32::t,by rw[ht];rfl,λhm=> ?_⟩;rcases yg1.1 hm with hm|hm
  ·exact s10 hm.symm
  ·rcases yg1.1 hm with hm|hm
   ·cases hm
   ·exact h10 hm
 ·rcases yg1.1 hl with rfl|hl
  ·refine⟨s::32::(rows.getD k W0).2.1,rfl,λhm=> ?_⟩
   rcases yg1.1 hm with hm|hm
   ·exact s10 hm.symm
   ·rcases yg1.1 hm with hm|hm
    ·cases hm
    ·exact h10 hm
  ·obtain rfl:=yl1.1 hl
   exact qa9
theorem qfb {rows:RW}{c q:Int}{sg:UInt8}(h:SgOk c sg q)(hr:RG rows):∀(f k:Nat),k+f=rows.length->∀l∈hG rows c f k,isL l
 |0,k,_,l,hl=>by cases hl
 |f+1,k,hk,l,hl=>by
  unfold hG at hl;rcases yu0.1 hl with hl|hl
  ·cases hc:(kd rows k==c)<;>rw[hc] at hl
   ·exact q6i h hr (by omega) hc l hl
   ·cases hl
  ·exact qfb h hr f (k+1) (by omega) l hl
theorem qft {rows:RW}{c q:Int}{sg:UInt8}(h:SgOk c sg q)(hr:RG rows){r:TX}(hn:NN r):∀(f k:Nat),k+f=rows.length->NN (hG rows c f k++r)
 |0,k,_=>hn
 |f+1,k,hk=>by
  unfold hG;cases hc:(kd rows k==c)
  ·obtain⟨h1,h2⟩:=hr k (by omega)
   obtain⟨s,e,_,s92,_⟩:=zii h h1 hc;unfold zgy NN;rw[e];cases endP (rows.getD k W0).2.1
   ·intro hh
    have:=yl0 hh;exact s92 (List.cons.inj this).1
   ·intro hh
    have:=yl0 hh;exact s92 (List.cons.inj this).1
  ·exact qft h hr hn f (k+1) (by omega)
theorem zun {sg:UInt8}{q:Int}{r:TX}(h:∀l∈r.head?,rowH sg l=false):∀fu,zab sg q fu r=([],r)
 |0=>rfl
 |fu+1=>by
  cases r with
  |nil=>rfl
  |cons l r=>unfold zab;rw[h l rfl];rfl
theorem qbb (sg s:UInt8)(line:List UInt8)(h:([32,33,sg]:List UInt8).contains s=true)(hl:line≠[]):rowH sg (s::32::line)=true:=by
 unfold rowH;rw[yc0 (by simp),yx1];show((32:UInt8)==32&&([32,33,sg]:List UInt8).contains s)=true;rw[h];rfl
theorem zmv {rows:RW}{c q:Int}{sg:UInt8}(h:SgOk c sg q)(hr:RG rows){r:TX}(hn:NN r)(hs:∀l∈r.head?,rowH sg l=false):∀(f k fu:Nat),k+f=rows.length->(hG rows c f k).length<=fu->
 zab sg q fu (hG rows c f k++r)=((rows.drop k).filter (λx=> !(x.1==c)),r)
 |0,k,fu,hk,_=>by
  rw[yr2 (by omega)];exact zun hs fu
 |f+1,k,fu,hk,hf=>by
  have hkl:k<rows.length:=by omega
  have hd:rows.drop k=rows[k]::rows.drop (k+1):=List.drop_eq_getElem_cons hkl;have hg:rows.getD k W0=rows[k]:=ql hkl;have hkd:kd rows k=rows[k].1:=by unfold kd;rw[hg]
  unfold hG at hf ⊢;rw[hd];cases hc:(kd rows k==c)<;>rw[hc] at hf
  ·obtain⟨h1,h2⟩:=hr k hkl
   obtain⟨s,e,s10,s92,hcon,hkq⟩:=zii h h1 hc;have hnn:=qft h hr hn f (k+1) (by omega);have hmk:mkRow (kd rows k) (rows.getD k W0).2.1=rows[k]:=by rw[hkd,hg]
   rw[yd0] at hf ⊢;rw[yw2 (by rw[<-hkd,hc];rfl)];unfold zgy at hf ⊢;rw[e] at hf ⊢;rcases(zml h2).2 with⟨_,he⟩|⟨h10,he⟩<;>rw[he] at hf ⊢
   ·rw[yb0] at hf ⊢
    obtain⟨fu,rfl⟩:∃f',fu=f'+1:=⟨fu -1,by simp at hf;omega⟩;have ih:=zmv h hr hn hs f (k+1) fu (by omega) (by simp at hf;omega);show zab sg q (fu+1) ((s::32::(rows.getD k W0).2.1)::(hG rows c f (k+1)++r))=_;have hq:jg (hG rows c f (k+1)++r)=hG rows c f (k+1)++r:=by unfold jg;rw[yw0 hnn]
    have hl:jf (rows.getD k W0).2.1 (hG rows c f (k+1)++r)=(rows.getD k W0).2.1:=by unfold jf;rw[yw0 hnn]
    unfold zab;rw[qbb sg s _ hcon (zml h2).1,yb0,hq,ih];show(mkRow (bif s==32 then 1 else q) (jf (rows.getD k W0).2.1 (hG rows c f (k+1)++r))::_,r)=_;rw[hl,hkq,hmk]
   ·rw[yd0] at hf ⊢
    obtain⟨fu,rfl⟩:∃f',fu=f'+1:=⟨fu -1,by simp at hf;omega⟩;have ih:=zmv h hr hn hs f (k+1) fu (by omega) (by simp at hf;omega);show zab sg q (fu+1) ((s::32::((rows.getD k W0).2.1++[10]))::(qy::(hG rows c f (k+1)++r)))=_;have hq:jg (qy::(hG rows c f (k+1)++r))=hG rows c f (k+1)++r:=by unfold jg;rw[yx0 (show(qy::(hG rows c f (k+1)++r)).head?=some qy from rfl)];rfl
    have hl:jf ((rows.getD k W0).2.1++[10]) (qy::(hG rows c f (k+1)++r))=(rows.getD k W0).2.1:=by
     unfold jf;rw[yx0 (show(qy::(hG rows c f (k+1)++r)).head?=some qy from rfl)];unfold zbh;rw[show endP ((rows.getD k W0).2.1++[10])=true from by rw[zb0 (by simp)];decide,yb0,ye0,ya3,Nat.add_sub_cancel,List.take_left' rfl]
    unfold zab;rw[qbb sg s _ hcon (by simp),yb0,hq,ih];show(mkRow (bif s==32 then 1 else q) (jf ((rows.getD k W0).2.1++[10]) (qy::(hG rows c f (k+1)++r)))::_,r)=_;rw[hl,hkq,hmk]
  ·rw[yb0] at hf ⊢
   rw[List.filter_cons_of_neg (by rw[<-hkd,hc];simp)];exact zmv h hr hn hs f (k+1) fu (by omega) (by simpa using hf)
def hd1 (x:PV zh):List UInt8:=pS1++pairT (Int.toNat x.1) (zu x.2.2.1 3).length++qS1
def hd2 (x:PV zh):List UInt8:=pS2++pairT (Int.toNat x.2.1) (zu x.2.2.1 2).length++qS2
def optL (x:PV zh)(d c:Int):TX:=bif hasK x.2.2.1 d then hG x.2.2.1 c (List.length x.2.2.1) 0 else[]
def scL (x:PV zh):TX:=qp::hd1 x::(optL x 2 3++(hd2 x::optL x 3 2))
theorem qbc (x:PV zh)(d c:Int):(optL x d c).flatten=opt x d c:=by
 unfold optL opt;cases hasK x.2.2.1 d
 ·rfl
 ·have:=qba x.2.2.1 c (List.length x.2.2.1) 0
  rw[Nat.zero_add] at this;rw[yb0,yb0,this];rfl
theorem q6j (x:PV zh):(scL x).flatten=zdo x:=by
 unfold scL zdo top1 top2;rw[yd1,yd1,yb3,yd1,qbc,qbc];unfold hd1 hd2;simp
theorem zl9 {x:PV zh}(h:zae x=true):RG x.2.2.1/\(∀k,k+1<List.length x.2.2.1->kd x.2.2.1 k=3->kd x.2.2.1 (k+1)≠2)/\(hasK x.2.2.1 2=true\/hasK x.2.2.1 3=true)/\
 (∃a:Nat,x.1=(a:Int)/\a<=999/\a+(zu x.2.2.1 3).length<=1000)/\(∃b:Nat,x.2.1=(b:Int)/\b<=999/\b+(zu x.2.2.1 2).length<=1000):=by
 obtain⟨⟨a,ea,ha⟩,⟨b,eb,hb⟩,s1,s2⟩:=zf4 h;unfold zae inI at h;simp only[yh0,yr0,yj1] at h;obtain⟨_,_,⟨h1,h2⟩,h3,h4,_,_,h5,h6⟩:=h
 have hbad:∀k,k<List.length x.2.2.1->zaw x.2.2.1 k=false:=λk hk=>by
  cases hb:zaw x.2.2.1 k with
  |false=>rfl
  |true=>rw[zdf.2 ⟨k,hk,hb⟩] at h3;cases h3
 have hrg:RG x.2.2.1:=λk hk=>by
  have hb:=hbad k hk;unfold zaw inI at hb;simp only[yz2,Bool.not_eq_false',yh0,yr0] at hb;obtain⟨⟨b1,b2⟩,b3,_⟩:=hb;have e:∀z:Int,z>=1->z<=3->z=1\/z=2\/z=3:=λz _ _=>by omega
  exact⟨e _ b1 b2,b3⟩
 refine⟨hrg,λk hk h3 h2=> ?_,?_,⟨a,ea,ha,?_⟩,⟨b,eb,hb,?_⟩⟩
 ·have hb:=hbad (k+1) hk
  unfold zaw at hb;rw[Nat.add_sub_cancel,h2,h3] at hb;simp only[yz2] at hb;have:=hb.2.2;rw[yc0 (by omega:(((k+1:Nat):Int)>0))] at this;cases this
 ·obtain⟨k,hk,hc⟩:=zdf.1 h4
  unfold chg at hc;have hk1:=(hrg k hk).1
  have hm:∀c:Int,kd x.2.2.1 k=c->hasK x.2.2.1 c=true:=λc hc=>by
   unfold hasK;rw[List.any_eq_true];refine⟨_,ym1 hk,?_⟩;unfold kd at hc;rw[ql hk] at hc;rw[hc];exact yn1 _
  rcases hk1 with hk1|hk1|hk1
  ·rw[hk1] at hc;cases hc
  ·exact .inl (hm 2 hk1)
  ·exact .inr (hm 3 hk1)
 ·rw[ea,wrap64 (by omega) (by omega)] at h5;omega
 ·rw[eb,wrap64 (by omega) (by omega)] at h6;omega
theorem zxm:∀{rows:RW},RG rows->(∀k,k+1<rows.length->kd rows k=3->kd rows (k+1)≠2)->NG rows
 |[],_,_=>trivial
 |x::rows,hr,hc=>by
  refine⟨(hr 0 (by simp)).1,λh3 y hy=> ?_,zxm (λk hk=>hr (k+1) (by simpa using hk)) (λk hk=>hc (k+1) (by simpa using hk))⟩;cases rows with
  |nil=>cases hy
  |cons z rows=>
   obtain rfl:=yl0 hy;exact hc 0 (by simp) h3
theorem zw8 (sg:UInt8)(x:PV zh):rowH sg (hd2 x)=false/\hd2 x≠qy/\rowH sg qp=false:=by
 refine⟨?_,?_,?_⟩
 ·unfold rowH hd2
  show(decide _&&((45:UInt8)==32&&_))=false;rw[show((45:UInt8)==32)=false from rfl,ye2,Bool.and_false]
 ·unfold hd2
  intro h;have:=(List.cons.inj h).1;cases this
 ·unfold rowH
  show(decide _&&((42:UInt8)==32&&_))=false;rw[show((42:UInt8)==32)=false from rfl,ye2,Bool.and_false]
theorem qfc {rows:RW}{c:Int}(h:hasK rows c=false):∀x∈rows,(x.1==c)=false:=λx hx=>by
 unfold hasK at h;have:=List.any_eq_false.1 h x hx;simpa using this
theorem zs9 {rows:RW}{c d:Int}(h:hasK rows c=true)(hcd:c≠d):((rows.filter λx=> !(x.1==d)).length==0)=false:=by
 unfold hasK at h;obtain⟨x,hx,hc⟩:=List.any_eq_true.1 h
 have:x∈rows.filter λx=> !(x.1==d):=List.mem_filter.2 ⟨hx,by
  rw[yy0.1 hc,yj1,yo0];exact hcd⟩
 rw[yo0];intro h0;rw[yt0 h0] at this;cases this
def zk0 (r:TX):Prop:=r=[]\/∃t,r=qp::t
theorem zk0.nn {r:TX}(h:zk0 r):NN r/\∀(sg:UInt8),∀l∈r.head?,rowH sg l=false:=by
 rcases h with rfl|⟨t,rfl⟩
 ·exact⟨by unfold NN;simp,λsg l hl=>by cases hl⟩
 ·refine⟨λh=> ?_,λsg l hl=> ?_⟩
  ·have:=yl0 h
   cases this
  ·obtain rfl:=yl0 hl
   exact(zw8 sg (0,(0,([],())))).2.2
theorem halves {x:PV zh}(h:zae x=true){more:TX}(hm:zk0 more):
 zab 45 2 (optL x 2 3++(hd2 x::(optL x 3 2++more))).length (optL x 2 3++(hd2 x::(optL x 3 2++more)))=(bif hasK x.2.2.1 2 then oldR x.2.2.1 else[],hd2 x::(optL x 3 2++more))/\
 zab 43 3 (optL x 3 2++more).length (optL x 3 2++more)=(bif hasK x.2.2.1 3 then newR x.2.2.1 else[],more)/\
 oldH (bif hasK x.2.2.1 2 then oldR x.2.2.1 else[]) (bif hasK x.2.2.1 3 then newR x.2.2.1 else[])=oldR x.2.2.1/\
 newH (bif hasK x.2.2.1 2 then oldR x.2.2.1 else[]) (bif hasK x.2.2.1 3 then newR x.2.2.1 else[])=newR x.2.2.1:=by
 obtain⟨hr,hadj,hch,_⟩:=zl9 h;obtain⟨m1,m2⟩:=hm.nn;refine⟨?_,?_,?_,?_⟩
 ·have hs:∀l∈(hd2 x::(optL x 3 2++more):TX).head?,rowH 45 l=false:=λl hl=>by obtain rfl:=yl0 hl;exact(zw8 45 x).1
  have hn:NN (hd2 x::(optL x 3 2++more)):=λh=>(zw8 45 x).2.1 (yl0 h);unfold optL;cases hasK x.2.2.1 2
  ·exact zun hs _
  ·rw[yb0,yb0]
   have:=zmv (c:=3) (q:=2) (sg:=45) (.inl ⟨rfl,rfl,rfl⟩) hr hn hs (List.length x.2.2.1) 0 (hG x.2.2.1 3 (List.length x.2.2.1) 0++(hd2 x::(optL x 3 2++more))).length (by omega) (by simp);rw[List.drop_zero] at this;exact this
 ·unfold optL
  cases hasK x.2.2.1 3
  ·exact zun (m2 43) _
  ·rw[yb0,yb0]
   have:=zmv (c:=2) (q:=3) (sg:=43) (.inr ⟨rfl,rfl,rfl⟩) hr m1 (m2 43) (List.length x.2.2.1) 0 (hG x.2.2.1 2 (List.length x.2.2.1) 0++more).length (by omega) (by simp);rw[List.drop_zero] at this;exact this
 ·cases h2:hasK x.2.2.1 2
  ·have h3:hasK x.2.2.1 3=true:=by rcases hch with h|h;rw[h2] at h;cases h;exact h
   rw[h3,yd0,yb0];unfold oldH;rw[show(([]:RW).length==0)=true from rfl,yb0];unfold keepR newR oldR;rw[List.filter_filter];refine List.filter_congr λy hy=> ?_;obtain⟨i,hi,rfl⟩:=yu2.1 hy;have hk:=(hr i hi).1;unfold kd at hk;rw[ql hi] at hk;have:=qfc h2 _ hy;rcases hk with hk|hk|hk
   ·rw[hk];rfl
   ·rw[hk] at this;cases this
   ·rw[hk];rfl
  ·rw[yb0]
   unfold oldH oldR;rw[zs9 h2 (by decide),yd0]
 ·cases h2:hasK x.2.2.1 2
  ·have h3:hasK x.2.2.1 3=true:=by rcases hch with h|h;rw[h2] at h;cases h;exact h
   rw[h3];rfl
  ·rw[yb0]
   unfold newH;rw[show((oldR x.2.2.1).length==0)=false from zs9 h2 (by decide),yd0];cases h3:hasK x.2.2.1 3
   ·rw[yd0,show(([]:RW).length==0)=true from rfl,yb0]
    unfold keepR newR oldR;rw[List.filter_filter];refine List.filter_congr λy hy=> ?_;obtain⟨i,hi,rfl⟩:=yu2.1 hy;have hk:=(hr i hi).1;unfold kd at hk;rw[ql hi] at hk;have:=qfc h3 _ hy;rcases hk with hk|hk|hk
    ·rw[hk];rfl
    ·rw[hk];rfl
    ·rw[hk] at this;cases this
   ·rw[yb0,show((newR x.2.2.1).length==0)=false from zs9 h3 (by decide),yd0]
theorem zv3 (rows:RW):(oldR rows).length=(zu rows 3).length:=by unfold oldR zu;rw[yu1]
theorem zv4 (rows:RW):(newR rows).length=(zu rows 2).length:=by unfold newR zu;rw[yu1]
theorem zql {a:Nat}{l:RW}{m:Nat}(h:l.length=m):atH ((numb a m:Nat):Int) l=(a:Int):=by
 unfold atH numb;rw[h];by_cases hm:0<m
 ·rw[yc0 hm,yb0,yx0 hm];omega
 ·rw[yi0 hm,yd0,yw0 hm]
theorem qqh {x:PV zh}(h:zae x=true){more:TX}(hm:zk0 more)(out:GR)(ho:out.length<20)(hn:(scL x++more).length<=3000)(hl:∀l∈scL x++more,l.length<=3000):
 zbl (scL x++more) out=some (.inl (more,out++[x],())):=by
 obtain⟨hr,hadj,hch,⟨a,ea,ha,ha2⟩,⟨b,eb,hb,hb2⟩⟩:=zl9 h;obtain⟨t1,t2,t3,t4⟩:=halves h hm;have e:scL x++more=qp::hd1 x::(optL x 2 3++(hd2 x::(optL x 3 2++more))):=by unfold scL;simp
 have g1:=qa6 (p:=pS1) (q:=qS1) (zp7 (less:=1) ha ha2);have g2:=qa6 (p:=pS2) (q:=qS2) (zp7 (less:=1) hb hb2);have f1:hd1 x=pS1++pairT a (zu x.2.2.1 3).length++qS1:=by unfold hd1;rw[ea,toNat_cast]
 have f2:hd2 x=pS2++pairT b (zu x.2.2.1 2).length++qS2:=by unfold hd2;rw[eb,toNat_cast]
 rw[<-f1] at g1;rw[<-f2] at g2;rw[e] at hl hn ⊢;rw[z8s out (hd1 x) (hd2 x) _ (optL x 3 2++more) more _ _ g1.2 t1 g2.2 t2 (by simp only[yf0] at hn;omega) (λl hl'=>hl l (yg0 _ hl')) ho]
 have:grpH (zbv pS1 qS1 (hd1 x)) (zbv pS2 qS2 (hd2 x)) (bif hasK x.2.2.1 2 then oldR x.2.2.1 else[]) (bif hasK x.2.2.1 3 then newR x.2.2.1 else[])=x:=by
  unfold grpH;rw[t3,t4,g1.1,g2.1,zql (zv3 _),zql (zv4 _),zng x.2.2.1 _ (zxm hr hadj) (ym0 _),<-ea,<-eb];rfl
 rw[this]
theorem qef:∀(gs:GR),zk0 (gs.flatMap scL)
 |[]=>.inl rfl
 |x::gs=>.inr ⟨_,by rw[yv1];unfold scL;rfl⟩
theorem z8t:∀(gs:GR) (out:GR),(∀x∈gs,zae x=true)->out.length+gs.length<=20->(gs.flatMap scL).length<=3000->(∀l∈gs.flatMap scL,l.length<=3000)->zhc (gs.flatMap scL,out,())=some (.inl (out++gs,()))
 |[],out,_,_,_,_=>by rw[yz0];exact zpp rfl
 |x::gs,out,hg,ho,hn,hl=>by
  rw[yv1] at hn hl ⊢;have hs:=qqh (hg x (yk0 ..)) (qef gs) out (by simp at ho;omega) hn hl;have ih:=z8t gs (out++[x]) (λy hy=>hg y (yg0 _ hy)) (by simp at ho ⊢;omega) (by rw[ye0] at hn;omega) (λl hl'=>hl l (yq0 _ hl'));rw[yj0] at ih;exact zv2 hs ih
end R
end

section
/- What the program answers to a text side by side. -/
open Go Go.Dn
namespace R
theorem z8u {a m:Nat}(ha:a<=999)(hm:a+m<=1000):(10:UInt8)∉pairT a m:=λh=>by
 rcases q6e ha hm 10 h with h|h<;>cases h
theorem jag {x:PV zh}(h:zae x=true):isL (hd1 x)/\isL (hd2 x):=by
 obtain⟨_,_,_,⟨a,ea,ha,ha2⟩,⟨b,eb,hb,hb2⟩⟩:=zl9 h;refine⟨⟨pS1++pairT a (zu x.2.2.1 3).length++[32,42,42,42,42],by unfold hd1;rw[ea,toNat_cast];simp,λhm=> ?_⟩,⟨pS2++pairT b (zu x.2.2.1 2).length++[32,45,45,45,45],by unfold hd2;rw[eb,toNat_cast];simp,λhm=> ?_⟩⟩
 ·rcases yu0.1 hm with hm|hm
  ·rcases yu0.1 hm with hm|hm
   ·revert hm;decide
   ·exact z8u ha ha2 hm
  ·revert hm;decide
 ·rcases yu0.1 hm with hm|hm
  ·rcases yu0.1 hm with hm|hm
   ·revert hm;decide
   ·exact z8u hb hb2 hm
  ·revert hm;decide
theorem q6k:isL qp:=⟨[42,42,42,42,42,42,42,42,42,42,42,42,42,42,42],rfl,by decide⟩
theorem q8f {x:PV zh}(h:zae x=true):∀l∈scL x,isL l:=by
 obtain⟨hr,_⟩:=zl9 h;obtain⟨h1,h2⟩:=jag h
 have ho:∀(d c q:Int) (sg:UInt8),SgOk c sg q->∀l∈optL x d c,isL l:=λd c q sg hs l hl=>by
  unfold optL at hl;cases hd:hasK x.2.2.1 d<;>rw[hd] at hl
  ·cases hl
  ·exact qfb hs hr _ 0 (by omega) l hl
 intro l hl;unfold scL at hl;rcases yg1.1 hl with rfl|hl
 ·exact q6k
 rcases yg1.1 hl with rfl|hl
 ·exact h1
 rcases yu0.1 hl with hl|hl
 ·exact ho 2 3 2 45 (.inl ⟨rfl,rfl,rfl⟩) l hl
 rcases yg1.1 hl with rfl|hl
 ·exact h2
 ·exact ho 3 2 3 43 (.inr ⟨rfl,rfl,rfl⟩) l hl
theorem zxn {gs:GR}(hg:jo gs=true):(∀x∈gs,zae x=true)/\gs.length<=20:=by
 refine⟨λx hx=> ?_,?_⟩
 ·obtain⟨i,hi,rfl⟩:=yu2.1 hx
  exact(zga hg hi).1
 ·cases gs with
  |nil=>exact ye1 _
  |cons x gs=>exact(zga hg (i:=0) (by simp)).2
theorem z8v {gs:GR}(hg:jo gs=true):cutP (zam gs)=gs.flatMap scL/\∀l∈gs.flatMap scL,isL l:=by
 have hL:∀l∈gs.flatMap scL,isL l:=λl hl=>by
  obtain⟨x,hx,hl⟩:=List.mem_flatMap.1 hl;exact q8f ((zxn hg).1 x hx) l hl
 have flat:∀gs:GR,(gs.flatMap scL).flatten=zam gs:=by
  intro gs
  induction gs with
  |nil=>rfl
  |cons x gs ih=>
   unfold zam at ih ⊢;rw[yv1,yv1,yb3,ih,q6j]
 refine⟨?_,hL⟩;rw[<-flat gs,zue hL]
theorem zm3 {gs:GR}(hg:jo gs=true)(hl:(zam gs).length<=3000):zjg (cutP (zam gs))=some ((gs,true,()),()):=by
 obtain⟨h1,h2⟩:=zxn hg;have hc:=zil (zam gs);have hm:∀l∈cutP (zam gs),l.length<=3000:=λl h=>by have:=zm0 h;omega
 obtain⟨e,_⟩:=z8v hg;rw[e] at hc hm ⊢;unfold zjg;rw[z8t gs [] h1 (by simpa using h2) (by omega) hm];rfl
theorem zno (s:List UInt8):∃(gs:GR) (c:Int) (q:Bool),zi9 s=some ((gs,c,q,()),())/\
 ((jo gs=true/\zam gs=s/\s.length<=3000/\c=0/\q=true)\/((∀gs,jo gs=true->zam gs=s->s.length<=3000->False)/\gs=[]/\c=1/\q=false)):=by
 unfold zi9;by_cases hs:s.length<=3000
 ·rw[yc0 (by omega:(s.length:Int)<=3000),yb0,qa1 s (by omega),ya0]
  dsimp only;have hc:=zil s;obtain⟨gs,q,e,hsm⟩:=qzn (cutP s) (by omega) (λl h=>by have:=zm0 h;omega);rw[e,ya0];dsimp only;rw[z5r hsm,ya0];dsimp only
  have key:∀gs0,jo gs0=true->zam gs0=s->gs=gs0/\q=true/\stOk gs=true/\stR gs=s:=λgs0 h1 h2=>by
   have:=zm3 h1 (by rw[h2];exact hs);rw[h2,e] at this;have h3:=yl0 this;have h4:=(yk1 h3).1;obtain⟨rfl,h5⟩:=yk1 h4;have h6:=(yk1 h5).1;have h7:stOk gs=true:=by unfold stOk;rw[h1,h2,yc0 hs];rfl
   exact⟨rfl,h6,h7,by unfold stR;rw[h7,yb0,h2]⟩
  by_cases H:q=true/\stOk gs=true/\stR gs=s
  ·obtain⟨h1,h2,h3⟩:=H
   rw[h1,h2,yb0,yb0,h3,ya0];dsimp only;rw[yn1,yb0,ya0];have h2':=h2;unfold stOk at h2';rw[yh0] at h2';refine⟨gs,0,true,rfl,.inl ⟨h2'.1,?_,hs,rfl,rfl⟩⟩;unfold stR at h3;rw[h2,yb0] at h3;exact h3
  ·have hno:∀gs0,jo gs0=true->zam gs0=s->s.length<=3000->False:=λgs0 h1 h2 _=>by
    obtain⟨rfl,h5,h6,h7⟩:=key gs0 h1 h2;exact H ⟨h5,h6,h7⟩
   refine⟨[],1,false,?_,.inr ⟨hno,rfl,rfl,rfl⟩⟩;cases hq:q
   ·rfl
   ·rw[yb0]
    cases ho:stOk gs
    ·rfl
    ·rw[yb0]
     have:(stR gs==s)=false:=by
      rw[yo0];exact λh=>H ⟨hq,ho,h⟩
     rw[this];rfl
 ·rw[yi0 (by omega:¬(s.length:Int)<=3000),yd0,ya0]
  exact⟨[],1,false,rfl,.inr ⟨λ_ _ _ h=>hs h,rfl,rfl,rfl⟩⟩
end R
end

section
/- One group side by side, as the reference reads it. -/
open Go Go.Dn
namespace R
def rangeS (p q l:List UInt8):PVs [.int .i64,.int .i64,.bool]:=
 bif decide (p.length+q.length<=l.length)&&((l.take p.length==p)&&(l.drop (l.length -q.length)==q)) then endR 0 ((l.take (l.length -q.length)).drop p.length) else(0,0,false,())
theorem z8w (p q l:List UInt8):0<=(rangeS p q l).1/\(rangeS p q l).1<=1000:=by
 unfold rangeS;cases decide (p.length+q.length<=l.length)&&((l.take p.length==p)&&(l.drop (l.length -q.length)==q))
 ·exact⟨Int.le_refl _,by show(0:Int)<=1000;decide⟩
 ·exact qcv 0 _
theorem cutI {α:Type}(a b:Nat)(l:List α):cutL (a:Int) (b:Int) l=(l.take b).drop a:=by unfold cutL;rw[toNat_cast,toNat_cast]
theorem zgz {a b n:Nat}(h1:a<=b)(h2:b<=n):cutB (a:Int) (b:Int) n=true:=by unfold cutB;simp;omega
theorem zkl (p q l:List UInt8)(hp:p.length<=100)(hq:q.length<=100)(hl:l.length<=3000):zl2 l p q=some (rangeS p q l,()):=by
 unfold zl2 rangeS;rw[wrap64 (by omega) (by omega)];by_cases h:p.length+q.length<=l.length
 ·rw[yi0 (by omega:¬(l.length:Int)<(p.length:Int)+(q.length:Int)),yd0,yc0 h,yx1]
  have w1:IntKind.wrap .i64 ((l.length:Int) -(q.length:Int))=((l.length -q.length:Nat):Int):=by rw[wrap64 (by omega) (by omega)];omega
  have c1:cutB 0 (p.length:Int) l.length=true:=zgz (a:=0) (ye1 _) (by omega);have e1:cutL 0 (p.length:Int) l=l.take p.length:=by rw[show(0:Int)=((0:Nat):Int) from rfl,cutI];rfl
  have c2:cutB ((l.length -q.length:Nat):Int) (l.length:Int) l.length=true:=zgz (by omega) (ym0 _);have e2:cutL ((l.length -q.length:Nat):Int) (l.length:Int) l=l.drop (l.length -q.length):=by rw[cutI,List.take_length]
  have c3:cutB (p.length:Int) ((l.length -q.length:Nat):Int) l.length=true:=zgz (by omega) (by omega);rw[w1,c1,yb0,e1];cases h1:(l.take p.length==p)
  ·rfl
  ·rw[ys0,yd0,c2,yb0,e2,ya0]
   dsimp only;cases h2:(l.drop (l.length -q.length)==q)
   ·rfl
   ·rw[ys0,yd0,w1,c3,yb0,cutI,q1i _ (by rw[yc1,yr1];omega),ya0]
    rfl
 ·rw[yc0 (by omega:(l.length:Int)<(p.length:Int)+(q.length:Int)),yb0,yi0 h]
  rfl
theorem z8x {p q x:List UInt8}{n m:Int}(h:endR 0 x=(n,m,true,())):rangeS p q (p++x++q)=(n,m,true,()):=by
 have e1:((p++x++q).take p.length==p)=true:=by rw[yj0,List.take_left' rfl];exact yn1 _
 have hl:(p++x++q).length -q.length=(p++x).length:=by rw[show(p++x++q).length=(p++x).length+q.length from ye0];omega
 have e2:((p++x++q).drop ((p++x++q).length -q.length)==q)=true:=by rw[hl,List.drop_left' rfl];exact yn1 _
 unfold rangeS;rw[e1,e2,yc0 (by simp),hl,List.take_left' rfl,List.drop_left' rfl,h];rfl
theorem qfu (n:Int)(m:Nat)(h0:0<=n)(h1:n<=1000):zm1 n (m:Int)=some ((bif decide (0<m) then n -1 else n,()),()):=by
 unfold zm1;rw[wrap64 (by omega) (by omega)];by_cases h:0<m
 ·rw[yc0 (by omega:(m:Int)>0),yc0 h];rfl
 ·rw[yi0 (by omega:¬(m:Int)>0),yi0 h];rfl
def grpS (n m:Int)(rows:RW):PV zh:=(bif decide (0<(zu rows 3).length) then n -1 else n,(bif decide (0<(zu rows 2).length) then m -1 else m,(rows,())))
abbrev G00:PV zh:=(0,(0,(([]:PV zi),())))
theorem zkt:∀(fu:Nat) (o n:LN8),(rwF fu o n).length<=o.length+n.length/\∀r∈rwF fu o n,∃x,(x∈o\/x∈n)/\r.2.1=x.2.1
 |0,o,n=>⟨ye1 _,λr h=>by cases h⟩
 |f+1,[],[]=>⟨ye1 _,λr h=>by cases h⟩
 |f+1,[],y::b=>by
  obtain⟨k1,k2⟩:=zkt f [] b;unfold rwF;cases spB y
  ·refine⟨by simp at k1 ⊢;omega,λr h=> ?_⟩
   rcases yg1.1 h with rfl|h
   ·exact⟨y,.inr (yk0 ..),rfl⟩
   ·obtain⟨x,h1,h2⟩:=k2 r h
    exact⟨x,h1.imp id (yg0 _),h2⟩
  ·refine⟨by simp at k1 ⊢;omega,λr h=> ?_⟩
   obtain⟨x,h1,h2⟩:=k2 r h;exact⟨x,h1.imp id (yg0 _),h2⟩
 |f+1,x::a,[]=>by
  obtain⟨k1,k2⟩:=zkt f a [];unfold rwF;cases spB x
  ·refine⟨by simp at k1 ⊢;omega,λr h=> ?_⟩
   rcases yg1.1 h with rfl|h
   ·exact⟨x,.inl (yk0 ..),rfl⟩
   ·obtain⟨z,h1,h2⟩:=k2 r h
    exact⟨z,h1.imp (yg0 _) id,h2⟩
  ·refine⟨by simp at k1 ⊢;omega,λr h=> ?_⟩
   rcases yg1.1 h with rfl|h
   ·exact⟨x,.inl (yk0 ..),rfl⟩
   ·obtain⟨z,h1,h2⟩:=k2 r h
    exact⟨z,h1.imp (yg0 _) id,h2⟩
 |f+1,x::a,y::b=>by
  unfold rwF;cases spB x
  ·obtain⟨k1,k2⟩:=zkt f a (y::b)
   refine⟨by simp at k1 ⊢;omega,λr h=> ?_⟩;rcases yg1.1 h with rfl|h
   ·exact⟨x,.inl (yk0 ..),rfl⟩
   ·obtain⟨z,h1,h2⟩:=k2 r h
    exact⟨z,h1.imp (yg0 _) id,h2⟩
  ·rw[yb0]
   cases spB y
   ·obtain⟨k1,k2⟩:=zkt f (x::a) b
    refine⟨by simp at k1 ⊢;omega,λr h=> ?_⟩;rcases yg1.1 h with rfl|h
    ·exact⟨y,.inr (yk0 ..),rfl⟩
    ·obtain⟨z,h1,h2⟩:=k2 r h
     exact⟨z,h1.imp id (yg0 _),h2⟩
   ·obtain⟨k1,k2⟩:=zkt f a b
    refine⟨by simp at k1 ⊢;omega,λr h=> ?_⟩;rcases yg1.1 h with rfl|h
    ·exact⟨x,.inl (yk0 ..),rfl⟩
    ·obtain⟨z,h1,h2⟩:=k2 r h
     exact⟨z,h1.imp (yg0 _) (yg0 _),h2⟩
theorem qbe {l:LN8}{x:PV jw}(h:x∈jm l):x∈l:=(List.mem_filter.1 h).1
theorem qcz {o n:LN8}(a b:Bool)(ho:o.length<=3000)(hn:n.length<=3000)(mo:∀x∈o,List.length x.2.1<=3000)(mn:∀x∈n,List.length x.2.1<=3000):(rowsOf o n a b).length<=6000/\∀r∈rowsOf o n a b,List.length r.2.1<=3000:=by
 unfold rowsOf
 have h1:(bif a then jm n else o).length<=3000/\∀x∈(bif a then jm n else o),List.length x.2.1<=3000:=by
  cases a
  ·exact⟨ho,mo⟩
  ·exact⟨yo1 (zmu n) hn,λx hx=>mn x (qbe hx)⟩
 obtain⟨o',ho'⟩:∃o',o'=(bif a then jm n else o):=⟨_,rfl⟩;dsimp only;rw[<-ho'] at h1 ⊢
 have h2:(bif b then jm o' else n).length<=3000/\∀x∈(bif b then jm o' else n),List.length x.2.1<=3000:=by
  cases b
  ·exact⟨hn,mn⟩
  ·exact⟨yo1 (zmu o') h1.1,λx hx=>h1.2 x (qbe hx)⟩
 obtain⟨k1,k2⟩:=zkt (o'.length+(bif b then jm o' else n).length) o' (bif b then jm o' else n);refine⟨by have:=h2.1;have:=h1.1;omega,λr hr=> ?_⟩;obtain⟨x,hx,e⟩:=k2 r hr;rw[e];exact hx.elim (h1.2 x) (h2.2 x)
theorem nat0 (n:Nat):((n:Int)==0)=(n==0):=by
 rw[Bool.eq_iff_iff];simp only[yy0];omega
theorem qc0 {l1 l2:List UInt8}{t1 r2:TX}{n1:Nat}{o w:LN8}{m:Nat}(hA:(rangeS pS1 qS1 l1).2.2.1=true)(hB:je 45 t1.length t1=(o,n1))(hC:t1.drop n1=l2::r2)(hD:(rangeS pS2 qS2 l2).2.2.1=true)(hE:je 43 r2.length r2=(w,m))
 (hn:(qp::l1::t1).length<=3000)(hall:∀l∈qp::l1::t1,1<=l.length/\l.length<=3000):
 zcg (qp::l1::t1)=some ((grpS (rangeS pS1 qS1 l1).1 (rangeS pS2 qS2 l2).1 (rowsOf o w (n1==0) (m==0)),((3+n1+m:Nat):Int),()),()):=by
 have hlen:(qp::l1::t1).length=t1.length+2:=rfl;have hdl:(t1.drop n1).length=r2.length+1:=by rw[hC];rfl
 rw[yc1] at hdl;have m1:∀l∈t1,1<=l.length/\l.length<=3000:=λl hl=>hall l (yg0 _ (yg0 _ hl));have m2:∀l∈l2::r2,l∈t1:=λl hl=>by rw[<-hC] at hl;exact yb2 hl
 have k2:=zih 43 r2.length r2;have k1:=zih 45 t1.length t1;have q1:=zmt 45 t1.length t1 (λl hl=>(m1 l hl).2);have q2:=zmt 43 r2.length r2 (λl hl=>(m1 l (m2 l (yg0 _ hl))).2);rw[hE] at k2 q2;rw[hB] at k1 q1;simp only at k2 k1 q1 q2;obtain⟨w1,w2⟩:=qcz (o:=o) (n:=w) (n1==0) (m==0) (by omega) (by omega) q1 q2;have hsm:SmR (rowsOf o w (n1==0) (m==0)):=⟨by omega,λr hr=>by have:=w2 r hr;omega⟩;obtain⟨u1,u2⟩:=z8w pS1 qS1 l1;obtain⟨v1,v2⟩:=z8w pS2 qS2 l2
 have g2:(qp::l1::t1).getD (2+n1) []=l2:=by
  have:(t1.drop n1)[0]? =some l2:=by rw[hC];rfl
  rw[List.getElem?_drop,Nat.add_zero] at this;rw[yg2,show 2+n1=n1+1+1 by omega,yn2,yn2,this];rfl
 have x2:IntKind.wrap .i64 (2+(n1:Int))=((2+n1:Nat):Int):=by rw[wrap64 (by omega) (by omega)];omega
 have x3:IntKind.wrap .i64 (3+(n1:Int))=((3+n1:Nat):Int):=by rw[wrap64 (by omega) (by omega)];omega
 have x4:IntKind.wrap .i64 (((3+n1:Nat):Int)+(m:Int))=((3+n1+m:Nat):Int):=by rw[wrap64 (by omega) (by omega)];omega
 have c2:cutB 2 ((qp::l1::t1).length:Int) (qp::l1::t1).length=true:=zgz (a:=2) (by rw[hlen];omega) (ym0 _);have e2:cutL 2 ((qp::l1::t1).length:Int) (qp::l1::t1)=t1:=by rw[show(2:Int)=((2:Nat):Int) from rfl,cutI,List.take_length];rfl
 have c3:cutB ((3+n1:Nat):Int) ((qp::l1::t1).length:Int) (qp::l1::t1).length=true:=zgz (by rw[hlen];omega) (ym0 _)
 have e3:cutL ((3+n1:Nat):Int) ((qp::l1::t1).length:Int) (qp::l1::t1)=r2:=by
  rw[cutI,List.take_length,show 3+n1=(n1+1)+1+1 by omega,List.drop_succ_cons,List.drop_succ_cons,<-List.drop_drop,hC];rfl
 have e0:(qp::l1::t1).getD ((0:Int).toNat) []=qp:=rfl;have e1:(qp::l1::t1).getD ((1:Int).toNat) []=l1:=rfl;have i0:inB 0 (qp::l1::t1).length=true:=zq (i:=0) (by rw[hlen];omega);have i1:inB 1 (qp::l1::t1).length=true:=zq (i:=1) (by rw[hlen];omega);have i2:inB ((2+n1:Nat):Int) (qp::l1::t1).length=true:=zq (by rw[hlen];omega);have hl1:=(hall l1 (yg0 _ (yk0 ..))).2;have hl2:=(m1 l2 (m2 l2 (yk0 ..))).2;unfold zcg;rw[yi0 (by rw[hlen];omega:¬((qp::l1::t1).length:Int)<3),yd0,i0,yb0,e0,show(!(qp==qp))=false from rfl,ya0];dsimp only;rw[yd0,i1,yb0,e1,zkl pS1 qS1 l1 (by decide) (by decide) hl1,ya0];dsimp only;rw[c2,yb0,e2,zks 45 t1 (by omega) m1,hB,ya0];dsimp only;rw[hA,ys0,yd0,x2,yi0 (by rw[hlen];omega:¬((2+n1:Nat):Int)>=((qp::l1::t1).length:Int)),ya0];dsimp only;rw[yd0,x2,i2,yb0,toNat_cast,g2,zkl pS2 qS2 l2 (by decide) (by decide) hl2,ya0];dsimp only;rw[x3,c3,yb0,e3,zks 43 r2 (by omega) (λl hl=>m1 l (m2 l (yg0 _ hl))),hE,ya0];dsimp only;rw[hD,ys0,yd0,nat0,nat0,q8e o w _ _ (by omega) (by omega),ya0];dsimp only;rw[znw (g:=(0,(0,(rowsOf o w (n1==0) (m==0),())))) hsm,ya0];dsimp only;rw[qfu _ _ u1 u2,ya0];dsimp only;rw[znx (g:=(_,(0,(rowsOf o w (n1==0) (m==0),())))) hsm,ya0];dsimp only;rw[qfu _ _ v1 v2,ya0];dsimp only;rw[x4];rfl
theorem q4c {L:TX}(hn:L.length<=3000)(hall:∀l∈L,1<=l.length/\l.length<=3000):zcg L=some ((G00,0,()),())\/
 ∃g k,zcg L=some ((g,((k:Nat):Int),()),())/\3<=k/\k<=L.length/\GW g:=by
 by_cases h3:L.length<3
 ·left
  unfold zcg;rw[yc0 (by omega:(L.length:Int)<3),yb0,ya0];rfl
 ·obtain⟨l0,l1,t1,rfl⟩:∃l0 l1 t1,L=l0::l1::t1:=by
   match L,h3 with
   |a::b::c,_=>exact⟨a,b,c,rfl⟩
   |[a],h=>exact absurd (by simp) h
   |[],h=>exact absurd (by simp) h
  ·have hlen:(l0::l1::t1).length=t1.length+2:=rfl
   have e0:(l0::l1::t1).getD ((0:Int).toNat) []=l0:=rfl;have e1:(l0::l1::t1).getD ((1:Int).toNat) []=l1:=rfl;have i0:inB 0 (l0::l1::t1).length=true:=zq (i:=0) (by rw[hlen];omega);have i1:inB 1 (l0::l1::t1).length=true:=zq (i:=1) (by rw[hlen];omega);have d3:decide (((l0::l1::t1).length:Int)<3)=false:=yi0 (by omega);cases hs:(l0==qp)
   ·left
    unfold zcg;rw[d3,yd0,i0,yb0,e0,hs];rfl
   ·obtain rfl:l0=qp:=by simpa using hs
    have m1:∀l∈t1,1<=l.length/\l.length<=3000:=λl hl=>hall l (yg0 _ (yg0 _ hl));have hl1:=(hall l1 (yg0 _ (yk0 ..))).2;have c2:cutB 2 ((qp::l1::t1).length:Int) (qp::l1::t1).length=true:=zgz (a:=2) (by rw[hlen];omega) (ym0 _);have e2:cutL 2 ((qp::l1::t1).length:Int) (qp::l1::t1)=t1:=by rw[show(2:Int)=((2:Nat):Int) from rfl,cutI,List.take_length];rfl
    obtain⟨o,n1,hB⟩:∃o n1,je 45 t1.length t1=(o,n1):=⟨_,_,rfl⟩;have k1:=zih 45 t1.length t1;have q1:=zmt 45 t1.length t1 (λl hl=>(m1 l hl).2);rw[hB] at k1 q1;simp only at k1 q1;have x2:IntKind.wrap .i64 (2+(n1:Int))=((2+n1:Nat):Int):=by rw[wrap64 (by omega) (by omega)];omega
    cases hA:(rangeS pS1 qS1 l1).2.2.1
    ·left
     unfold zcg;rw[d3,yd0,i0,yb0,e0,show(!(qp==qp))=false from rfl,ya0];dsimp only;rw[yd0,i1,yb0,e1,zkl pS1 qS1 l1 (by decide) (by decide) hl1,ya0];dsimp only;rw[c2,yb0,e2,zks 45 t1 (by omega) m1,hB,ya0];dsimp only;rw[hA];rfl
    ·cases hC:t1.drop n1 with
     |nil=>
      have hle:t1.length<=n1:=by
       have:=congrArg List.length hC;rw[yc1,yp0] at this;omega
      left;unfold zcg;rw[d3,yd0,i0,yb0,e0,show(!(qp==qp))=false from rfl,ya0];dsimp only;rw[yd0,i1,yb0,e1,zkl pS1 qS1 l1 (by decide) (by decide) hl1,ya0];dsimp only;rw[c2,yb0,e2,zks 45 t1 (by omega) m1,hB,ya0];dsimp only;rw[hA,ys0,yd0,x2,yc0 (by rw[hlen];omega:((2+n1:Nat):Int)>=((qp::l1::t1).length:Int)),ya0];rfl
     |cons l2 r2=>
      have hdl:(t1.drop n1).length=r2.length+1:=by rw[hC];rfl
      rw[yc1] at hdl;have m2:∀l∈l2::r2,l∈t1:=λl hl=>by rw[<-hC] at hl;exact yb2 hl
      obtain⟨w,m,hE⟩:∃w m,je 43 r2.length r2=(w,m):=⟨_,_,rfl⟩;have k2:=zih 43 r2.length r2;have q2:=zmt 43 r2.length r2 (λl hl=>(m1 l (m2 l (yg0 _ hl))).2);rw[hE] at k2 q2;simp only at k2 q2;have hl2:=(m1 l2 (m2 l2 (yk0 ..))).2;cases hD:(rangeS pS2 qS2 l2).2.2.1
      ·left
       have g2:(qp::l1::t1).getD (2+n1) []=l2:=by
        have:(t1.drop n1)[0]? =some l2:=by rw[hC];rfl
        rw[List.getElem?_drop,Nat.add_zero] at this;rw[yg2,show 2+n1=n1+1+1 by omega,yn2,yn2,this];rfl
       have i2:inB ((2+n1:Nat):Int) (qp::l1::t1).length=true:=zq (by rw[hlen];omega);have x3:IntKind.wrap .i64 (3+(n1:Int))=((3+n1:Nat):Int):=by rw[wrap64 (by omega) (by omega)];omega
       have c3:cutB ((3+n1:Nat):Int) ((qp::l1::t1).length:Int) (qp::l1::t1).length=true:=zgz (by rw[hlen];omega) (ym0 _)
       have e3:cutL ((3+n1:Nat):Int) ((qp::l1::t1).length:Int) (qp::l1::t1)=r2:=by
        rw[cutI,List.take_length,show 3+n1=(n1+1)+1+1 by omega,List.drop_succ_cons,List.drop_succ_cons,<-List.drop_drop,hC];rfl
       unfold zcg;rw[d3,yd0,i0,yb0,e0,show(!(qp==qp))=false from rfl,ya0];dsimp only;rw[yd0,i1,yb0,e1,zkl pS1 qS1 l1 (by decide) (by decide) hl1,ya0];dsimp only;rw[c2,yb0,e2,zks 45 t1 (by omega) m1,hB,ya0];dsimp only;rw[hA,ys0,yd0,x2,yi0 (by rw[hlen];omega:¬((2+n1:Nat):Int)>=((qp::l1::t1).length:Int)),ya0];dsimp only;rw[yd0,x2,i2,yb0,toNat_cast,g2,zkl pS2 qS2 l2 (by decide) (by decide) hl2,ya0];dsimp only;rw[x3,c3,yb0,e3,zks 43 r2 (by omega) (λl hl=>m1 l (m2 l (yg0 _ hl))),hE,ya0];dsimp only;rw[hD];rfl
      ·right
       obtain⟨w1,w2⟩:=qcz (o:=o) (n:=w) (n1==0) (m==0) (by omega) (by omega) q1 q2;exact⟨_,3+n1+m,qc0 hA hB hC hD hE hn hall,by omega,by rw[hlen];omega,by show(rowsOf o w (n1==0) (m==0)).length<=10000;omega,w2⟩
end R
end

section
/- What the reference answers to a text side by side. -/
open Go Go.Dn
namespace R
def zbd (c:Int)(x:PV jw):PV zo:=mkRow (bif spB x then 1 else c) x.2.1
theorem zkb {c:Int}{x:PV jw}(hc:(c==1)=false):((zbd c x).1==1)=spB x:=by
 show((bif spB x then(1:Int) else c)==1)=spB x;cases spB x
 ·exact hc
 ·rfl
theorem qfd {l:List UInt8}(h:isL l):(l.length=2->l.getD 1 0=10)/\(3<=l.length->endP (l.drop 2)=true):=by
 obtain⟨t,rfl,ht⟩:=h;refine⟨λh2=> ?_,λh3=> ?_⟩
 ·obtain⟨a,rfl⟩:=yc3.1 (by simpa using h2:t.length=1)
  rfl
 ·rw[ye0,ya3] at h3
  rw[List.drop_append_of_le_length (by omega),zb0 (by simp)];decide
theorem qfv (sg:UInt8){l:List UInt8}(h:isL l):rowS sg l=rowH sg l:=by
 have hcon:([32,sg,33]:List UInt8).contains (l.getD 0 0)=([32,33,sg]:List UInt8).contains (l.getD 0 0):=by
  simp only[List.contains_cons,List.contains_nil,Bool.or_false];cases(l.getD 0 0==32)<;>cases(l.getD 0 0==sg)<;>cases(l.getD 0 0==33)<;>rfl
 unfold rowS rowH;rw[hcon];by_cases h3:3<=l.length
 ·rw[yc0 h3,yc0 (by omega:1<l.length),yx1,yx1,Bool.and_comm]
 ·rw[yi0 h3,ye2,Bool.and_false]
  by_cases h1:1<l.length
  ·rw[(qfd h).1 (by omega),show((10:UInt8)==32)=false from rfl,ye2,Bool.and_false]
  ·rw[yi0 h1,ye2]
theorem q6l {sg:UInt8}{l:List UInt8}(h:isL l)(hr:rowH sg l=true):3<=l.length:=by
 rw[<-qfv sg h] at hr;unfold rowS at hr;simp only[yh0,yr0] at hr;exact hr.2.1
theorem q6m {sg:UInt8}{q:Int}{l:List UInt8}(ls:TX)(h:isL l)(hr:rowH sg l=true):zbd q (mkL8 l ls)=mkRow (kdH q l) (jf (l.drop 2) ls):=by
 have he:=(qfd h).2 (q6l h hr);have e1:spB (mkL8 l ls)=(l.getD 0 0==32):=b32 _
 have e2:lineS (l.drop 2) ls=jf (l.drop 2) ls:=by
  unfold lineS jf zbh;rw[he,yb0]
 unfold zbd kdH;rw[e1];show mkRow _ (lineS (l.drop 2) ls)=_;rw[e2]
theorem zwj (sg:UInt8)(q:Int):∀(fu:Nat) (ls:TX),(∀l∈ls,isL l)->(je sg fu ls).1.map (zbd q)=(zab sg q fu ls).1/\(zab sg q fu ls).2=ls.drop (je sg fu ls).2
 |0,ls,_=>⟨rfl,rfl⟩
 |_+1,[],_=>⟨rfl,rfl⟩
 |fu+1,l::ls,hl=>by
  have h:=hl l (yk0 ..);obtain⟨k1,k2⟩:=zwj sg q fu (jg ls) (λx hx=>hl x (yg0 _ (zgb hx)));obtain⟨u,hu,hu2⟩:=zu9 ls;unfold je zab;rw[qfv sg h];cases hr:rowH sg l
  ·exact⟨rfl,rfl⟩
  ·rw[yb0,yb0]
   refine⟨?_,?_⟩
   ·rw[List.map_cons,q6m ls h hr,k1]
   ·dsimp only
    rw[k2,<-hu2,show u.length+1+(je sg fu (jg ls)).2=(u.length+(je sg fu (jg ls)).2)+1 by omega,List.drop_succ_cons,<-List.drop_drop];congr 1
    conv=>rhs;rw[hu]
    rw[List.drop_left]
theorem zk1:∀(fu:Nat) (o n:LN8) (r:RW),mg fu (o.map (zbd 2)) (n.map (zbd 3))=some r->rwF fu o n=r
 |0,o,n,r,h=>yl0 h
 |f+1,[],[],r,h=>yl0 h
 |f+1,[],y::b,r,h=>by
  simp only[List.map_nil,List.map_cons,mg,zkb (c:=3) (x:=y) rfl] at h;unfold rwF;cases hy:spB y<;>rw[hy] at h
  ·obtain⟨r',h1,rfl⟩:=yk2.1 h
   rw[yd0,zk1 f [] b r' h1];unfold zbd;rw[hy];rfl
  ·cases h
 |f+1,x::a,[],r,h=>by
  simp only[List.map_nil,List.map_cons,mg,zkb (c:=2) (x:=x) rfl] at h;unfold rwF;cases hx:spB x<;>rw[hx] at h
  ·obtain⟨r',h1,rfl⟩:=yk2.1 h
   rw[yd0,zk1 f a [] r' h1];unfold zbd;rw[hx];rfl
  ·cases h
 |f+1,x::a,y::b,r,h=>by
  simp only[List.map_cons,mg,zkb (c:=2) (x:=x) rfl,zkb (c:=3) (x:=y) rfl] at h;unfold rwF;cases hx:spB x<;>rw[hx] at h
  ·obtain⟨r',h1,rfl⟩:=yk2.1 h
   rw[yd0,zk1 f a (y::b) r' h1];unfold zbd;rw[hx];rfl
  ·rw[yb0] at h ⊢
   cases hy:spB y<;>rw[hy] at h
   ·obtain⟨r',h1,rfl⟩:=yk2.1 h
    rw[yd0,zk1 f (x::a) b r' h1];unfold zbd;rw[hy];rfl
   ·obtain⟨r',h1,rfl⟩:=yk2.1 h
    rw[yb0,zk1 f a b r' h1];unfold zbd;rw[hx];rfl
theorem zv5 (c d:Int)(hd:(d==1)=false):∀(l:LN8),(jm l).map (zbd c)=keepR (l.map (zbd d))
 |[]=>rfl
 |x::l=>by
  have ih:=zv5 c d hd l;unfold jm keepR at ih ⊢;rw[List.map_cons];cases h:spB x
  ·rw[List.filter_cons_of_neg (by rw[h];simp),List.filter_cons_of_neg (by rw[zkb hd,h];simp),ih]
  ·rw[yw2 h,yw2 (by rw[zkb hd,h]),List.map_cons,ih]
   unfold zbd;rw[h];rfl
theorem q4d {o w:LN8}{n1 m:Nat}{rows:RW}(h1:n1=0↔o=[])(h2:m=0↔w=[])(ho:oldH (o.map (zbd 2)) (w.map (zbd 3))=oldR rows)(hn:newH (o.map (zbd 2)) (w.map (zbd 3))=newR rows)(hr:NG rows):rowsOf o w (n1==0) (m==0)=rows:=by
 have key:∀(o' n':LN8),o'.map (zbd 2)=oldR rows->n'.map (zbd 3)=newR rows->rwF (o'.length+n'.length) o' n'=rows:=λo' n' e1 e2=>by
  refine zk1 _ o' n' rows ?_;rw[e1,e2];refine zng rows _ hr ?_;rw[<-e1,<-e2,yu1,yu1];exact ym0 _
 unfold rowsOf;unfold oldH at ho;unfold newH at hn;rw[yu1] at ho hn;rw[yu1] at hn
 have z1:(n1==0)=(o.length==0):=by
  rw[Bool.eq_iff_iff,yy0,yy0,h1,List.length_eq_zero_iff]
 have z2:(m==0)=(w.length==0):=by
  rw[Bool.eq_iff_iff,yy0,yy0,h2,List.length_eq_zero_iff]
 rw[z1,z2];cases q1:(o.length==0)<;>rw[q1] at ho hn
 ·rw[yd0] at ho hn
  cases q2:(w.length==0)<;>rw[q2] at hn
  ·exact key o w ho hn
  ·rw[yb0] at hn
   exact key o (jm o) ho (by rw[zv5 3 2 rfl];exact hn)
 ·rw[yb0] at ho hn
  cases q2:(w.length==0)
  ·exact key (jm w) w (by rw[zv5 2 3 rfl];exact ho) hn
  ·have hw:w=[]:=List.length_eq_zero_iff.1 (yy0.1 q2)
   subst hw;exact key [] [] ho hn
theorem qtb {x:PV zh}(h:zae x=true){more:TX}(hm:zk0 more)(hL:∀l∈scL x++more,isL l)(hn:(scL x++more).length<=3000)(hl:∀l∈scL x++more,1<=l.length/\l.length<=3000):
 ∃k:Nat,zcg (scL x++more)=some ((x,(k:Int),()),())/\3<=k/\k<=(scL x++more).length/\(scL x++more).drop k=more:=by
 obtain⟨hr,hadj,hch,⟨a,ea,ha,ha2⟩,⟨b,eb,hb,hb2⟩⟩:=zl9 h;obtain⟨t1,t2,t3,t4⟩:=halves h hm;have e:scL x++more=qp::hd1 x::(optL x 2 3++(hd2 x::(optL x 3 2++more))):=by unfold scL;simp
 have g1:=z8x (p:=pS1) (q:=qS1) (zp7 (less:=0) ha ha2);have g2:=z8x (p:=pS2) (q:=qS2) (zp7 (less:=0) hb hb2);have f1:hd1 x=pS1++pairT a (zu x.2.2.1 3).length++qS1:=by unfold hd1;rw[ea,toNat_cast]
 have f2:hd2 x=pS2++pairT b (zu x.2.2.1 2).length++qS2:=by unfold hd2;rw[eb,toNat_cast]
 rw[<-f1] at g1;rw[<-f2] at g2;rw[e] at hL hn hl ⊢;obtain⟨T1,hT1⟩:∃T1,T1=optL x 2 3++(hd2 x::(optL x 3 2++more)):=⟨_,rfl⟩;obtain⟨R2,hR2⟩:∃R2,R2=optL x 3 2++more:=⟨_,rfl⟩;rw[<-hT1] at t1 hL hn hl ⊢;rw[<-hR2] at t1 t2;have LT:∀l∈T1,isL l:=λl hl'=>hL l (yg0 _ (yg0 _ hl'));obtain⟨o,n1,hB⟩:∃o n1,je 45 T1.length T1=(o,n1):=⟨_,_,rfl⟩;obtain⟨s1,s2⟩:=zwj 45 2 T1.length T1 LT;rw[hB,t1] at s1 s2;simp only at s1 s2;have LR:∀l∈R2,isL l:=λl hl'=>LT l (yb2 (i:=n1) (by rw[<-s2];exact yg0 _ hl'));obtain⟨w,m,hE⟩:∃w m,je 43 R2.length R2=(w,m):=⟨_,_,rfl⟩;obtain⟨s3,s4⟩:=zwj 43 3 R2.length R2 LR;rw[hE,t2] at s3 s4;simp only at s3 s4;have k1:=(zih 45 T1.length T1);have k2:=(zih 43 R2.length R2);rw[hB] at k1;rw[hE] at k2;simp only at k1 k2;have hone:=qc0 (l1:=hd1 x) (l2:=hd2 x) (t1:=T1) (r2:=R2) (by rw[g1]) hB s2.symm (by rw[g2]) hE hn hl;have hrows:rowsOf o w (n1==0) (m==0)=x.2.2.1:=q4d k1.2.2 k2.2.2 (by rw[s1,s3];exact t3) (by rw[s1,s3];exact t4) (zxm hr hadj)
 have hgrp:grpS (rangeS pS1 qS1 (hd1 x)).1 (rangeS pS2 qS2 (hd2 x)).1 (rowsOf o w (n1==0) (m==0))=x:=by
  unfold grpS;rw[hrows,g1,g2];have q1:=zql (a:=a) (zv3 x.2.2.1);have q2:=zql (a:=b) (zv4 x.2.2.1);unfold atH at q1 q2;rw[zv3] at q1;rw[zv4] at q2;show((bif decide (0<(zu x.2.2.1 3).length) then((numb a (zu x.2.2.1 3).length:Nat):Int) -1 else((numb a (zu x.2.2.1 3).length:Nat):Int)),((bif decide (0<(zu x.2.2.1 2).length) then((numb b (zu x.2.2.1 2).length:Nat):Int) -1 else((numb b (zu x.2.2.1 2).length:Nat):Int)),(x.2.2.1,())))=x;rw[q1,q2,<-ea,<-eb]
 rw[hgrp] at hone;have hd1':(T1.drop n1).length=R2.length+1:=by rw[<-s2];rfl
 rw[yc1] at hd1';refine⟨3+n1+m,hone,by omega,by simp only[yf0];omega,?_⟩;rw[show 3+n1+m=(n1+(1+m))+1+1 by omega,List.drop_succ_cons,List.drop_succ_cons,<-List.drop_drop,<-s2,<-List.drop_drop];exact s4.symm
noncomputable abbrev BX (d:PV .str×PV zf×PV zk×Unit):=zfp d.1 d.2.1 d.2.2.1
theorem z8y {t0:List UInt8}{ls:TX}{out:GR}{g:PV zh}{k:Nat}(h:zcg ls=some ((g,(k:Int),()),()))(h3:3<=k)(hk:k<=ls.length)(ho:out.length<=10000):zfp t0 ls out=some (.inl (t0,ls.drop k,out++[g],())):=by
 unfold zfp;rw[yc0 (by omega:(ls.length:Int)>0),yb0,h,ya0];dsimp only;rw[show((k:Int)==0)=false from yo0.2 (by omega),yd0,jc (by simp;omega),yb0,zgz hk (ym0 _),yb0,cutI,List.take_length]
theorem zv6 {t0:List UInt8}{ls ls':TX}{out out':GR}{r}(h:zfp t0 ls out=some (.inl (t0,ls',out',())))(h2:zfq (t0,ls',out',())=some r):zfq (t0,ls,out,())=some r:=
 Eq.trans (zal (B:=BX) (s:=(t0,ls,out,())) (t:=(t0,ls',out',())) h) h2
theorem zpq {t0:List UInt8}{ls:TX}{out:GR}{r}(h:zfp t0 ls out=some (.inr r)):zfq (t0,ls,out,())=some r:=jh (B:=BX) (s:=(t0,ls,out,())) h
theorem q1o (t0:List UInt8):∀(n:Nat) (ls:TX) (out:GR),ls.length<=n->ls.length<=3000->(∀l∈ls,1<=l.length/\l.length<=3000)->out.length+ls.length<=6000->(∀x∈out,GW x)->
 (∃(gs:GR),gs.length<=6000/\(∀x∈gs,GW x)/\zfq (t0,ls,out,())=some (.inl (t0,gs,())))\/zfq (t0,ls,out,())=some (.inr ([],1,false,())):=by
 intro n
 induction n with
 |zero=>
  intro ls out h _ _ ho hg;obtain rfl:ls=[]:=yt0 (by omega);exact .inl ⟨out,by omega,hg,zpq rfl⟩
 |succ n ih=>
  intro ls out h h1 hm ho hg;by_cases hne:ls=[]
  ·subst hne
   exact .inl ⟨out,by omega,hg,zpq rfl⟩
  ·have hpos:0<ls.length:=yq2.2 hne
   rcases q4c h1 hm with e|⟨g,k,e,k3,kl,hw⟩
   ·refine .inr (zpq ?_)
    unfold zfp;rw[yc0 (by omega:(ls.length:Int)>0),yb0,e];rfl
   ·have hs:=z8y (t0:=t0) (out:=out) e k3 kl (by omega)
    rcases ih (ls.drop k) (out++[g]) (by rw[yc1];omega) (by rw[yc1];omega) (λl hl=>hm l (yb2 hl)) (by rw[ye0,yc1,ya3];omega) (λx hx=>by
     rcases yu0.1 hx with hx|hx
     ·exact hg x hx
     ·obtain rfl:=yl1.1 hx
      exact hw) with⟨gs,q1,q2,q3⟩|q
    ·exact .inl ⟨gs,q1,q2,zv6 hs q3⟩
    ·exact .inr (zv6 hs q)
theorem z8z (t0:List UInt8):∀(gs:GR) (out:GR),(∀x∈gs,zae x=true)->out.length+gs.length<=20->(∀l∈gs.flatMap scL,isL l)->(gs.flatMap scL).length<=3000->(∀l∈gs.flatMap scL,1<=l.length/\l.length<=3000)->
 zfq (t0,gs.flatMap scL,out,())=some (.inl (t0,out++gs,()))
 |[],out,_,_,_,_,_=>by rw[yz0];exact zpq rfl
 |x::gs,out,hg,ho,hL,hn,hl=>by
  rw[yv1] at hL hn hl ⊢;obtain⟨k,e,k3,kl,hd⟩:=qtb (hg x (yk0 ..)) (qef gs) hL hn hl;have hs:=z8y (t0:=t0) (out:=out) e k3 kl (by omega);rw[hd] at hs;have ih:=z8z t0 gs (out++[x]) (λy hy=>hg y (yg0 _ hy)) (by simp at ho ⊢;omega) (λl hl'=>hL l (yq0 _ hl')) (by rw[ye0] at hn;omega) (λl hl'=>hl l (yq0 _ hl'));rw[yj0] at ih;exact zv6 hs ih
theorem zw9 (s:List UInt8):∃(gs:GR) (c:Int) (q:Bool),zli s=some ((gs,c,q,()),())/\
 ((jo gs=true/\zam gs=s/\s.length<=3000/\c=0/\q=true)\/((∀gs,jo gs=true->zam gs=s->s.length<=3000->False)/\gs=[]/\c=1/\q=false)):=by
 unfold zli;by_cases hs:s.length<=3000
 ·rw[yi0 (by omega:¬(s.length:Int)>3000),yd0,qeb s (by omega),ya0]
  dsimp only;have hc:=zil s;have hall:∀l∈cutP s,1<=l.length/\l.length<=3000:=λl h=>⟨yq2.2 (zne h),by have:=zm0 h;omega⟩
  have key:∀gs0,jo gs0=true->zam gs0=s->zfq (s,cutP s,[],())=some (.inl (s,gs0,())):=λgs0 h1 h2=>by
   obtain⟨g1,g2⟩:=zxn h1;obtain⟨e,hL⟩:=z8v h1;rw[h2] at e;rw[e] at hc hall ⊢;exact z8z s gs0 [] g1 (by simpa using g2) hL (by omega) hall
  rcases q1o s (cutP s).length (cutP s) [] (ym0 _) (by omega) hall (by simp;omega) (λx hx=>by cases hx) with⟨gs,q1,q2,q3⟩|q
  ·rw[q3,ya0]
   have hsm:=GW.smG (by omega) q2;dsimp only;rw[zqi hsm,ya0];dsimp only
   have same:∀gs0,jo gs0=true->zam gs0=s->gs=gs0:=λgs0 h1 h2=>by
    have:=key gs0 h1 h2;rw[q3] at this;have h3:=Sum.inl.inj (yl0 this);exact(yk1 (yk1 h3).2).1
   cases hg:jo gs
   ·refine⟨[],1,false,rfl,.inr ⟨λgs0 h1 h2 _=> ?_,rfl,rfl,rfl⟩⟩
    rw[same gs0 h1 h2,h1] at hg;cases hg
   ·rw[ys0,yd0,ztq hsm hg,ya0]
    dsimp only;rw[ya0];dsimp only;cases ht:(zam gs==s)
    ·refine⟨[],1,false,rfl,.inr ⟨λgs0 h1 h2 _=> ?_,rfl,rfl,rfl⟩⟩
     rw[same gs0 h1 h2,h2] at ht;simp at ht
    ·exact⟨gs,0,true,rfl,.inl ⟨hg,yy0.1 ht,hs,rfl,rfl⟩⟩
  ·rw[q,ya0]
   refine⟨[],1,false,rfl,.inr ⟨λgs0 h1 h2 _=> ?_,rfl,rfl,rfl⟩⟩;have:=key gs0 h1 h2;rw[q] at this;cases this
 ·rw[yc0 (by omega:(s.length:Int)>3000),yb0]
  exact⟨[],1,false,rfl,.inr ⟨λ_ _ _ h=>hs h,rfl,rfl,rfl⟩⟩
theorem qwn (s:List UInt8):∃(gs:GR) (c:Int) (q:Bool),zi9 s=some ((gs,c,q,()),())/\zli s=some ((gs,c,q,()),())/\(jo gs=true\/gs=[]):=by
 obtain⟨g1,c1,q1,e1,h1⟩:=zno s;obtain⟨g2,c2,q2,e2,h2⟩:=zw9 s;rcases h1 with⟨a1,a2,a3,rfl,rfl⟩|⟨a1,rfl,rfl,rfl⟩
 ·rcases h2 with⟨b1,b2,_,rfl,rfl⟩|⟨b1,_⟩
  ·have r1:=zm3 a1 (by rw[a2];exact a3)
   have r2:=zm3 b1 (by rw[b2];exact a3);rw[a2] at r1;rw[b2,r1] at r2;have:g1=g2:=(yk1 (yk1 (yl0 r2)).1).1;subst this;exact⟨g1,0,true,e1,e2,.inl a1⟩
  ·exact(b1 g1 a1 a2 a3).elim
 ·rcases h2 with⟨b1,b2,b3,_⟩|⟨_,rfl,rfl,rfl⟩
  ·exact(a1 g2 b1 b2 b3).elim
  ·exact⟨[],1,false,e1,e2,.inr rfl⟩
end R
end

section
/- Numbers, ranges and rows as texts: both sides write the same. -/
open Go Go.Dn
namespace R.U
theorem zq4 (a m:Nat)(ha:a<=10000)(hm:m<=10000):ze5 (a:Int) (m:Int)=some ((xw a m,()),()):=by
 have hn:=zkq (m:=m) ha;have h1:=zcm (numb a m) (by omega);have h2:=zcm m (by omega);unfold ze5;rw[qcp a m ha,ya0];dsimp only;rw[zru _ (by omega),ya0,zru m (by omega),ya0];dsimp only;unfold xw;by_cases h:m=1
 ·rw[show((m:Int)==1)=true from by rw[yy0];omega,yx0 h];rfl
 ·rw[show((m:Int)==1)=false from by rw[yo0];omega,yw0 h,yb1,yb0,yc0 (by simp only[yf0,yp0];omega),yb0,yc0 (by simp only[ye0,yf0,yp0];omega),yb0];rfl
theorem zw7 {k:Int}(h:k=1\/k=2\/k=3):zpi k=some ((zbu k,()),()):=by
 unfold zpi;rw[(zir h).1];rfl
theorem q1p {rows:RW}(hl:rows.length<=80)(hr:∀r∈rows,zny r):zf2 rows=some ((za6 rows,()),()):=by
 have hf:=za8 (B:=λd=>zcv d.1 d.2.1 d.2.2.1 d.2.2.2.1) rows (λa r=>a++rowT r) (λa i=>(a,rows,(rows.length:Int),(i:Int),())) (λa=>(a,())) (λi a=>a.length<=39*i)
  (λi hi a hI=>by
    have hx:=hr _ (ym1 hi);have ht:=zvx hx;refine⟨by rw[ye0];omega,?_⟩;show zcv a rows rows.length i=_;unfold zcv;rw[yc0 (by omega:(i:Int)<(rows.length:Int)),yb0,zq hi,yb0,toNat_cast,ql hi,qe0 hx.1,ya0,q7x _ _ (by show(zbu rows[i].1).length<=_;have:=(zir hx.1).2;omega) (by have:=hx.2.2;omega),ya0];dsimp only;rw[show zbg (zbu rows[i].1) rows[i].2.1=rowT rows[i] from rfl,yc0 (by omega),yb0,wrap64 (by omega) (by omega)];rfl)
  (λa _=>by
    show zcv a rows rows.length rows.length=_;unfold zcv;rw[yi0 (yi1 _),yd0]) [] (ye1 _)
 unfold zf2;rw[show zss ([],rows,(rows.length:Int),0,())=_ from hf.1,ya0,zf9];rfl
theorem qzo {rows:RW}(hl:rows.length<=80)(hr:∀r∈rows,zny r)(t3:List UInt8)(ht3:t3.length<=1000000)(t8:PV zk)(t9 t10:Int):
 z4i (t3,t8,t9,t10,rows,(rows.length:Int),0,())=some (t3++za6 rows,t8,t9,t10,()):=by
 have hf:=za8 (B:=λd=>zhm d.1 d.2.1 d.2.2.1 d.2.2.2.1 d.2.2.2.2.1 d.2.2.2.2.2.1 d.2.2.2.2.2.2.1) rows (λa r=>a++rowT r) (λa i=>(a,t8,t9,t10,rows,(rows.length:Int),(i:Int),())) (λa=>(a,t8,t9,t10,())) (λi a=>a.length<=1000000+39*i)
  (λi hi a hI=>by
    have hx:=hr _ (ym1 hi);have ht:=zvx hx;refine⟨by rw[ye0];omega,?_⟩;show zhm a t8 t9 t10 rows rows.length i=_;unfold zhm;rw[yc0 (by omega:(i:Int)<(rows.length:Int)),yb0,zq hi,yb0,toNat_cast,ql hi,zw7 hx.1,ya0,q7w _ _ (by show(zbu rows[i].1).length<=_;have:=(zir hx.1).2;omega) hx.2.1 (by have:=hx.2.2;omega),ya0];dsimp only;rw[show zbg (zbu rows[i].1) rows[i].2.1=rowT rows[i] from rfl,yc0 (by omega),yb0,wrap64 (by omega) (by omega)];rfl)
  (λa _=>by
    show zhm a t8 t9 t10 rows rows.length rows.length=_;unfold zhm;rw[yi0 (yi1 _),yd0]) t3 ht3
 rw[zf9] at hf;exact hf.1
theorem zta {g:GR}(hs:SmG g)(hg:jo g=true):zjt g=some ((zak g,()),()):=by
 have hl:=hs.1
 have hf:=za8 (B:=λd=>zhn d.1 d.2.1 d.2.2.1 d.2.2.2.1) g (λa x=>a++zdj x) (λa i=>(a,g,(g.length:Int),(i:Int),())) (λa=>(a,())) (λi a=>a.length<=3220*i)
  (λi hi a hI=>by
    have hm:=hs.2 _ (ym1 hi);obtain⟨hx,h20⟩:=zga hg hi;have ht:=z8p hx;obtain⟨⟨p,ep,hp⟩,⟨q,eq,hq⟩,h3,h4⟩:=zf4 hx;obtain⟨r1,r2⟩:=zky hx;refine⟨by rw[ye0];omega,?_⟩;show zhn a g g.length i=_;unfold zhn;have c1:=zdx (a:=p) (m:=(zu g[i].2.2.1 3).length) (by omega) (by omega);have c2:=zdx (a:=q) (m:=(zu g[i].2.2.1 2).length) (by omega) (by omega);have hh:=zu3 hx;have hr:=zu1 r1 r2;rw[yc0 (by omega:(i:Int)<(g.length:Int)),yb0,zq hi,yb0,toNat_cast,ql hi,znw hm,ya0,znx hm];dsimp only;rw[ep,zq4 p _ (by omega) (by omega),ya0,ya0];dsimp only;rw[eq,zq4 q _ (by omega) (by omega),ya0];dsimp only;rw[yc0 (by simp only[yf0,yp0];omega),yb0,yc0 (by simp only[ye0,yf0,yp0];omega),yb0,yc0 (by simp only[ye0,yf0,yp0];omega),yb0,yc0 (by simp only[ye0,yf0,yp0];omega),yb0]
    have e:((([64,64,32,45]++xw p (zu g[i].2.2.1 3).length)++[32,43])++xw q (zu g[i].2.2.1 2).length)++[32,64,64,10]=zct g[i]:=by
     unfold zct;rw[ep,eq,toNat_cast,toNat_cast]
    rw[e,yc0 (by omega),yb0,qzo r1 r2 _ (by rw[ye0];omega),ya0];dsimp only;rw[wrap64 (by omega) (by omega),yj0];rfl)
  (λa _=>by
    show zhn a g g.length g.length=_;unfold zhn;rw[yi0 (yi1 _),yd0]) [] (ye1 _)
 unfold zjt;rw[show z4j ([],g,(g.length:Int),0,())=_ from hf.1,ya0,zf9];rfl
end R.U
end

section
/- Texts cut: what the leaves of both sides answer. -/
open Go Go.Dn
namespace R.U
theorem qeg (s:List UInt8)(h1:1<=s.length)(hs:s.length<=100000):zo5 s=some ((zbh s,()),()):=by
 unfold zo5 zbh;rw[zix s h1 (by omega),ya0];dsimp only;cases h:endP s
 ·rfl
 ·rw[yb0,yb0,wrap64 (by omega) (by omega),show(s.length:Int) -1=((s.length -1:Nat):Int) by omega]
  rw[show cutB 0 ((s.length -1:Nat):Int) s.length=true from by unfold cutB;simp,yb0];unfold cutL;simp
end R.U
end

section
/- Numbers and counts, as both sides read them. -/
open Go Go.Dn
namespace R.U
theorem zwk (a b:Int):zpd a b=some ((decide (0<=a/\a<=999/\0<=b/\b<=999),()),()):=by
 unfold zpd;rw[in_I,in_I,ya0];dsimp only;by_cases h:0<=a/\a<=999
 ·rw[show(decide (a>=0)&&decide (a<=999))=true from by rw[yc0 (by omega:a>=0),yc0 (by omega:a<=999)];rfl,yb0,ya0]
  dsimp only
  have e:(decide (b>=0)&&decide (b<=999))=decide (0<=a/\a<=999/\0<=b/\b<=999):=by
   rw[Bool.eq_iff_iff,yh0,yr0,yr0,yr0];omega
  rw[e]
 ·rw[show(decide (a>=0)&&decide (a<=999))=false from by rw[Bool.and_eq_false_iff,decide_eq_false_iff_not,decide_eq_false_iff_not];omega,yd0,yi0 (by omega)]
theorem zwl (a b:Int):zo6 a b=some ((decide (0<=a/\a<=999/\0<=b/\b<=999),()),()):=by
 unfold zo6;rw[in_S,in_S,ya0];dsimp only;by_cases h:0<=a/\a<=999
 ·rw[show(decide (a>=0)&&decide (a<=999))=true from by rw[yc0 (by omega:a>=0),yc0 (by omega:a<=999)];rfl,yb0,ya0]
  dsimp only
  have e:(decide (b>=0)&&decide (b<=999))=decide (0<=a/\a<=999/\0<=b/\b<=999):=by
   rw[Bool.eq_iff_iff,yh0,yr0,yr0,yr0];omega
  rw[e]
 ·rw[show(decide (a>=0)&&decide (a<=999))=false from by rw[Bool.and_eq_false_iff,decide_eq_false_iff_not,decide_eq_false_iff_not];omega,yd0,yi0 (by omega)]
theorem zf5 (s:List UInt8)(hs:s.length<=100000):zlt s=some (cntR s,()):=by
 unfold zlt zh6;rw[qea s hs,ya0];cases hc:comma s with
 |none=>
  dsimp only;rw[zka s hs,ya0,yb1,yb0,ya0];dsimp only;rw[yb1,yb0,ya0];dsimp only;rw[show decide ((1:Int)>0)=true from rfl,yb0,ya0];dsimp only;cases hn:canon s with
  |false=>
   rw[zfg (by unfold countP;rw[hc];dsimp only;rw[hn];rfl)];rfl
  |true=>
   have hlt:=zcz hn;rw[zjs hn,wrap64 (by omega) (by omega),ys0,yd0,zwk,ya0,ya0];rw[zri (n:=(dval s:Int) -1) (m:=1) (by unfold countP;rw[hc];dsimp only;rw[yx0 hn])];dsimp only;cases decide (0<=(dval s:Int) -1/\(dval s:Int) -1<=999/\(0:Int)<=1/\(1:Int)<=999)<;>rfl
 |some p=>
  obtain⟨a,b⟩:=p
  have hab:a.length<=s.length/\b.length<=s.length:=by
   by_cases hm:(44:UInt8)∈s
   ·obtain⟨t,r,rfl,ht⟩:=zcj hm
    rw[zd3 r ht] at hc;obtain⟨rfl,rfl⟩:=yk1 (yl0 hc);constructor<;>simp<;>omega
   ·rw[zfd hm] at hc;cases hc
  dsimp only;rw[zka a (by omega),ya0,ys0,yd0,zka b (by omega),ya0];dsimp only;cases ha:canon a with
  |false=>
   have hP:countP s=none:=by unfold countP;rw[hc];dsimp only;rw[yw0 (by rw[ha];simp)]
   rw[zfg hP,yd0,ya0];dsimp only;rw[ys0,yd0,ya0];dsimp only;cases decide (numV b>0)<;>rfl
  |true=>
   rw[yb0,ya0];dsimp only;rw[ys0,yd0,ya0];dsimp only;cases hb:canon b with
   |false=>
    have hP:countP s=none:=by unfold countP;rw[hc];dsimp only;rw[yw0 (by rw[hb];simp)]
    rw[zfg hP];cases decide (numV b>0)<;>rfl
   |true=>
    have h1:=zcz ha;have h2:=zcz hb;rw[zjs ha,zjs hb];have hP:countP s=rngP (if 0<dval b then(dval a:Int) -1 else(dval a:Int)) (dval b:Int):=by unfold countP;rw[hc];dsimp only;rw[yx0 ⟨ha,hb⟩]
    rw[zri hP];by_cases h0:0<dval b
    ·rw[yc0 (by omega:(dval b:Int)>0),yb0,ya0,yx0 h0]
     dsimp only;rw[wrap64 (by omega) (by omega),ys0,yd0,zwk,ya0,ya0];dsimp only;cases decide (0<=(dval a:Int) -1/\(dval a:Int) -1<=999/\0<=(dval b:Int)/\(dval b:Int)<=999)<;>rfl
    ·rw[yi0 (by omega:¬(dval b:Int)>0),yd0,ya0,yw0 h0]
     dsimp only;rw[ys0,yd0,zwk,ya0,ya0];dsimp only;cases decide (0<=(dval a:Int)/\(dval a:Int)<=999/\0<=(dval b:Int)/\(dval b:Int)<=999)<;>rfl
theorem z7h (s:List UInt8)(hs:s.length<=100000):zeq s=some (cntR s,()):=by
 unfold zeq;rw[show(44:Int)=(((44:UInt8).toNat:Nat):Int) from rfl,zu7 s 44 hs,ya0];dsimp only;by_cases hm:(44:UInt8)∈s
 ·obtain⟨a,b,rfl,ht⟩:=zcj hm
  have hc:=zd3 b ht;rw[zd0 b ht];have hla:a.length<=100000:=by simp at hs;omega
  have hlb:b.length<=100000:=by simp at hs;omega
  rw[show inB 0 (a::zad 44 b).length=true from zq (i:=0) (by simp),yb0];rw[show(a::zad 44 b).getD (0:Int).toNat []=a from rfl,zj9 a hla,ya0];dsimp only;by_cases hb:(44:UInt8)∈b
  ·have hP:countP (a++44::b)=none:=by
    unfold countP;rw[hc];dsimp only;rw[yw0 λh=> ?_];have:=zfc h.2 44 hb;cases this
   rw[zfg hP];obtain⟨b1,b2,rfl,hb1⟩:=zcj hb;rw[zd0 b2 hb1];have hne:=zu6 44 b2;have hlen:1<=(zad 44 b2).length:=yq2.2 hne;rw[show(((a::b1::zad 44 b2).length:Int)==2)=false from yo0.2 (by simp;omega),yd0,ya0];dsimp only;rw[show decide ((1:Int)>0)=true from rfl,yb0,ya0];dsimp only;rw[yc0 (by simp;omega:((a::b1::zad 44 b2).length:Int)>2)];cases canon a<;>rfl
  ·rw[zf7 hb,show(((a::[b]).length:Int)==2)=true from rfl,yb0,show inB 1 (a::[b]).length=true from rfl,yb0]
   rw[show(a::[b]).getD (1:Int).toNat []=b from rfl,zj9 b hlb,ya0];dsimp only;cases ha:canon a with
   |false=>
    have hP:countP (a++44::b)=none:=by unfold countP;rw[hc];dsimp only;rw[yw0 (by rw[ha];simp)]
    rw[zfg hP,yd0,ya0];dsimp only;cases decide ((if canon b=true then(dval b:Int) else 0)>0)<;>rfl
   |true=>
    rw[yb0,ya0];dsimp only;cases hbc:canon b with
    |false=>
     have hP:countP (a++44::b)=none:=by unfold countP;rw[hc];dsimp only;rw[yw0 (by rw[hbc];simp)]
     rw[zfg hP];rfl
    |true=>
     have h1:=zcz ha;have h2:=zcz hbc;have hP:countP (a++44::b)=rngP (if 0<dval b then(dval a:Int) -1 else(dval a:Int)) (dval b:Int):=by unfold countP;rw[hc];dsimp only;rw[yx0 ⟨ha,hbc⟩]
     rw[zri hP,yx0 rfl,yx0 rfl];by_cases h0:0<dval b
     ·rw[yc0 (by omega:(dval b:Int)>0),yb0,ya0,yx0 h0]
      dsimp only;rw[wrap64 (by omega) (by omega),ys0,yd0,show decide (((a::[b]).length:Int)>2)=false from rfl,yd0,zwl,ya0,ya0];dsimp only;cases decide (0<=(dval a:Int) -1/\(dval a:Int) -1<=999/\0<=(dval b:Int)/\(dval b:Int)<=999)<;>rfl
     ·rw[yi0 (by omega:¬(dval b:Int)>0),yd0,ya0,yw0 h0]
      dsimp only;rw[ys0,yd0,show decide (((a::[b]).length:Int)>2)=false from rfl,yd0,zwl,ya0,ya0];dsimp only;cases decide (0<=(dval a:Int)/\(dval a:Int)<=999/\0<=(dval b:Int)/\(dval b:Int)<=999)<;>rfl
 ·have hc:=zfd hm
  rw[zf7 hm,show inB 0 [s].length=true from rfl,yb0,show[s].getD (0:Int).toNat []=s from rfl,zj9 s hs,ya0];dsimp only;rw[show(([s].length:Int)==2)=false from rfl,yd0,ya0];dsimp only;rw[show decide ((1:Int)>0)=true from rfl,yb0,ya0];dsimp only;cases hn:canon s with
  |false=>
   rw[zfg (by unfold countP;rw[hc];dsimp only;rw[hn];rfl)];rfl
  |true=>
   have hlt:=zcz hn;rw[yx0 rfl,wrap64 (by omega) (by omega),ys0,yd0,show decide (([s].length:Int)>2)=false from rfl,yd0,zwl,ya0,ya0];rw[zri (n:=(dval s:Int) -1) (m:=1) (by unfold countP;rw[hc];dsimp only;rw[yx0 hn])];dsimp only;cases decide (0<=(dval s:Int) -1/\(dval s:Int) -1<=999/\(0:Int)<=1/\(1:Int)<=999)<;>rfl
end R.U
end

section
/- Heads of groups, as both sides read them. -/
open Go Go.Dn
namespace R.U
def hdP (o f:List UInt8):List UInt8:=((([64,64,32,45]++o)++[32,43])++f)++[32,64,64,10]
def zdk (l o f:List UInt8)(a m b k:Int):Prop:=l=hdP o f/\countP o=some (a,m)/\countP f=some (b,k)
theorem q8g {s:List UInt8}{n m:Int}(h:countP s=some (n,m)):cntR s=(n,m,true,()):=by unfold cntR;rw[h]
theorem zpr (s:List UInt8):(∃n m,countP s=some (n,m)/\cntR s=(n,m,true,()))\/(countP s=none/\cntR s=(0,0,false,())):=by
 cases h:countP s with
 |none=>exact .inr ⟨rfl,zfg h⟩
 |some p=>exact .inl ⟨p.1,p.2,rfl,q8g h⟩
theorem zcx {o:List UInt8}{x:Int×Int}(h:countP o=some x):(32:UInt8)∉o:=λhm=>by
 rcases z4g h 32 hm with h1|h1<;>cases h1
theorem z9a {o:List UInt8}{x:Int×Int}(h:countP o=some x):(10:UInt8)∉o:=λhm=>by
 rcases z4g h 10 hm with h1|h1<;>cases h1
abbrev GZ:PV zh:=(0,(0,(([]:PV zi),())))
noncomputable def zrx (z:Option ((PV zf×PV zh×PV .str×PV .str×PV zh×PV (.int .i64)×PV (.int .i64)×Unit)⊕(PV zh×PV .str×PV zf×PV .bool×Unit))):Option (PVs [zh,.str,zf,.bool]×PVs []):=
 z.bind λx29=>
  match x29 with
  | .inl l24=>
    (zhw l24.2.2.1 l24.2.2.2.1).bind λr25=>
      (zf2 l24.2.2.2.2.1.2.2.1).bind λr26=>
        bif decide (r25.1.1.length+r26.1.1.length<=1099511627776) then
         bif (l24.2.2.2.2.2.1==0) then
          some ((l24.2.2.2.2.1,(r25.1.1++r26.1.1),l24.1,(l24.2.2.2.2.2.2.1==0),()),())
         else
          some ((l24.2.2.2.2.1,(r25.1.1++r26.1.1),l24.1,false,()),())
        else
         none
  | .inr l27=>
    some ((l27.1,l27.2.1,l27.2.2.1,l27.2.2.2.1,()),())
theorem jah (l:List UInt8)(ls:TX)(hl:l.length<=100000):
 (∃o f a m b k,zdk l o f a m b k/\zcw (l::ls)=zrx (zek (ls,GZ,o,f,(a,(b,(([]:PV zi),()))),m,k,())))\/
 ((∀o f a m b k,¬zdk l o f a m b k)/\zcw (l::ls)=some ((GZ,[],[],false,()),())):=by
 have e0:inB 0 (l::ls).length=true:=zq (i:=0) (by simp);have eg:(l::ls).getD ((0:Int).toNat) []=l:=rfl;have ed:=drop_one l ls;have ek:=za2 l ls
 have hpre:∀o f,l=hdP o f->l.take 4=[64,64,32,45]/\l.drop 4=(o++[32,43])++(f++[32,64,64,10]):=by
  rintro o f rfl;unfold hdP;simp
 have hdl:(l.drop 4).length<=100000:=by rw[yc1];omega
 have hnil:cntR []=(0,0,false,()):=zfg (by decide);cases h1:(l.take ([64,64,32,45]:List UInt8).length==[64,64,32,45])
 ·refine .inr ⟨λo f a m b k h=> ?_,?_⟩
  ·have:=(hpre o f h.1).1
   rw[show l.take ([64,64,32,45]:List UInt8).length=l.take 4 from rfl,this] at h1;cases h1
  ·have go:∀(t r:List UInt8) (q:Bool),t.length<=100000->r.length<=100000->zc8 l [32,43]=some ((t,r,q,()),())->zcw (l::ls)=some ((GZ,[],[],false,()),()):=by
    intro t r q ht hr hc
    have hr2:(bif r.drop (r.length -([32,64,64,10]:List UInt8).length)==[32,64,64,10] then r.take (r.length -([32,64,64,10]:List UInt8).length) else r).length<=100000:=by
     cases(r.drop (r.length -([32,64,64,10]:List UInt8).length)==[32,64,64,10])
     ·exact hr
     ·rw[yb0,yr1];omega
    unfold zcw;rw[e0,yb0,eg,zl7 l _ hl (by decide),ya0,h1];dsimp only;rw[yd0,hc,ya0];dsimp only;rw[zl8 r _ hr (by decide),ya0];dsimp only;rw[zf5 t ht,ya0,zf5 _ hr2,ya0,yb1,yb0,ya0];rfl
   rcases qe8 l hl with⟨t,r,e,hc,_⟩|⟨_,hc⟩
   ·exact go t r true (by rw[e] at hl;simp at hl;omega) (by rw[e] at hl;simp at hl;omega) hc
   ·exact go l [] false hl (by simp) hc
 ·rcases qe8 (l.drop 4) hdl with⟨t,r,e,hc,huniq⟩|⟨hno,hc⟩
  ·have ht:t.length<=100000:=by rw[e] at hdl;simp at hdl;omega
   have hr:r.length<=100000:=by rw[e] at hdl;simp at hdl;omega
   cases h3:(r.drop (r.length -([32,64,64,10]:List UInt8).length)==[32,64,64,10])
   ·refine .inr ⟨λo f a m b k h=> ?_,?_⟩
    ·obtain⟨_,h5⟩:=huniq o (f++[32,64,64,10]) (hpre o f h.1).2 (zcx h.2.1)
     rw[<-h5] at h3;simp at h3
    ·unfold zcw
     rw[e0,yb0,eg,zl7 l _ hl (by decide),ya0,h1];dsimp only;rw[yb0,show l.drop ([64,64,32,45]:List UInt8).length=l.drop 4 from rfl,hc,ya0];dsimp only;rw[zl8 r _ hr (by decide),ya0,h3];dsimp only;rw[yd0,zf5 t ht,ya0,zf5 r hr,ya0];rfl
   ·have hrt:(r.take (r.length -([32,64,64,10]:List UInt8).length)).length<=100000:=by rw[yr1];omega
    generalize hf:r.take (r.length -([32,64,64,10]:List UInt8).length)=f0 at hrt
    have hrf:r=f0++[32,64,64,10]:=by
     have h3':=yy0.1 h3;have:=yp2 (r.length -([32,64,64,10]:List UInt8).length) r;rw[h3',hf] at this;exact this.symm
    have hl4:l=[64,64,32,45]++l.drop 4:=by
     conv=>lhs;rw[<-yp2 4 l]
     rw[show l.take 4=[64,64,32,45] from yy0.1 h1]
    have hlh:l=hdP t f0:=by
     rw[hl4,e,hrf];unfold hdP;simp
    have hU:∀o f a m b k,zdk l o f a m b k->o=t/\f=f0:=by
     intro o f a m b k h;obtain⟨h4,h5⟩:=huniq o (f++[32,64,64,10]) (hpre o f h.1).2 (zcx h.2.1);rw[hrf] at h5;exact⟨h4,List.append_cancel_right h5⟩
    have go:zcw (l::ls)=(bif !(cntR t).2.2.1|| !(cntR f0).2.2.1 then some ((GZ,[],[],false,()),()) else zrx (zek (ls,GZ,t,f0,((cntR t).1,((cntR f0).1,(([]:PV zi),()))),(cntR t).2.1,(cntR f0).2.1,()))):=by
     unfold zcw;rw[e0,yb0,eg,zl7 l _ hl (by decide),ya0,h1];dsimp only;rw[yb0,show l.drop ([64,64,32,45]:List UInt8).length=l.drop 4 from rfl,hc,ya0];dsimp only;rw[zl8 r _ hr (by decide),ya0,h3];dsimp only;rw[yb0,hf,zf5 t ht,ya0,zf5 f0 hrt,ya0];dsimp only;cases q1:(cntR t).2.2.1
     ·rfl
     ·cases q2:(cntR f0).2.2.1
      ·rfl
      ·simp only[ys0,yd0,ya0,Bool.or_self]
       rw[ek,yb0,ed];rfl
    rcases zpr t with⟨a,m,c1,c2⟩|⟨c1,c2⟩
    ·rcases zpr f0 with⟨b,k,d1,d2⟩|⟨d1,d2⟩
     ·refine .inl ⟨t,f0,a,m,b,k,⟨hlh,c1,d1⟩,?_⟩
      rw[go,c2,d2];rfl
     ·refine .inr ⟨λo f a m b k h=> ?_,?_⟩
      ·obtain⟨rfl,rfl⟩:=hU o f a m b k h
       have:=h.2.2;rw[d1] at this;cases this
      ·rw[go,c2,d2];rfl
    ·refine .inr ⟨λo f a m b k h=> ?_,?_⟩
     ·obtain⟨rfl,rfl⟩:=hU o f a m b k h
      have:=h.2.1;rw[c1] at this;cases this
     ·rw[go,c2];rfl
  ·refine .inr ⟨λo f a m b k h=>hno o (f++[32,64,64,10]) (hpre o f h.1).2,?_⟩
   unfold zcw;rw[e0,yb0,eg,zl7 l _ hl (by decide),ya0,h1];dsimp only;rw[yb0,show l.drop ([64,64,32,45]:List UInt8).length=l.drop 4 from rfl,hc,ya0];dsimp only;rw[zl8 [] _ (by simp) (by decide),ya0];dsimp only;rw[zf5 _ hdl,ya0,zf5 _ (by simp),ya0];rfl
def hdQ (o f:List UInt8):List UInt8:=((([64,64,32,45]++o)++[32,43])++f)++[32,64,64]
theorem zps {c:UInt8}{p w:List UInt8}{ws:TX}(h:zad c p=w::ws):(ws=[]/\p=w/\c∉w)\/(∃r,p=w++c::r/\c∉w/\zad c r=ws):=by
 by_cases hm:c∈p
 ·obtain⟨t,r,rfl,ht⟩:=zcj hm
  rw[zd0 r ht] at h;obtain⟨rfl,rfl⟩:=List.cons.inj h;exact .inr ⟨r,rfl,ht,rfl⟩
 ·rw[zf7 hm] at h
  obtain⟨rfl,rfl⟩:=List.cons.inj h;exact .inl ⟨rfl,rfl,hm⟩
theorem zmw {o f:List UInt8}(ho:(32:UInt8)∉o)(hf:(32:UInt8)∉f):zad 32 (hdQ o f)=[[64,64],45::o,43::f,[64,64]]:=by
 have e:hdQ o f=[64,64]++32::((45::o)++32::((43::f)++32::[64,64])):=by unfold hdQ;simp
 rw[e,zd0 _ (by decide),zd0 _ (by simp[ho]),zd0 _ (by simp[hf]),zf7 (by decide)]
theorem jai (p:List UInt8)(hp:p.length<=100000):
 (∃o f a m b k,p=hdQ o f/\countP o=some (a,m)/\countP f=some (b,k)/\zdb p=some (((a,(b,(([]:PV zi),()))),m,k,true,()),()))\/
 ((∀o f a m b k,p=hdQ o f->countP o=some (a,m)->countP f=some (b,k)->False)/\∃g m k,zdb p=some ((g,m,k,false,()),())):=by
 have hsp:zh0 p 32=some ((zad 32 p,()),()):=zu7 p 32 hp
 have hrej:(zad 32 p).length≠4->zdb p=some ((GZ,0,0,false,()),()):=by
  intro h;unfold zdb;rw[hsp,ya0];dsimp only;rw[show(((zad 32 p).length:Int)==4)=false from yo0.2 (by omega)];rfl
 have hno:(∀o f,zad 32 p=[[64,64],45::o,43::f,[64,64]]->o≠[]->f≠[]->False)->∀o f a m b k,p=hdQ o f->countP o=some (a,m)->countP f=some (b,k)->False:=by
  rintro h o f a m b k rfl h1 h2;exact h o f (zmw (zcx h1) (zcx h2)) (qap h1) (qap h2)
 by_cases h4:(zad 32 p).length=4
 ·obtain⟨w0,w1,w2,w3,hw⟩:∃w0 w1 w2 w3,zad 32 p=[w0,w1,w2,w3]:=by
   match hq:zad 32 p,h4 with
   |[w0,w1,w2,w3],_=>exact⟨w0,w1,w2,w3,rfl⟩
  rcases zps hw with⟨h,_⟩|⟨r0,e0,n0,hw0⟩
  ·cases h
  rcases zps hw0 with⟨h,_⟩|⟨r1,e1,n1,hw1⟩
  ·cases h
  rcases zps hw1 with⟨h,_⟩|⟨r2,e2,n2,hw2⟩
  ·cases h
  obtain⟨e3,n3⟩:r2=w3/\(32:UInt8)∉w3:=by
   rcases zps hw2 with⟨_,e3,n3⟩|⟨r3,_,_,h⟩
   ·exact⟨e3,n3⟩
   ·exact absurd h (zu6 _ _)
  have hwl:w1.length<=100000/\w2.length<=100000:=by
   have:=congrArg List.length e0;have:=congrArg List.length e1;have:=congrArg List.length e2;simp only[ye0,yf0] at*;omega
  rw[hw] at hsp hno;have rej:∀{z:Option (PV zh×PV zf×PV .bool×Unit)},z=some (GZ,[w0,w1,w2,w3],true,())->True:=λ_=>trivial;by_cases c0:¬w0=[64,64]
  ·refine .inr ⟨hno λo f h _ _=> ?_,GZ,0,0,?_⟩
   ·obtain⟨h,_⟩:=List.cons.inj h;exact c0 h
   ·unfold zdb
    rw[hsp,ya0];dsimp only;rw[show(([w0,w1,w2,w3].length:Int)==4)=true from rfl,show inB 0 [w0,w1,w2,w3].length=true from rfl,show[w0,w1,w2,w3].getD ((0:Int).toNat) []=w0 from rfl,show(w0==[64,64])=false from yo0.2 c0];rfl
  replace c0:=Classical.not_not.1 c0
  by_cases c3:¬w3=[64,64]
  ·refine .inr ⟨hno λo f h _ _=> ?_,GZ,0,0,?_⟩
   ·simp only[List.cons.injEq] at h;exact c3 h.2.2.2.1
   ·unfold zdb
    rw[hsp,ya0];dsimp only;rw[show(([w0,w1,w2,w3].length:Int)==4)=true from rfl,show inB 0 [w0,w1,w2,w3].length=true from rfl,show inB 3 [w0,w1,w2,w3].length=true from rfl,show[w0,w1,w2,w3].getD ((0:Int).toNat) []=w0 from rfl,show[w0,w1,w2,w3].getD ((3:Int).toNat) []=w3 from rfl,show(w0==[64,64])=true from yy0.2 c0,show(w3==[64,64])=false from yo0.2 c3];rfl
  replace c3:=Classical.not_not.1 c3
  subst c0 c3
  have base:zdb p=((bif decide ((w1.length:Int)<2) then some (GZ,[[64,64],w1,w2,[64,64]],true,()) else bif decide ((w2.length:Int)<2) then some (GZ,[[64,64],w1,w2,[64,64]],true,()) else
   bif inB 0 w1.length then bif (!(((w1.getD (0:Int).toNat 0).toNat:Int)==45)) then some (GZ,[[64,64],w1,w2,[64,64]],true,()) else bif inB 0 w2.length then some (GZ,[[64,64],w1,w2,[64,64]],(!(((w2.getD (0:Int).toNat 0).toNat:Int)==43)),()) else none else none:Option (PV zh×PV zf×PV .bool×Unit))).bind λj4=>
   bif j4.2.2.1 then some ((GZ,0,0,false,()),())
   else bif inB 1 j4.2.1.length then
    bif cutB 1 ((j4.2.1.getD ((1:Int).toNat) []).length:Int) (j4.2.1.getD ((1:Int).toNat) []).length then
     (zeq (cutL 1 ((j4.2.1.getD ((1:Int).toNat) []).length:Int) (j4.2.1.getD ((1:Int).toNat) []))).bind λr6=>
       bif inB 2 j4.2.1.length then
        bif cutB 1 ((j4.2.1.getD ((2:Int).toNat) []).length:Int) (j4.2.1.getD ((2:Int).toNat) []).length then
         (zeq (cutL 1 ((j4.2.1.getD ((2:Int).toNat) []).length:Int) (j4.2.1.getD ((2:Int).toNat) []))).bind λr8=>
           bif r6.1.2.2.1 then
            some (((r6.1.1,(r8.1.1,(([]:PV zi),()))),r6.1.2.1,r8.1.2.1,r8.1.2.2.1,()),())
           else
            some (((r6.1.1,(r8.1.1,(([]:PV zi),()))),r6.1.2.1,r8.1.2.1,false,()),())
        else none
       else none
    else none
    else none:=by
   unfold zdb;rw[hsp,ya0];rfl
  match w1,w2,hwl,hno,base,e0,e1,e2,hw with
  |[],_,_,hno,base,_,_,_,_=>exact .inr ⟨hno λo f h _ _=>by simp at h,GZ,0,0,by rw[base];rfl⟩
  |[_],_,_,hno,base,_,_,_,_=>exact .inr ⟨hno λo f h ho _=>ho (by simp only[List.cons.injEq] at h;exact h.2.1.2.symm),GZ,0,0,by rw[base];rfl⟩
  |x::y::w1,[],_,hno,base,_,_,_,_=>exact .inr ⟨hno λo f h _ _=>by simp at h,GZ,0,0,by rw[base,yi0 (by simp;omega)];rfl⟩
  |x::y::w1,[_],_,hno,base,_,_,_,_=>exact .inr ⟨hno λo f h _ hf=>hf (by simp only[List.cons.injEq] at h;exact h.2.2.1.2.symm),GZ,0,0,by rw[base,yi0 (by simp;omega)];rfl⟩
  |x::y::w1,x'::y'::w2,hwl,hno,base,e0,e1,e2,hw=>
   rw[yi0 (by simp;omega:¬((x::y::w1).length:Int)<2),yi0 (by simp;omega:¬((x'::y'::w2).length:Int)<2),yd0,yd0,show inB 0 (x::y::w1).length=true from zq (i:=0) (by simp),show inB 0 (x'::y'::w2).length=true from zq (i:=0) (by simp),yb0,yb0,
    show(x::y::w1).getD (0:Int).toNat 0=x from rfl,show(x'::y'::w2).getD (0:Int).toNat 0=x' from rfl,show(45:Int)=(((45:UInt8).toNat:Nat):Int) from rfl,show(43:Int)=(((43:UInt8).toNat:Nat):Int) from rfl,zb3,zb3] at base
   by_cases cx:¬x=45
   ·refine .inr ⟨hno λo f h _ _=>cx (by simp only[List.cons.injEq] at h;exact h.2.1.1),GZ,0,0,?_⟩
    rw[base,show(x==45)=false from yo0.2 cx];rfl
   replace cx:=Classical.not_not.1 cx
   by_cases cx':¬x'=43
   ·refine .inr ⟨hno λo f h _ _=>cx' (by simp only[List.cons.injEq] at h;exact h.2.2.1.1),GZ,0,0,?_⟩
    rw[base,show(x==45)=true from yy0.2 cx,show(x'==43)=false from yo0.2 cx'];rfl
   replace cx':=Classical.not_not.1 cx'
   subst cx cx'
   have hfin:zdb p=(zeq (y::w1)).bind λr6=>(zeq (y'::w2)).bind λr8=>
    bif r6.1.2.2.1 then
     some (((r6.1.1,(r8.1.1,(([]:PV zi),()))),r6.1.2.1,r8.1.2.1,r8.1.2.2.1,()),())
    else
     some (((r6.1.1,(r8.1.1,(([]:PV zi),()))),r6.1.2.1,r8.1.2.1,false,()),()):=by
    rw[base,yn1,yn1,ys0,yd0,ya0];dsimp only
    rw[yd0,show inB 1 [[(64:UInt8),64],45::y::w1,43::y'::w2,[64,64]].length=true from rfl,show inB 2 [[(64:UInt8),64],45::y::w1,43::y'::w2,[64,64]].length=true from rfl,yb0,
     show[[(64:UInt8),64],45::y::w1,43::y'::w2,[64,64]].getD ((1:Int).toNat) []=45::y::w1 from rfl,show[[(64:UInt8),64],45::y::w1,43::y'::w2,[64,64]].getD ((2:Int).toNat) []=43::y'::w2 from rfl,
     za2,drop_one,za2,drop_one,yb0]
    rfl
   have hq1:(y::w1).length<=100000:=by have:=hwl.1;simp at this ⊢;omega
   have hq2:(y'::w2).length<=100000:=by have:=hwl.2;simp at this ⊢;omega
   rw[z7h _ hq1,z7h _ hq2,ya0,ya0] at hfin;rcases zpr (y::w1) with⟨a,m,k1,k2⟩|⟨k1,k2⟩
   ·rcases zpr (y'::w2) with⟨b,k,d1,d2⟩|⟨d1,d2⟩
    ·refine .inl ⟨y::w1,y'::w2,a,m,b,k,?_,k1,d1,?_⟩
     ·rw[e0,e1,e2,e3];unfold hdQ;simp
     ·rw[hfin,k2,d2];rfl
    ·refine .inr ⟨λo f a' m' b' k' h h1 h2=> ?_,(a,(0,(([]:PV zi),()))),m,0,?_⟩
     ·have:=zmw (zcx h1) (zcx h2)
      rw[<-h,hw] at this;simp only[List.cons.injEq] at this;rw[<-this.2.2.1.2,d1] at h2;cases h2
     ·rw[hfin,k2,d2];rfl
   ·refine .inr ⟨λo f a' m' b' k' h h1 h2=> ?_,(0,((cntR (y'::w2)).1,(([]:PV zi),()))),0,(cntR (y'::w2)).2.1,?_⟩
    ·have:=zmw (zcx h1) (zcx h2)
     rw[<-h,hw] at this;simp only[List.cons.injEq] at this;rw[<-this.2.1.2,k1] at h1;cases h1
    ·rw[hfin,k2];rfl
 ·refine .inr ⟨hno λo f h _ _=>h4 (by rw[h];rfl),GZ,0,0,hrej h4⟩
end R.U
end

section
/- Rows, as both sides read them. -/
open Go Go.Dn
namespace R.U
def qo (b:UInt8):Int:=if b=32 then 1 else if b=45 then 2 else if b=43 then 3 else 0
def mN (b:UInt8):Int:=if qo b=3 then 0 else 1
def kN (b:UInt8):Int:=if qo b=2 then 0 else 1
def vw:Nat->TX->Int->Int->Option (RW×TX)
 |0,ls,m,k=>if m=0/\k=0 then some ([],ls) else none
 |f+1,ls,m,k=>if m=0/\k=0 then some ([],ls) else if m<0\/k<0 then none else match ls with
  |[]=>none
  |[]::_=>none
  |(c::t)::rest=>if qo c=0 then none else(vw f (jg rest) (m -mN c) (k -kN c)).map λp=>(mkRow (qo c) (jf t rest)::p.1,p.2)
theorem zid (f:Nat)(ls:TX):vw f ls 0 0=some ([],ls):=by
 cases f<;>simp[vw]
theorem zd1 {f:Nat}{ls:TX}{m k:Int}(h:m<0\/k<0):vw f ls m k=none:=by
 have h0:¬(m=0/\k=0):=by omega
 cases f with
 |zero=>unfold vw;rw[yw0 h0]
 |succ f=>unfold vw;rw[yw0 h0,yx0 h]
theorem zkc {f:Nat}{m k:Int}(h:¬(m=0/\k=0)):vw f [] m k=none:=by
 cases f with
 |zero=>unfold vw;rw[yw0 h]
 |succ f=>
  unfold vw;rw[yw0 h];split<;>rfl
theorem zf8 {f:Nat}{c:UInt8}{t:List UInt8}{rest:TX}{m k:Int}(h:¬(m=0/\k=0))(h2:¬(m<0\/k<0)):
 vw (f+1) ((c::t)::rest) m k=if qo c=0 then none else(vw f (jg rest) (m -mN c) (k -kN c)).map λp=>(mkRow (qo c) (jf t rest)::p.1,p.2):=by
 conv=>lhs;unfold vw
 rw[yw0 h,yw0 h2]
theorem z7i (c:UInt8):(qo c=0)\/(c=32/\qo c=1)\/(c=45/\qo c=2)\/(c=43/\qo c=3):=by
 unfold qo;by_cases h1:c=32
 ·exact .inr (.inl ⟨h1,by rw[yx0 h1]⟩)
 by_cases h2:c=45
 ·exact .inr (.inr (.inl ⟨h2,by rw[yw0 h1,yx0 h2]⟩))
 by_cases h3:c=43
 ·exact .inr (.inr (.inr ⟨h3,by rw[yw0 h1,yw0 h2,yx0 h3]⟩))
 ·exact .inl (by rw[yw0 h1,yw0 h2,yw0 h3])
theorem znh {c:UInt8}(h:qo c≠0):(qo c=1\/qo c=2\/qo c=3)/\zbu (qo c)=[c]/\c≠10:=by
 rcases z7i c with h0|⟨rfl,h1⟩|⟨rfl,h1⟩|⟨rfl,h1⟩
 ·exact absurd h0 h
 ·exact⟨.inl h1,by rw[h1];decide,by decide⟩
 ·exact⟨.inr (.inl h1),by rw[h1];decide,by decide⟩
 ·exact⟨.inr (.inr h1),by rw[h1];decide,by decide⟩
theorem zxo (c:UInt8):0<=mN c/\mN c<=1/\0<=kN c/\kN c<=1:=by
 unfold mN kN;refine⟨?_,?_,?_,?_⟩<;>split<;>omega
def RowW (r:PV zo):Prop:=(r.1=1\/r.1=2\/r.1=3)/\List.length r.2.1<=3000
theorem q8h (sg s:List UInt8)(h0:sg.length<=10)(h2:s.length<=3000):zdz sg s=some ((zbg sg s,()),()):=by
 unfold zdz zbg zgs;rw[zrg s (by omega),ya0];dsimp only;rw[yc0 (by omega),yb0,yb0,yc0 (by simp only[ye0,yf0,yp0];omega),yb0,yc0 (by simp only[ye0,yf0,yp0];omega),yb0];cases endP s
 ·rw[yd0,yd0,yj0 (sg++s)];rfl
 ·rfl
theorem qc7 {r:PV zo}(h:RowW r):(rowT r).length<=3009:=by
 have h1:=z8o (zbu r.1) r.2.1;have h2:=(zir h.1).2;have h3:=h.2;unfold rowT;omega
theorem zvb {rows:RW}(hl:rows.length<=3000)(hr:∀r∈rows,RowW r):(za6 rows).length<=9027000:=by
 have:=zvy rowT 3009 rows λr h=>qc7 (hr r h);unfold za6;omega
theorem z9b {rows:RW}(hl:rows.length<=3000)(hr:∀r∈rows,RowW r):zf2 rows=some ((za6 rows,()),()):=by
 have hf:=za8 (B:=λd=>zcv d.1 d.2.1 d.2.2.1 d.2.2.2.1) rows (λa r=>a++rowT r) (λa i=>(a,rows,(rows.length:Int),(i:Int),())) (λa=>(a,())) (λi a=>a.length<=3009*i)
  (λi hi a hI=>by
    have hx:=hr _ (ym1 hi);have ht:=qc7 hx;refine⟨by rw[ye0];omega,?_⟩;show zcv a rows rows.length i=_;unfold zcv;rw[yc0 (by omega:(i:Int)<(rows.length:Int)),yb0,zq hi,yb0,toNat_cast,ql hi,qe0 hx.1,ya0,q8h _ _ (by show(zbu rows[i].1).length<=_;have:=(zir hx.1).2;omega) (by have:=hx.2;omega),ya0];dsimp only;rw[show zbg (zbu rows[i].1) rows[i].2.1=rowT rows[i] from rfl,yc0 (by omega),yb0,wrap64 (by omega) (by omega)];rfl)
  (λa _=>by
    show zcv a rows rows.length rows.length=_;unfold zcv;rw[yi0 (yi1 _),yd0]) [] (ye1 _)
 unfold zf2;rw[show zss ([],rows,(rows.length:Int),0,())=_ from hf.1,ya0,zf9];rfl
theorem q1q (c:UInt8):∃v:Int,zn5 [63,32,45,43] ((c.toNat:Nat):Int)=some ((v,()),())/\((v<1/\qo c=0)\/(1<=v/\v=qo c/\qo c≠0)):=by
 refine⟨Lib.indexByte [63,32,45,43] c,?_,?_⟩
 ·unfold zn5 zr2 zph
  rw[toNat_cast,show c.toNat.toUInt8=c from UInt8.ofNat_toNat,ya0]
 ·rcases z7i c with h0|⟨rfl,h1⟩|⟨rfl,h1⟩|⟨rfl,h1⟩
  ·refine .inl ⟨?_,h0⟩
   unfold qo at h0;have n1:c≠32:=λe=>by rw[yx0 e] at h0;cases h0
   have n2:c≠45:=λe=>by rw[yw0 n1,yx0 e] at h0;cases h0
   have n3:c≠43:=λe=>by rw[yw0 n1,yw0 n2,yx0 e] at h0;cases h0
   by_cases n0:c=63
   ·subst n0;decide
   ·rw[zsu c (by simp[n0,n1,n2,n3])];decide
  ·exact .inr (by decide)
  ·exact .inr (by decide)
  ·exact .inr (by decide)
theorem zm4 (c:UInt8):(if (qo c==3)=true then(0:Int) else 1)=mN c:=by
 unfold mN;by_cases h:qo c=3
 ·rw[yx0 h,yx0 (by rw[h];rfl)]
 ·rw[yw0 h,yw0 (by simpa using h)]
theorem zm5 (c:UInt8):(if (qo c==2)=true then(0:Int) else 1)=kN c:=by
 unfold kN;by_cases h:qo c=2
 ·rw[yx0 h,yx0 (by rw[h];rfl)]
 ·rw[yw0 h,yw0 (by simpa using h)]
theorem q8i (rest:TX):(bif decide ((rest.length:Int)>0) then(bif inB 0 rest.length then some (rest.getD ((0:Int).toNat) []==qy) else none) else some false:Option Bool)=some (rest.head?==some qy):=by
 cases rest with
 |nil=>rfl
 |cons n r=>
  rw[yc0 (by simp:(((n::r).length:Nat):Int)>0),yb0,show inB 0 (n::r).length=true from zq (i:=0) (by simp),yb0];rfl
theorem q8j {c:UInt8}{t:List UInt8}{rest:TX}{t2:PV zh}{o f:List UInt8}{a b:Int}{acc:RW}{m k:Int}
 (hmk:m>0\/k>0)(ht:t.length<=3000)(hr:rest.length<=3000)(hacc:acc.length<=6000)(hm: -100000<=m/\m<=100000)(hk: -100000<=k/\k<=100000):
 zfu ((c::t)::rest) t2 o f (a,(b,(acc,()))) m k=if qo c=0 then some (.inr (.inr (GZ,[],[],false,()))) else
  some (.inl (jg rest,t2,o,f,(a,(b,(acc++[mkRow (qo c) (jf t rest)],()))),m -mN c,k -kN c,())):=by
 obtain⟨v,hv,hvc⟩:=q1q c
 have hg:(bif (decide (m>0)) then some (.inr ((((c::t)::rest:TX)),t2,o,f,(a,(b,(acc,()))),m,k,())) else bif (decide (k>0)) then some (.inr (((c::t)::rest:TX),t2,o,f,(a,(b,(acc,()))),m,k,())) else some (.inl (((c::t)::rest:TX),t2,o,f,(a,(b,(acc,()))),m,k,())):Option ((PV zf×PV zh×PV .str×PV .str×PV zh×PV (.int .i64)×PV (.int .i64)×Unit)⊕(PV zf×PV zh×PV .str×PV .str×PV zh×PV (.int .i64)×PV (.int .i64)×Unit)))=some (.inr (((c::t)::rest:TX),t2,o,f,(a,(b,(acc,()))),m,k,())):=by
  by_cases h:m>0
  ·rw[yc0 h,yb0]
  ·rw[yi0 h,yd0,yc0 (by omega:k>0),yb0]
 unfold zfu;rw[hg,ya0];dsimp only
 rw[show((((c::t)::rest:TX).length:Int)==0)=false from yo0.2 (by simp;omega),yd0,show inB 0 ((c::t)::rest:TX).length=true from zq (i:=0) (by simp),yb0,
  show((c::t)::rest:TX).getD ((0:Int).toNat) []=c::t from rfl,show inB 0 (c::t).length=true from zq (i:=0) (by simp),yb0,show(c::t).getD (0:Int).toNat 0=c from rfl,hv,ya0,yb0,za2,yb0,za2,yb0,drop_one,drop_one]
 dsimp only;rcases hvc with⟨h1,h0⟩|⟨h1,e,h0⟩
 ·rw[yc0 h1,yb0,yx0 h0]
 ·subst e
  rw[yi0 (by omega:¬qo c<1),yd0,yw0 h0]
  have hb:∀{X:Type} (F:Bool->Option X),((bif decide ((rest.length:Int)>0) then(bif inB 0 rest.length then F (rest.getD ((0:Int).toNat) []==qy) else none) else F false):Option X)=F (rest.head?==some qy):=by
   intro X F;have:=q8i rest;cases h1:decide ((rest.length:Int)>0)
   ·rw[h1] at this
    simp only[yd0] at this ⊢;rw[yl0 this]
   ·rw[h1] at this
    simp only[yb0] at this ⊢;cases h2:inB 0 rest.length
    ·rw[h2] at this;cases this
    ·rw[h2] at this
     simp only[yb0] at this ⊢;rw[yl0 this]
  have hF:=hb (λq=>(some (rest,t2,o,f,(a,(b,(acc,()))),m,k,(qo c,(t,())),q,()):Option ((PV zf×PV zh×PV .str×PV .str×PV zh×PV (.int .i64)×PV (.int .i64)×PV zo×PV .bool×Unit))));rw[hF,ya0];dsimp only
  have hw:(bif (rest.head?==some qy) then
   (zj7 t).bind λr18=>
     bif cutB 1 (rest.length:Int) rest.length then
      some ((cutL 1 (rest.length:Int) rest),t2,o,f,(a,(b,(acc,()))),m,k,(qo c,(r18.1.1,())),())
     else none
   else some (rest,t2,o,f,(a,(b,(acc,()))),m,k,(qo c,(t,())),()):Option ((PV zf×PV zh×PV .str×PV .str×PV zh×PV (.int .i64)×PV (.int .i64)×PV zo×Unit)))=some (jg rest,t2,o,f,(a,(b,(acc,()))),m,k,mkRow (qo c) (jf t rest),()):=by
   unfold jg jf;by_cases hh:rest.head?=some qy
   ·rw[show(rest.head?==some qy)=true from yy0.2 hh,yb0,qd9 t (by omega),ya0,yx0 hh,yx0 hh]
    cases rest with
    |nil=>cases hh
    |cons n r=>rw[za2,drop_one,yb0];rfl
   ·rw[show(rest.head?==some qy)=false from yo0.2 hh,yd0,yw0 hh,yw0 hh]
  rw[hw,ya0];dsimp only;have hroom:qm (acc.length+[mkRow (qo c) (jf t rest)].length)=true:=jc (by simp;omega);rw[<-zm4,<-zm5];cases q3:(qo c==3)<;>cases q2:(qo c==2)
  ·rw[yb1,yb0,ya0]
   dsimp only;rw[q2,yb1,yb0,ya0];dsimp only;rw[hroom,yb0,wrap64 (by omega) (by omega),wrap64 (by omega) (by omega)];rfl
  ·rw[yb1,yb0,ya0]
   dsimp only;rw[q2,ys0,yd0,ya0];dsimp only;rw[hroom,yb0,wrap64 (by omega) (by omega)];simp
  ·rw[ys0,yd0,ya0]
   dsimp only;rw[q2,yb1,yb0,ya0];dsimp only;rw[hroom,yb0,wrap64 (by omega) (by omega)];simp
  ·rw[yy0] at q3 q2
   omega
theorem q8k {ls:TX}{t2:PV zh}{o f:List UInt8}{g:PV zh}{m k:Int}(hm:¬m>0)(hk:¬k>0):
 zfu ls t2 o f g m k=some (.inr (.inl (ls,t2,o,f,g,m,k,()))):=by
 unfold zfu;rw[yi0 hm,yd0,yi0 hk,yd0,ya0]
theorem zrj {ls:TX}{t2:PV zh}{o f:List UInt8}{g:PV zh}{m k:Int}(hm:¬m>0)(hk:¬k>0):zek (ls,t2,o,f,g,m,k,())=some (.inl (ls,t2,o,f,g,m,k,())):=jh (q8k hm hk)
theorem qeh {t2:PV zh}{o f:List UInt8}{g:PV zh}{m k:Int}(hmk:m>0\/k>0):
 zfu [] t2 o f g m k=some (.inr (.inr (GZ,[],[],false,()))):=by
 unfold zfu;by_cases h:m>0
 ·rw[yc0 h,yb0,ya0];rfl
 ·rw[yi0 h,yd0,yc0 (by omega:k>0),yb0,ya0];rfl
def Rw (acc:RW)(n:Nat):Prop:=(∀r∈acc,RowW r)/\acc.length<=n
theorem q8l:∀(fu:Nat) (ls:TX) (t2:PV zh) (o f:List UInt8) (a b:Int) (acc:RW) (m k:Int),ls.length<=fu->(∀l∈ls,l≠[]/\l.length<=3000)->Rw acc (3000 -ls.length)->ls.length<=3000->(-50000+(ls.length:Int)<=m/\m<=100000)->(-50000+(ls.length:Int)<=k/\k<=100000)->
 (∀rs r,vw fu ls m k=some (rs,r)->Rw (acc++rs) 3000/\(∃u,ls=u++r)/\zek (ls,t2,o,f,(a,(b,(acc,()))),m,k,())=some (.inl (r,t2,o,f,(a,(b,(acc++rs,()))),0,0,())))/\
 (vw fu ls m k=none->zek (ls,t2,o,f,(a,(b,(acc,()))),m,k,())=some (.inr (GZ,[],[],false,()))\/∃(r:TX) (acc':RW) (m' k':Int),Rw acc' 3000/\(m'≠0\/k'≠0)/\zek (ls,t2,o,f,(a,(b,(acc,()))),m,k,())=some (.inl (r,t2,o,f,(a,(b,(acc',()))),m',k',()))):=by
 intro fu
 induction fu with
 |zero=>
  intro ls t2 o f a b acc m k hl hn hacc h3 hm hk;obtain rfl:=yt0 (Nat.le_zero.1 hl);by_cases h0:m=0/\k=0
  ·obtain⟨rfl,rfl⟩:=h0
   rw[zid];refine⟨λrs r h=> ?_,λh=>by cases h⟩;obtain⟨rfl,rfl⟩:=yk1 (yl0 h);rw[yz0];exact⟨⟨hacc.1,by have:=hacc.2;simp at this;omega⟩,⟨[],rfl⟩,zrj (by omega) (by omega)⟩
  ·rw[zkc h0]
   refine⟨λrs r h=>(by cases h),λ_=> ?_⟩;by_cases hp:m>0\/k>0
   ·exact .inl (jh (qeh hp))
   ·exact .inr ⟨[],acc,m,k,⟨hacc.1,by have:=hacc.2;simp at this;omega⟩,by omega,zrj (by omega) (by omega)⟩
 |succ fu ih=>
  intro ls t2 o f a b acc m k hl hn hacc h3 hm hk;have hacc3:Rw acc 3000:=⟨hacc.1,by have:=hacc.2;omega⟩;by_cases h0:m=0/\k=0
  ·obtain⟨rfl,rfl⟩:=h0
   rw[zid];refine⟨λrs r h=> ?_,λh=>by cases h⟩;obtain⟨rfl,rfl⟩:=yk1 (yl0 h);rw[yz0];exact⟨hacc3,⟨[],rfl⟩,zrj (by omega) (by omega)⟩
  ·by_cases hp:m>0\/k>0
   ·match ls,hl,hn,hacc,h3,hm,hk with
    |[],_,_,_,_,_,_=>
     rw[zkc h0];exact⟨λrs r h=>(by cases h),λ_=>.inl (jh (qeh hp))⟩
    |[]::_,_,hn,_,_,_,_=>exact absurd rfl (hn [] (yk0 ..)).1
    |(c::t)::rest,hl,hn,hacc,h3,hm,hk=>
     have ht:t.length<=3000:=by have:=(hn _ (yk0 ..)).2;simp at this;omega
     have hlen:(((c::t)::rest:TX)).length=rest.length+1:=rfl;rw[hlen] at hl h3 hm hk hacc;have ha:=hacc.2;have hst:=q8j (c:=c) (t:=t) (rest:=rest) (t2:=t2) (o:=o) (f:=f) (a:=a) (b:=b) (acc:=acc) (m:=m) (k:=k) hp ht (by omega) (by omega) (by omega) (by omega);by_cases hkd:qo c=0
     ·rw[yx0 hkd] at hst
      have hq:vw (fu+1) ((c::t)::rest) m k=none:=by
       by_cases hneg:m<0\/k<0
       ·exact zd1 hneg
       ·rw[zf8 h0 hneg,yx0 hkd]
      rw[hq];exact⟨λrs r h=>(by cases h),λ_=>.inl (jh hst)⟩
     ·rw[yw0 hkd] at hst
      have hbd:=zxo c;have hrl:=zp8 rest;have hline:=zu8 t rest;have hrw:RowW (mkRow (qo c) (jf t rest)):=⟨(znh hkd).1,by show(jf t rest).length<=3000;omega⟩
      have hacc2:Rw (acc++[mkRow (qo c) (jf t rest)]) (3000 -(jg rest).length):=by
       refine⟨λx hx=> ?_,by rw[ye0];simp;omega⟩;rcases yu0.1 hx with hx|hx
       ·exact hacc.1 x hx
       ·obtain rfl:=yl1.1 hx
        exact hrw
      obtain⟨i1,i2⟩:=ih (jg rest) t2 o f a b (acc++[mkRow (qo c) (jf t rest)]) (m -mN c) (k -kN c) (by omega) (λl hl=>hn l (yg0 _ (zgb hl))) hacc2 (by omega) (by omega) (by omega);have hgo:zek ((c::t)::rest,t2,o,f,(a,(b,(acc,()))),m,k,())=zek (jg rest,t2,o,f,(a,(b,(acc++[mkRow (qo c) (jf t rest)],()))),m -mN c,k -kN c,()):=zal hst;rw[hgo];by_cases hneg:m<0\/k<0
      ·rw[zd1 hneg]
       exact⟨λrs r h=>(by cases h),λ_=>i2 (zd1 (by omega))⟩
      ·rw[zf8 h0 hneg,yw0 hkd]
       cases hq:vw fu (jg rest) (m -mN c) (k -kN c) with
       |none=>exact⟨λrs r h=>(by cases h),λ_=>i2 hq⟩
       |some p=>
        obtain⟨rs,r⟩:=p;refine⟨λrs' r' h=> ?_,λh=>by cases h⟩;obtain⟨rfl,rfl⟩:=yk1 (yl0 h);obtain⟨j1,⟨u,hu⟩,j2⟩:=i1 rs r hq;rw[yj0] at j1 j2;refine⟨j1,?_,j2⟩;unfold jg at hu;split at hu
        ·refine⟨(c::t)::(rest.take 1++u),?_⟩
         rw[yw1,yj0,<-hu,yp2]
        ·exact⟨(c::t)::u,by rw[yw1,<-hu]⟩
   ·have hneg:m<0\/k<0:=by omega
    rw[zd1 hneg];exact⟨λrs r h=>(by cases h),λ_=>.inr ⟨ls,acc,m,k,hacc3,by omega,zrj (by omega) (by omega)⟩⟩
end R.U
end

section
/- Rows, as the reference reads them; the text that rows were read from. -/
open Go Go.Dn
namespace R.U
def LN:TX->Prop
 |[]=>True
 |l::r=>l≠[]/\(isL l\/((10:UInt8)∉l/\r=[]))/\LN r
theorem zxa:∀(n:Nat) (s:List UInt8),s.length<=n->LN (cutP s)
 |0,s,h=>by rw[yt0 (Nat.le_zero.1 h)];trivial
 |n+1,s,h=>by
  by_cases hs:s=[]
  ·subst hs;trivial
  by_cases hm:(10:UInt8)∈s
  ·obtain⟨t,r,rfl,ht⟩:=zcj hm
   rw[zp2 r ht];exact⟨by simp,.inl ⟨t,rfl,ht⟩,zxa n r (by simp at h;omega)⟩
  ·rw[zuz hm hs]
   exact⟨hs,.inr ⟨hm,rfl⟩,trivial⟩
theorem zwm:∀{ls:TX} (n:Nat),LN ls->LN (ls.drop n)
 |[],n,_=>by simp[LN]
 |l::r,0,h=>h
 |l::r,n+1,h=>zwm (ls:=r) n h.2.2
theorem q8m {u r:TX}(h:LN (u++r)):LN r:=by
 have:=zwm u.length h
 rwa [List.drop_left] at this
theorem q6n {rest:TX}(h:LN rest):LN (jg rest):=by
 unfold jg;split
 ·exact zwm 1 h
 ·exact h
theorem qei {c:UInt8}{t:List UInt8}(h:isL (c::t))(hc:c≠10):∃u,t=u++[10]/\(10:UInt8)∉u/\endP t=true/\zbh t=u/\t≠[]:=by
 obtain⟨w,e,hw⟩:=h;cases w with
 |nil=>simp at e;exact absurd e.1 hc
 |cons d w=>
  rw[yw1] at e;obtain⟨rfl,rfl⟩:=List.cons.inj e
  have he:endP (w++[10])=true:=by
   unfold endP;rw[ye0,ya3,Nat.add_sub_cancel,List.drop_left];rfl
  refine⟨w,rfl,λh=>hw (yg0 _ h),he,?_,by simp⟩;unfold zbh;rw[he,yb0,ye0,ya3,Nat.add_sub_cancel,List.take_left' rfl]
theorem zuo:∀(fu:Nat) {ls:TX} {m k:Int} {rs:RW} {r:TX},(∀l∈ls,isL l)->vw fu ls m k=some (rs,r)->ls.flatten=za6 rs++r.flatten/\∃u,ls=u++r
 |0,ls,m,k,rs,r,hl,h=>by
  unfold vw at h;split at h
  ·obtain⟨rfl,rfl⟩:=yk1 (yl0 h);exact⟨rfl,[],rfl⟩
  ·cases h
 |fu+1,ls,m,k,rs,r,hl,h=>by
  by_cases h0:m=0/\k=0
  ·obtain⟨rfl,rfl⟩:=h0
   rw[zid] at h;obtain⟨rfl,rfl⟩:=yk1 (yl0 h);exact⟨rfl,[],rfl⟩
  ·by_cases hneg:m<0\/k<0
   ·rw[zd1 hneg] at h;cases h
   ·match ls,hl,h with
    |[],_,h=>rw[zkc h0] at h;cases h
    |[]::_,hl,_=>obtain⟨w,e,_⟩:=hl [] (yk0 ..);simp at e
    |(c::t)::rest,hl,h=>
     rw[zf8 h0 hneg] at h;by_cases hk:qo c=0
     ·rw[yx0 hk] at h;cases h
     ·rw[yw0 hk] at h
      obtain⟨p,hp,e⟩:=yk2.1 h;obtain⟨rs',r'⟩:=p;obtain⟨rfl,rfl⟩:=yk1 e;obtain⟨i1,u,i2⟩:=zuo fu (λl h=>hl l (yg0 _ (zgb h))) hp;obtain⟨w,ht,hw,he,hpl,hne⟩:=qei (hl _ (yk0 ..)) (znh hk).2.2
      have hrow:rowT (mkRow (qo c) (jf t rest))=zbg [c] (jf t rest):=by
       unfold rowT;rw[(znh hk).2.1]
      have hcons:za6 (mkRow (qo c) (jf t rest)::rs')=rowT (mkRow (qo c) (jf t rest))++za6 rs':=by unfold za6;rw[yv1]
      rw[hcons,hrow];unfold jf;by_cases hh:rest.head?=some qy
      ·rw[yx0 hh,hpl]
       unfold zbg;rw[zwi hw,yd0];cases rest with
       |nil=>cases hh
       |cons n q=>
        obtain rfl:=yl0 hh;have:jg (qy::q)=q:=by unfold jg;rw[yx0 hh];rfl
        rw[this] at i1 i2;refine⟨?_,(c::t)::qy::u,by rw[yw1,yw1,<-i2]⟩;rw[yd1,yd1,i1,ht];unfold zgs;simp
      ·rw[yw0 hh]
       unfold zbg;rw[he,yb0];have:jg rest=rest:=by unfold jg;rw[yw0 hh]
       rw[this] at i1 i2;refine⟨?_,(c::t)::u,by rw[yw1,<-i2]⟩;rw[yd1,i1];simp
theorem zkd (x:PV zo)(rs:RW)(c:Int):((zu (x::rs) c).length:Int)=(if (x.1==c)=true then 0 else 1)+((zu rs c).length:Int):=by
 unfold zu;rw[List.filter_cons];cases h:(x.1==c)
 ·rw[yb1,yx0 rfl,List.map_cons,yf0,yw0 (by simp)];omega
 ·rw[ys0,yw0 (by simp),yx0 rfl];omega
theorem z9c:∀(fu:Nat) {ls:TX} {m k:Int} {rs:RW} {r:TX},vw fu ls m k=some (rs,r)->((zu rs 3).length:Int)=m/\((zu rs 2).length:Int)=k
 |0,ls,m,k,rs,r,h=>by
  unfold vw at h;split at h
  ·rename_i h0
   obtain⟨rfl,rfl⟩:=yk1 (yl0 h);obtain⟨rfl,rfl⟩:=h0;exact⟨rfl,rfl⟩
  ·cases h
 |fu+1,ls,m,k,rs,r,h=>by
  by_cases h0:m=0/\k=0
  ·obtain⟨rfl,rfl⟩:=h0
   rw[zid] at h;obtain⟨rfl,rfl⟩:=yk1 (yl0 h);exact⟨rfl,rfl⟩
  ·by_cases hneg:m<0\/k<0
   ·rw[zd1 hneg] at h;cases h
   ·match ls,h with
    |[],h=>rw[zkc h0] at h;cases h
    |[]::_,h=>unfold vw at h;rw[yw0 h0,yw0 hneg] at h;cases h
    |(c::t)::rest,h=>
     rw[zf8 h0 hneg] at h;by_cases hk:qo c=0
     ·rw[yx0 hk] at h;cases h
     ·rw[yw0 hk] at h
      obtain⟨p,hp,e⟩:=yk2.1 h;obtain⟨rs',r'⟩:=p;obtain⟨rfl,rfl⟩:=yk1 e;obtain⟨i1,i2⟩:=z9c fu hp;rw[zkd,zkd,i1,i2];rw[show(mkRow (qo c) (jf t rest)).1=qo c from rfl,zm4,zm5];omega
theorem jaj (c:UInt8):zpk ((c.toNat:Nat):Int)=some ((qo c,()),()):=by
 unfold zpk qo;rw[show(32:Int)=(((32:UInt8).toNat:Nat):Int) from rfl,show(45:Int)=(((45:UInt8).toNat:Nat):Int) from rfl,show(43:Int)=(((43:UInt8).toNat:Nat):Int) from rfl,zb3,zb3,zb3];by_cases h1:c=32
 ·rw[yx0 h1,yy0.2 h1];rfl
 ·rw[yw0 h1,yo0.2 h1,yd0]
  by_cases h2:c=45
  ·rw[yx0 h2,yy0.2 h2];rfl
  ·rw[yw0 h2,yo0.2 h2,yd0]
   by_cases h3:c=43
   ·rw[yx0 h3,yy0.2 h3];rfl
   ·rw[yw0 h3,yo0.2 h3,yd0]
def zi4 (rest:TX):Nat:=if rest.head?=some qy then 2 else 1
theorem q8n {L pre:TX}{c:UInt8}{t:List UInt8}{rest:TX}{acc:RW}{m k:Int}(hL:L=pre++(c::t)::rest)(hln:rest≠[]->isL (c::t))
 (hTL:t.length<=9223372036854775807)(hmk:m+k>0)(hlen:L.length<=3000)(hacc:acc.length<=6000)(hm: -100000<=m/\m<=100000)(hk: -100000<=k/\k<=100000):
 zjj L m k acc ((pre.length:Nat):Int)=if qo c=0 then some (.inr (acc,((pre.length:Nat):Int),())) else
  some (.inl (L,m -mN c,k -kN c,acc++[mkRow (qo c) (jf t rest)],((pre.length+zi4 rest:Nat):Int),())):=by
 have hll:L.length=pre.length+rest.length+1:=by rw[hL];simp;omega
 have hg:L.getD pre.length []=c::t:=by rw[hL];simp
 unfold zjj
 rw[yc0 (by omega:((pre.length:Nat):Int)<(L.length:Int)),yb0,wrap64 (by omega) (by omega),yc0 (by omega:m+k>0),yb0,zq (by omega:pre.length<L.length),yb0,toNat_cast,hg,
  show inB 0 (c::t).length=true from zq (i:=0) (by simp),yb0,show(c::t).getD (0:Int).toNat 0=c from rfl,jaj,ya0]
 dsimp only;by_cases h0:qo c=0
 ·rw[yx0 h0,h0];rfl
 ·rw[yw0 h0,show(qo c==0)=false from yo0.2 h0,yd0,yb0,za2,yb0,drop_one,wrap64 (x:=((pre.length:Nat):Int)+1) (by omega) (by omega)]
  have hq:∀{X:Type} (F:Bool->Option X),(bif decide (((pre.length:Nat):Int)+1<(L.length:Int)) then bif inB (((pre.length:Nat):Int)+1) L.length then
   bif (L.getD (((pre.length:Nat):Int)+1).toNat []==qy) then F true else F false else none else F false:Option X)=F (rest.head?==some qy):=by
   intro X F;cases rest with
   |nil=>
    rw[yi0 (by simp at hll;omega:¬((pre.length:Nat):Int)+1<(L.length:Int))];rfl
   |cons n r=>
    have hn:L.getD (pre.length+1) []=n:=by
     rw[hL,yg2,ya2 (by omega)];simp
    rw[yc0 (by simp at hll;omega:((pre.length:Nat):Int)+1<(L.length:Int)),yb0,show(((pre.length:Nat):Int)+1)=((pre.length+1:Nat):Int) from rfl,zq (by simp at hll;omega:pre.length+1<L.length),yb0,toNat_cast,hn];rw[show((n::r).head?==some qy)=(n==qy) from rfl];cases(n==qy)<;>rfl
  have hne:rest.head?=some qy->t≠[]/\endP t=true:=by
   intro h;obtain⟨_,_,_,q1,_,q2⟩:=qei (hln (λe=>by rw[e] at h;cases h)) (znh h0).2.2;exact⟨q2,q1⟩
  have hF:=hq (λq=>(some (L,m,k,acc,((pre.length:Nat):Int)+1,qo c,t,m,k,m+k,true,(bif q then !(t==[]) else false),()):Option ((PV zf×PV (.int .i64)×PV (.int .i64)×PV zi×PV (.int .i64)×PV (.int .i64)×PV .str×PV (.int .i64)×PV (.int .i64)×PV (.int .i64)×PV .bool×PV .bool×Unit))));simp only[yb0,yd0] at hF;rw[hF,ya0];dsimp only
  have hw:∀z:Bool,z=(rest.head?==some qy)->((bif (bif z then !(t==[]) else false) then
   bif cutB 0 (IntKind.wrap .i64 ((t.length:Int) -1)) t.length then
    some (L,m,k,acc,(IntKind.wrap .i64 (((pre.length:Nat):Int)+1+1)),qo c,(cutL 0 (IntKind.wrap .i64 ((t.length:Int) -1)) t),m,k,m+k,true,())
   else none
   else some (L,m,k,acc,((pre.length:Nat):Int)+1,qo c,t,m,k,m+k,true,()):Option ((PV zf×PV (.int .i64)×PV (.int .i64)×PV zi×PV (.int .i64)×PV (.int .i64)×PV .str×PV (.int .i64)×PV (.int .i64)×PV (.int .i64)×PV .bool×Unit))))=
    some (L,m,k,acc,((pre.length+zi4 rest:Nat):Int),qo c,jf t rest,m,k,m+k,true,()):=by
   rintro z rfl;unfold zi4 jf;by_cases hh:rest.head?=some qy
   ·obtain⟨q1,q2⟩:=hne hh
    have ht1:1<=t.length:=yq2.2 q1;rw[show(rest.head?==some qy)=true from yy0.2 hh,yb0,show(t==[])=false from yo0.2 q1,yb1,yb0,yx0 hh,yx0 hh];by_cases htl:t.length<=9223372036854775807
    ·rw[wrap64 (x:=(t.length:Int) -1) (by omega) (by omega),show(t.length:Int) -1=((t.length -1:Nat):Int) by omega,show cutB 0 ((t.length -1:Nat):Int) t.length=true from by unfold cutB;simp,yb0,wrap64 (by omega) (by omega)]
     unfold zbh;rw[q2,yb0]
     have:cutL 0 ((t.length -1:Nat):Int) t=t.take (t.length -1):=by
      show(t.take ((t.length -1:Nat):Int).toNat).drop 0=_;rw[toNat_cast,List.drop_zero]
     rw[this];rfl
    ·exact absurd hTL htl
   ·rw[show(rest.head?==some qy)=false from yo0.2 hh,yd0,yd0,yw0 hh,yw0 hh]
    rfl
  rw[hw _ rfl,ya0];dsimp only;have hroom:qm (acc.length+[mkRow (qo c) (jf t rest)].length)=true:=jc (by simp;omega);rw[<-zm4,<-zm5];cases q3:(qo c==3)<;>cases q2:(qo c==2)
  ·rw[yb1,yb0,ya0]
   dsimp only;rw[q2,yb1,yb0,ya0];dsimp only;rw[hroom,yb0,wrap64 (by omega) (by omega),wrap64 (by omega) (by omega)];rfl
  ·rw[yb1,yb0,ya0]
   dsimp only;rw[q2,ys0,yd0,ya0];dsimp only;rw[hroom,yb0,wrap64 (by omega) (by omega)];simp
  ·rw[ys0,yd0,ya0]
   dsimp only;rw[q2,yb1,yb0,ya0];dsimp only;rw[hroom,yb0,wrap64 (by omega) (by omega)];simp
  ·rw[yy0] at q3 q2
   omega
theorem qej {L:TX}{m k:Int}{acc:RW}{n:Nat}(hm: -100000<=m/\m<=100000)(hk: -100000<=k/\k<=100000)(h:n=L.length\/m+k<=0):zjk (L,m,k,acc,(n:Int),())=some (acc,(n:Int),()):=by
 refine jh ?_;show zjj L m k acc (n:Int)=_;unfold zjj;by_cases h1:n<L.length
 ·rw[yc0 (by omega:(n:Int)<(L.length:Int)),yb0,wrap64 (by omega) (by omega),yi0 (by omega:¬m+k>0),yd0]
 ·rw[yi0 (by omega:¬(n:Int)<(L.length:Int)),yd0]
end R.U
end

section
/- Groups: the rows as the reference reads them, and what lines tell. -/
open Go Go.Dn
namespace R.U
theorem q4e (rest:TX):∃u,rest=u++jg rest/\u.length+1=zi4 rest:=by
 unfold jg zi4;by_cases h:rest.head?=some qy
 ·rw[yx0 h,yx0 h]
  cases rest with
  |nil=>cases h
  |cons n r=>exact⟨[n],rfl,rfl⟩
 ·rw[yw0 h,yw0 h]
  exact⟨[],rfl,rfl⟩
theorem q8o:∀(fu:Nat) (L pre ls:TX) (acc:RW) (m k:Int),L=pre++ls->ls.length<=fu->L.length<=3000->LN ls->(∀l∈ls,l.length<=3000)->Rw acc pre.length->(-50000+(ls.length:Int)<=m/\m<=40000)->(-50000+(ls.length:Int)<=k/\k<=40000)->
 ∃(rs:RW) (u r:TX),ls=u++r/\Rw (acc++rs) 3000/\zjk (L,m,k,acc,((pre.length:Nat):Int),())=some (acc++rs,((pre.length+u.length:Nat):Int),())/\
  ((vw fu ls m k=some (rs,r))\/(vw fu ls m k=none/\¬(((zu rs 3).length:Int)=m/\((zu rs 2).length:Int)=k))):=by
 intro fu
 induction fu with
 |zero=>
  intro L pre ls acc m k e hl hL hn h3 hacc hm hk;obtain rfl:=yt0 (Nat.le_zero.1 hl);have hpl:pre.length=L.length:=by rw[e];simp
  refine⟨[],[],[],rfl,⟨by rw[yz0];exact hacc.1,by rw[yz0];have:=hacc.2;omega⟩,by rw[yz0];exact qej (by omega) (by omega) (.inl hpl),?_⟩;by_cases h0:m=0/\k=0
  ·obtain⟨rfl,rfl⟩:=h0
   exact .inl (zid _ _)
  ·exact .inr ⟨zkc h0,λh=>h0 ⟨h.1.symm,h.2.symm⟩⟩
 |succ fu ih=>
  intro L pre ls acc m k e hl hL hn h3 hacc hm hk;have hll:L.length=pre.length+ls.length:=by rw[e];simp
  have hacc3:Rw acc 3000:=⟨hacc.1,by have:=hacc.2;omega⟩
  have stop:(pre.length=L.length\/m+k<=0)->(¬(m=0/\k=0)->vw (fu+1) ls m k=none)->∃(rs:RW) (u r:TX),ls=u++r/\Rw (acc++rs) 3000/\zjk (L,m,k,acc,((pre.length:Nat):Int),())=some (acc++rs,((pre.length+u.length:Nat):Int),())/\
   ((vw (fu+1) ls m k=some (rs,r))\/(vw (fu+1) ls m k=none/\¬(((zu rs 3).length:Int)=m/\((zu rs 2).length:Int)=k))):=by
   intro hs hq;refine⟨[],[],ls,rfl,by rw[yz0];exact hacc3,by rw[yz0];exact qej (by omega) (by omega) hs,?_⟩;by_cases h0:m=0/\k=0
   ·obtain⟨rfl,rfl⟩:=h0
    exact .inl (zid _ _)
   ·exact .inr ⟨hq h0,λh=>h0 ⟨h.1.symm,h.2.symm⟩⟩
  by_cases hp:m+k>0
  ·have h0:¬(m=0/\k=0):=by omega
   match ls,e,hl,hn,h3,hm,hk,hll,stop with
   |[],_,_,_,_,_,_,hll,stop=>exact stop (.inl (by simpa using hll.symm)) λh=>zkc h
   |[]::_,_,_,hn,_,_,_,_,_=>exact absurd rfl hn.1
   |(c::t)::rest,e,hl,hn,h3,hm,hk,hll,stop=>
    have ht:t.length<=3000:=by have:=h3 _ (yk0 ..);simp at this;omega
    have hlen:(((c::t)::rest:TX)).length=rest.length+1:=rfl;rw[hlen] at hl hm hk hll;have ha:=hacc.2;have hst:=q8n (c:=c) (t:=t) (rest:=rest) (acc:=acc) (m:=m) (k:=k) e (λhr=>hn.2.1.resolve_right λq=>hr q.2) (by omega) hp hL (by omega) (by omega) (by omega);by_cases hkd:qo c=0
    ·rw[yx0 hkd] at hst
     have hq:vw (fu+1) ((c::t)::rest) m k=none:=by
      by_cases hneg:m<0\/k<0
      ·exact zd1 hneg
      ·rw[zf8 h0 hneg,yx0 hkd]
     refine⟨[],[],(c::t)::rest,rfl,by rw[yz0];exact hacc3,by rw[yz0];exact jh hst,.inr ⟨hq,λh=>h0 ⟨h.1.symm,h.2.symm⟩⟩⟩
    ·rw[yw0 hkd] at hst
     have hbd:=zxo c;have hrl:=zp8 rest;have hline:=zu8 t rest;obtain⟨v,hv,hvl⟩:=q4e rest;have hrw:RowW (mkRow (qo c) (jf t rest)):=⟨(znh hkd).1,by show(jf t rest).length<=3000;omega⟩;have hpre:(pre++((c::t)::v)).length=pre.length+zi4 rest:=by rw[ye0,yf0];omega
     have hacc2:Rw (acc++[mkRow (qo c) (jf t rest)]) (pre++((c::t)::v)).length:=by
      refine⟨λx hx=> ?_,by rw[hpre,ye0];simp;omega⟩;rcases yu0.1 hx with hx|hx
      ·exact hacc.1 x hx
      ·obtain rfl:=yl1.1 hx
       exact hrw
     obtain⟨rs,u,r,j1,j2,j3,j4⟩:=ih L (pre++((c::t)::v)) (jg rest) (acc++[mkRow (qo c) (jf t rest)]) (m -mN c) (k -kN c) (by
      rw[e,yj0,yw1,<-hv]) (by omega) hL (q6n hn.2.2) (λl hl=>h3 l (yg0 _ (zgb hl))) hacc2 (by omega) (by omega)
     rw[hpre] at j3;rw[yj0] at j2 j3;refine⟨mkRow (qo c) (jf t rest)::rs,(c::t)::(v++u),r,by rw[yw1,yj0,<-j1,<-hv],j2,?_,?_⟩
     ·rw[show zjk (L,m,k,acc,((pre.length:Nat):Int),())=_ from zal hst]
      refine Eq.trans j3 ?_;rw[show pre.length+zi4 rest+u.length=pre.length+((c::t)::(v++u)).length by rw[yf0,ye0];omega];rfl
     ·have hside:¬(((zu rs 3).length:Int)=m -mN c/\((zu rs 2).length:Int)=k -kN c)->¬(((zu (mkRow (qo c) (jf t rest)::rs) 3).length:Int)=m/\((zu (mkRow (qo c) (jf t rest)::rs) 2).length:Int)=k):=by
       intro h h2;rw[zkd,zkd,show(mkRow (qo c) (jf t rest)).1=qo c from rfl,zm4,zm5] at h2;exact h ⟨by omega,by omega⟩
      by_cases hneg:m<0\/k<0
      ·refine .inr ⟨zd1 hneg,?_⟩
       rcases j4 with j4|j4
       ·rw[zd1 (by omega)] at j4;cases j4
       ·exact hside j4.2
      ·rw[zf8 h0 hneg,yw0 hkd]
       rcases j4 with j4|j4
       ·exact .inl (by rw[j4];rfl)
       ·exact .inr ⟨by rw[j4.1];rfl,hside j4.2⟩
  ·refine stop (.inr (by omega)) λh0=>zd1 (by omega)
inductive GQ:TX->GR->Prop
 |nil:GQ [] []
 |cons {l o f:List UInt8} {a m b k:Int} {rest r:TX} {rs:RW} {gs:GR}:zdk l o f a m b k->vw rest.length rest m k=some (rs,r)->GQ r gs->GQ (l::rest) ((a,(b,(rs,())))::gs)
theorem zk6 (o f:List UInt8):hdP o f=hdQ o f++[10]:=by unfold hdP hdQ;simp
theorem qek {o f o' f':List UInt8}(h:hdP o f=hdP o' f')(h1:(32:UInt8)∉o)(h2:(32:UInt8)∉f)(h3:(32:UInt8)∉o')(h4:(32:UInt8)∉f'):o=o'/\f=f':=by
 rw[zk6,zk6] at h;have:=zmw h1 h2;rw[List.append_cancel_right h,zmw h3 h4] at this;simp only[List.cons.injEq] at this;exact⟨this.2.1.2.symm,this.2.2.1.2.symm⟩
theorem zqb {l o f o' f':List UInt8}{a m b k a' m' b' k':Int}(h:zdk l o f a m b k)(h':zdk l o' f' a' m' b' k'):a=a'/\m=m'/\b=b'/\k=k':=by
 obtain⟨rfl,rfl⟩:=qek (h.1.symm.trans h'.1) (zcx h.2.1) (zcx h.2.2) (zcx h'.2.1) (zcx h'.2.2);have e1:=yl0 (h.2.1.symm.trans h'.2.1);have e2:=yl0 (h.2.2.symm.trans h'.2.2);obtain⟨rfl,rfl⟩:=yk1 e1;obtain⟨rfl,rfl⟩:=yk1 e2;exact⟨rfl,rfl,rfl,rfl⟩
theorem zq5:∀{ls:TX} {gs gs':GR},GQ ls gs->GQ ls gs'->gs=gs':=by
 intro ls gs gs' h
 induction h generalizing gs' with
 |nil=>intro h;cases h;rfl
 |cons hd hr hg ih=>
  intro h;cases h with
  |cons hd' hr' hg'=>
   obtain⟨rfl,rfl,rfl,rfl⟩:=zqb hd hd';rw[hr] at hr';obtain⟨rfl,rfl⟩:=yk1 (yl0 hr');rw[ih hg']
theorem z9d (o f:List UInt8)(h1:o.length<=100000)(h2:f.length<=100000):zhw o f=some ((hdP o f,()),()):=by
 unfold zhw hdP;rw[yc0 (by simp only[yf0,yp0];omega),yb0,yc0 (by simp only[ye0,yf0,yp0];omega),yb0,yc0 (by simp only[ye0,yf0,yp0];omega),yb0,yc0 (by simp only[ye0,yf0,yp0];omega),yb0]
theorem jak (l:List UInt8)(rest:TX)(hl:l.length<=3000)(hr:rest.length<=2999)(hn:∀x∈rest,x≠[]/\x.length<=3000):
 (∃o f a m b k rs r,zdk l o f a m b k/\vw rest.length rest m k=some (rs,r)/\Rw rs 3000/\(∃u,rest=u++r)/\zcw (l::rest)=some (((a,(b,(rs,()))),hdP o f++za6 rs,r,true,()),()))\/
 ((∀o f a m b k rs r,zdk l o f a m b k->vw rest.length rest m k=some (rs,r)->False)/\∃g tx r,zcw (l::rest)=some ((g,tx,r,false,()),())):=by
 rcases jah l rest (by omega) with⟨o,f,a,m,b,k,hH,hT⟩|⟨hno,hT⟩
 ·have g1:=zdw hH.2.1
  have g2:=zdw hH.2.2;have ho:=z7z hH.2.1;have hf:=z7z hH.2.2;obtain⟨i1,i2⟩:=q8l rest.length rest GZ o f a b [] m k (ym0 _) hn ⟨λr hr=>(by cases hr),ye1 _⟩ (by omega) (by omega) (by omega);cases hq:vw rest.length rest m k with
  |some p=>
   obtain⟨rs,r⟩:=p;obtain⟨j1,j2,j3⟩:=i1 rs r hq;rw[yp1] at j1;have hw:=zvb j1.2 j1.1;refine .inl ⟨o,f,a,m,b,k,rs,r,hH,hq,j1,j2,?_⟩;rw[hT,j3];unfold zrx;rw[ya0];dsimp only;rw[z9d o f (by omega) (by omega),ya0,yp1,z9b j1.2 j1.1,ya0];dsimp only;rw[yc0 (by unfold hdP;simp only[ye0,yf0,yp0];omega),yb0];rfl
  |none=>
   refine .inr ⟨λo' f' a' m' b' k' rs r h h2=> ?_,?_⟩
   ·obtain⟨rfl,rfl,rfl,rfl⟩:=zqb hH h
    rw[hq] at h2;cases h2
   ·rcases i2 hq with j|⟨r,acc',m',k',j1,j2,j3⟩
    ·refine⟨GZ,[],[],?_⟩
     rw[hT,j];rfl
    ·have hw:=zvb j1.2 j1.1
     refine⟨(a,(b,(acc',()))),hdP o f++za6 acc',r,?_⟩;rw[hT,j3];unfold zrx;rw[ya0];dsimp only;rw[z9d o f (by omega) (by omega),ya0,z9b j1.2 j1.1,ya0];dsimp only;rw[yc0 (by unfold hdP;simp only[ye0,yf0,yp0];omega),yb0];by_cases hm0:m'=0
     ·have hk0:k'≠0:=by omega
      rw[show(m'==0)=true from yy0.2 hm0,show(k'==0)=false from yo0.2 hk0];rfl
     ·rw[show(m'==0)=false from yo0.2 hm0];rfl
 ·exact .inr ⟨λo f a m b k rs r h _=>hno o f a m b k h,GZ,[],[],hT⟩
end R.U
end

section
/- Groups, as the program reads them. -/
open Go Go.Dn
namespace R.U
theorem zku {t:List UInt8}(h:endP t=true):t≠[]:=by rintro rfl;cases h
theorem zwn (o f:List UInt8):endP (hdP o f)=true:=by
 unfold hdP;rw[zb0 (by simp)];decide
theorem q8p {o f l:List UInt8}(h:l=hdP o f):(hdP o f).length=l.length:=by rw[h]
theorem z9e (sg s:List UInt8):endP (zbg sg s)=true:=by
 unfold zbg;cases h:endP s
 ·rw[yd0,zb0 (by unfold zgs;simp)];decide
 ·rw[yb0,zb0 (zku h),h]
theorem zvc:∀{rs:RW} {x:List UInt8},endP x=true->endP (x++za6 rs)=true
 |[],x,h=>by unfold za6;simpa using h
 |r::rs,x,h=>by
  unfold za6;rw[yv1,<-yj0];exact zvc (rs:=rs) (by unfold rowT;rw[zb0 (zku (z9e _ _)),z9e])
theorem q4f:∀(n:Nat) (ls:TX) (out:GR) (text:List UInt8),ls.length<=n->ls.length<=3000->(∀x∈ls,x≠[]/\x.length<=3000)->out.length<=20->text.length<=10000000*out.length->
 (∃gs tx,GQ ls gs/\out.length+gs.length<=20/\(∀x∈gs,Rw x.2.2.1 3000)/\((∀l∈ls,isL l)->tx=ls.flatten)/\(ls≠[]->endP tx=true)/\zle (ls,out,text,())=some (.inl (out++gs,text++tx,())))\/
 ((∀gs,GQ ls gs->¬out.length+gs.length<=20)/\zle (ls,out,text,())=some (.inr ([],[],false,()))):=by
 intro n
 induction n with
 |zero=>
  intro ls out text hl h3 hn ho ht;obtain rfl:=yt0 (Nat.le_zero.1 hl);exact .inl ⟨[],[],.nil,by simpa using ho,λx hx=>(by cases hx),λ_=>rfl,λh=>absurd rfl h,by rw[yz0,yz0];exact jh rfl⟩
 |succ n ih=>
  intro ls out text hl h3 hn ho ht;cases ls with
  |nil=>exact .inl ⟨[],[],.nil,by simpa using ho,λx hx=>(by cases hx),λ_=>rfl,λh=>absurd rfl h,by rw[yz0,yz0];exact jh rfl⟩
  |cons l rest=>
   rw[yf0] at hl h3;have hpos:decide ((((l::rest:TX)).length:Int)>0)=true:=yc0 (by simp);rcases jak l rest (hn l (yk0 ..)).2 (by omega) (λx hx=>hn x (yg0 _ hx)) with⟨o,f,a,m,b,k,rs,r,hH,hq,hrw,⟨u,hu⟩,hT⟩|⟨hno,g,tx,r,hT⟩
   ·by_cases h20:out.length=20
    ·refine .inr ⟨λgs hg=> ?_,jh ?_⟩
     ·cases hg with
      |cons _ _ _=>rw[yf0];omega
     ·show zfs (l::rest) out text=_
      unfold zfs;rw[hpos,yb0,hT,ya0];dsimp only;rw[ys0,yd0,ya0];dsimp only;rw[show((out.length:Int)==20)=true from yy0.2 (by omega)];rfl
    ·have hw:=zvb hrw.2 hrw.1
     have hhl:=q8p hH.1;have hl3:=(hn l (yk0 ..)).2
     have hst:zle (l::rest,out,text,())=zle (r,out++[(a,(b,(rs,())))],text++(hdP o f++za6 rs),()):=by
      refine zal ?_;show zfs (l::rest) out text=_;unfold zfs;rw[hpos,yb0,hT,ya0];dsimp only;rw[ys0,yd0,ya0];dsimp only;rw[show((out.length:Int)==20)=false from yo0.2 (by omega),yd0,jc (by simp;omega),yb0,yc0 (by rw[ye0];omega),yb0]
     rw[hst];have hrl:r.length<=rest.length:=by rw[hu];simp
     rcases ih r (out++[(a,(b,(rs,())))]) (text++(hdP o f++za6 rs)) (by omega) (by omega) (λx hx=>hn x (by rw[hu];simp[hx])) (by rw[ye0];simp;omega) (by rw[ye0,ye0,ye0];simp;omega) with⟨gs,tx,j1,j2,j3,j4,j5,j6⟩|⟨j1,j2⟩
     ·refine .inl ⟨(a,(b,(rs,())))::gs,(hdP o f++za6 rs)++tx,.cons hH hq j1,by rw[ye0] at j2;simp at j2 ⊢;omega,λx hx=> ?_,λhE=> ?_,λ_=> ?_,?_⟩
      ·rcases yg1.1 hx with rfl|hx
       ·exact hrw
       ·exact j3 x hx
      ·obtain⟨q1,_⟩:=zuo _ (λx hx=>hE x (yg0 _ hx)) hq
       rw[yd1,q1,j4 λx hx=>hE x (yg0 _ (by rw[hu];simp[hx])),hH.1,yj0]
      ·by_cases hr:r=[]
       ·subst hr
        cases j1;have:tx=[]:=by simpa using j4 (λx hx=>by cases hx)
        rw[this,yz0];exact zvc (zwn o f)
       ·have:=j5 hr
        rw[zb0 (zku this),this]
      ·rw[j6,yj0,yj0];rfl
     ·refine .inr ⟨λgs hg=> ?_,j2⟩
      cases hg with
      |cons hd' hr' hg'=>
       obtain⟨rfl,rfl,rfl,rfl⟩:=zqb hH hd';rw[hq] at hr';obtain⟨rfl,rfl⟩:=yk1 (yl0 hr');have:=j1 _ hg';rw[ye0] at this;rw[yf0];simp at this;omega
   ·refine .inr ⟨λgs hg=> ?_,jh ?_⟩
    ·cases hg with
     |cons hd hr hg=>exact absurd hr λh=>hno _ _ _ _ _ _ _ _ hd h
    ·show zfs (l::rest) out text=_
     unfold zfs;rw[hpos,yb0,hT,ya0];rfl
theorem qfe {gs:GR}(h1:gs.length<=1000000)(h:∀x∈gs,Rw x.2.2.1 3000):SmG gs:=
 ⟨by omega,λx hx=>⟨by have:=(h x hx).2;omega,λr hr=>by have:=((h x hx).1 r hr).2;omega⟩⟩
theorem znp:∀{ls:TX},LN ls->(∀l∈ls,isL l)\/(ls.flatten≠[]/\endP ls.flatten=false)
 |[],_=>.inl λl h=>by cases h
 |l::r,⟨h1,h2,h3⟩=>by
  rcases h2 with h2|⟨h2,rfl⟩
  ·rcases znp h3 with h|⟨ha,hb⟩
   ·exact .inl λx hx=>(yg1.1 hx).elim (λe=>e▸h2) (h x)
   ·exact .inr ⟨by rw[yd1];simp[ha],by rw[yd1,zb0 ha,hb]⟩
  ·refine .inr ⟨by simpa using h1,?_⟩
   rw[yd1,List.flatten_nil,yz0];exact zwi h2
theorem zno (s:List UInt8):∃res,zja s=some (res,())/\
 ((∃gs,s.length<=3000/\GQ (cutP s) gs/\(∀l∈cutP s,isL l)/\jo gs=true/\res=(gs,0,true,()))\/
  ((∀gs,s.length<=3000->GQ (cutP s) gs->(∀l∈cutP s,isL l)->jo gs=true->False)/\res=([],1,false,()))):=by
 unfold zja;by_cases hs:s.length<=3000
 ·rw[yc0 (by omega:(s.length:Int)<=3000),yb0,qa1 s (by omega),ya0]
  dsimp only;unfold zsn;have hln:=zil s;rcases q4f (cutP s).length (cutP s) [] [] (ym0 _) (by omega) (λx hx=>⟨zne hx,by have:=zm0 hx;omega⟩) (ye1 _) (ye1 _) with⟨gs,tx,j1,j2,j3,j4,j5,j6⟩|⟨j1,j2⟩
  ·rw[j6,ya0]
   dsimp only;rw[yp1,yp1,ya0];dsimp only;rw[yb0];have hS:SmG gs:=qfe (by simp at j2;omega) j3;cases ht:tx==s
   ·refine⟨([],1,false,()),rfl,.inr ⟨λgs' _ _ hE _=> ?_,rfl⟩⟩
    rw[j4 hE,zj3,yn1] at ht;cases ht
   ·have hE:∀l∈cutP s,isL l:=by
     by_cases h0:s=[]
     ·subst h0;intro l hl;cases hl
     ·have he:endP s=true:=by
       rw[<-yy0.1 ht];exact j5 (zvu h0)
      rcases znp (zxa s.length s (ym0 _)) with h|h
      ·exact h
      ·rw[zj3] at h;rw[h.2] at he;cases he
    rw[yb0,zvw hS,ya0];dsimp only;cases hg:jo gs
    ·refine⟨([],1,false,()),rfl,.inr ⟨λgs' _ h1 _ h3=> ?_,rfl⟩⟩
     rw[zq5 h1 j1,hg] at h3;cases h3
    ·exact⟨(gs,0,true,()),rfl,.inl ⟨gs,hs,j1,hE,hg,rfl⟩⟩
  ·rw[j2,ya0]
   refine⟨([],1,false,()),rfl,.inr ⟨λgs _ h1 _ h3=>j1 gs h1 ?_,rfl⟩⟩;unfold jo at h3;rw[yh0,yr0] at h3;simpa using h3.1
 ·rw[yi0 (by omega:¬(s.length:Int)<=3000)]
  exact⟨([],1,false,()),rfl,.inr ⟨λgs h _ _ _=>hs h,rfl⟩⟩
end R.U
end
