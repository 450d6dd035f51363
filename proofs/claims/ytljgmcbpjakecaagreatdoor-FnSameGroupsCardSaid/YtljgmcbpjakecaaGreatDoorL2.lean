/- Parts of the proof: Dt Du Dv Dw Dx Ea Dy Dz Eb Ec Ed Fa Fb Fc Fd Fe Fh Fj. -/
import Derived.Test.YtljgmcbpjakecaaGreatDoorL1
import Derived.ChangeKeysEq
import Derived.Laws.StructEq
import Derived.ReadAgain
import Derived.ChangeSame
import Derived.OpenShut
import Derived.RowKit
import Derived.ChangeAt
import Derived.WalkKit
import Derived.ProofKit
import Derived.Handed
import Derived.ChangeOld
import Derived.ShutString
import Derived.Shelf.Strings.Search3
import Derived.Lib.IndexAny
import Derived.Laws.Cover3
import Derived.Shelf.Strconv.Itoa3
import Derived.Lib.LaidTab
import Derived.Shelf.Strings.OnBuilder
import Derived.Shelf.Spec.SlicesGrow
set_option linter.unusedVariables false
section
/- Every operation that the interpreter takes does in the machine what it says. -/
namespace Go.Dn
def ntOk (P:Program)(t:TypeId):Bool:=
 !P.eqGuardType P.depth t&&(!P.stoodInHeld t&&match (P.fieldsOf t).toList with
  |[f,g]=>(f.name != "_"&&g.name != "_")&&((f.offset==0&&g.offset==1)&&((match P.underlying f.type with|some (.int .i64)=>true|_=>false)&&(match P.underlying g.type with|some .string=>true|_=>false)))
  |_=>false)
def zbi (P:Program)(cx:Cx):Prop:=
 cx.tab.all (λq=>(match P.underlying q.1 with|some (.array _ _)=>memN cx.arrs q.1&& !P.eqGuardType P.depth q.1|_=> !(memN cx.arrs q.1))&&(!isNT q.2||ntOk P q.1))=true
section
variable {w0 : World} {Pr0 M : Nat → Prop}
variable {P : Program} {cx : Cx} {E : Env} {V : List Value} {w w' : World} {Pr : Nat → Prop} {B : Nat → List Nat} {off : Nat} {a : Act}
theorem z9t (htab:ji P cx.tab)(harr:zbi P cx){tid:TypeId}{t:Ty}(hl:lookup cx.tab tid=some t)(hm:memN cx.arrs tid=false)(hag:t.agg=true):∃d fs,P.underlying tid=some d/\d=.struct fs:=by
 obtain⟨d,hd,hfit⟩:=(jr htab hl).und;have:=(Bool.and_eq_true_iff.1 (ys2.1 harr _ (zdv hl))).1;simp only[hd] at this;cases d with
 |struct fs=>exact⟨_,fs,hd,rfl⟩
 |array n e=>simp[hm] at this
 |_=>cases t<;>simp[fits,Ty.agg] at hfit hag
theorem zqd (htab:ji P cx.tab)(harr:zbi P cx){tid:TypeId}{t:Ty}(hl:lookup cx.tab tid=some t)(hm:memN cx.arrs tid=true):
 ∃n e a,P.underlying tid=some (.array n e)/\lookup cx.tab e=some a/\a.size≠0/\vk a n t=true/\t.agg=true:=by
 obtain⟨d,hd,hfit⟩:=(jr htab hl).und;have:=(Bool.and_eq_true_iff.1 (ys2.1 harr _ (zdv hl))).1;simp only[hd] at this;cases d with
 |array n e=>
  simp only[fits,yh0] at hfit;split at hfit
  ·rename_i a' ha'
   simp only[yh0,yj1,yo0] at hfit;exact⟨n,e,a',hd,ha',hfit.2.1,hfit.2.2,hfit.1⟩
  ·simp at hfit
 |_=>simp only[hm] at this;cases this
theorem qw1 (htab:ji P cx.tab)(harr:zbi P cx){tid:TypeId}{t:Ty}(hl:lookup cx.tab tid=some t)(hm:memN cx.arrs tid=true):P.eqGuardType P.depth tid=false:=by
 obtain⟨d,hd,hfit⟩:=(jr htab hl).und;have:=(Bool.and_eq_true_iff.1 (ys2.1 harr _ (zdv hl))).1;simp only[hd] at this;cases d with
 |array n e=>simpa[hm] using this
 |_=>simp only[hm] at this;cases this
theorem qtk {t:TypeId}(hg:P.eqGuardType P.depth t=false)(x y:Operand)(xs ys:Array Value):(eqGuard .eql t x y (.agg xs) (.agg ys)).run P w=.ok () w:=by
 simp[eqGuard,hg]
theorem q7e {t e:TypeId}{i:TypeInfo}(hu:P.underlying t=some (.array 2 e))(he:P.underlying e=some (.int .i64))(hi:P.info? e=some i)(hc:P.cellsOf e=1)(a b c d:Int):
 (Op.equal t (.agg #[.int .i64 a,.int .i64 b]) (.agg #[.int .i64 c,.int .i64 d])).run P w=.ok (a==c&&b==d) w:=by
 have hp:P.plainKey e=true:=by simp[Program.plainKey,he]
 have q:∀n,(Op.equalIn (n+1+1) t (.agg #[.int .i64 a,.int .i64 b]) (.agg #[.int .i64 c,.int .i64 d])).run P w=.ok (a==c&&b==d) w:=by
  intro n;rw[run_equalIn_array w (n+1) _ _ hu hi,hc];rw[show List.range 2=[0,1] from rfl];simp only[Op.eqItems,Sem.run_bind];rw[run_part_plain w hp (v:=.int .i64 a) (by rfl)];simp only[Result.andThen_ok];rw[run_part_plain w hp (v:=.int .i64 c) (by rfl)];simp only[Result.andThen_ok,run_equalIn_int w n e .i64 .i64 a c he];cases h:(a==c)
  ·simp
  ·rw[yw0 (by simp),Sem.run_bind,run_part_plain w hp (v:=.int .i64 b) (by rfl)]
   simp only[Result.andThen_ok,Sem.run_bind];rw[run_part_plain w hp (v:=.int .i64 d) (by rfl)];simp only[Result.andThen_ok,run_equalIn_int w n e .i64 .i64 b d he];cases b==d<;>simp
 unfold Op.equal;rw[show Op.maxDepth=9998+1+1 from rfl];exact q 9998
theorem qdm {Pr:Nat->Prop}{cs:List Value}{x:PV (.pair (.int .i64) (.pair (.int .i64) .unit))}(h:Rep w Pr (.pair (.int .i64) (.pair (.int .i64) .unit)) .b cs x []):cs=[.int .i64 x.1,.int .i64 x.2.1]:=by
 obtain⟨c1,c2,b1,b2,rfl,_,h1,h2⟩:=h;obtain⟨d1,d2,e1,e2,rfl,_,g1,g2⟩:=h2;have h1:c1=_:=h1.1;have g1:d1=_:=g1.1;have g2:d2=_:=g2.1;rw[h1,g1,g2];rfl
theorem q2r (htab:ji P cx.tab)(harr:zbi P cx){tid:TypeId}(hm:memN cx.arrs tid=true){op:BinOp}{p q:SV}{vp vq:Value}{z:Bool}{Q1 Q2:Nat->Prop}
 (hp:∃cs,vp=pack p.1 cs/\Rep w Q1 p.1 .b cs p.2 [])(hq:∃cs,vq=pack q.1 cs/\Rep w Q2 q.1 .b cs q.2 [])(h:zxc op (lookup cx.tab tid) p q=some z)(x y:Operand):
 (eqGuard op tid x y vp vq).run P w=.ok () w/\(binOp op tid vp vq).run P w=.ok (.bool z) w:=by
 unfold zxc at h;split at h
 ·rename_i hl
  obtain rfl:=yl0 h;obtain⟨c1,rfl,r1⟩:=hp;obtain⟨c2,rfl,r2⟩:=hq;simp only at r1 r2 ⊢;obtain⟨n,e,a',h1,h2,h3,h4,_⟩:=zqd htab harr hl hm
  have hn:n=2/\a'=.int .i64:=by
   cases n with
   |zero=>simp[vk] at h4
   |succ n=>
    cases n with
    |zero=>simp[vk] at h4
    |succ n=>
     cases n with
     |zero=>simp[vk] at h4;exact⟨rfl,h4.symm⟩
     |succ n=>simp[vk] at h4
  obtain⟨rfl,rfl⟩:=hn;obtain⟨d,hd,hfit⟩:=(jr htab h2).und;obtain⟨i,zz,hi,hsz,_⟩:=(jr htab h2).info;have hd':d=.int .i64:=by cases d<;>simp[fits,Ty.agg] at hfit;rw[hfit]
  subst hd';have hc:P.cellsOf e=1:=by simp[Program.cellsOf,hi,hsz,Ty.size]
  rw[qdm r1,qdm r2];refine⟨qtk (qw1 htab harr hl hm) _ _ _ _,?_⟩;have:=q7e (w:=w) h1 hd hi hc;show(binOp .eql tid (.agg _) (.agg _)).run P w=_;simp only[binOp,Sem.run_bind]
  erw [this]
  rfl
 ·cases h
theorem zq9 {Pr:Nat->Prop}{cs:List Value}{x:PV (.pair (.int .i64) (.pair .str .unit))}(h:Rep w Pr (.pair (.int .i64) (.pair .str .unit)) .b cs x []):cs=[.int .i64 x.1,.string ⟨⟨x.2.1⟩⟩]:=by
 obtain⟨c1,c2,b1,b2,rfl,_,h1,h2⟩:=h;obtain⟨d1,d2,e1,e2,rfl,_,g1,g2⟩:=h2;have h1:c1=_:=h1.1;have g1:d1=_:=g1.1;have g2:d2=_:=g2.1;rw[h1,g1,g2];rfl
theorem qbu {t:TypeId}(hs:∃fs,P.underlying t=some (.struct fs))(hok:ntOk P t=true)(a c:Int)(b d:List UInt8):
 (Op.equalIn 10000 t (.agg #[.int .i64 a,.string ⟨⟨b⟩⟩]) (.agg #[.int .i64 c,.string ⟨⟨d⟩⟩])).run P w=.ok (a==c&&b==d) w:=by
 obtain⟨fs,hu⟩:=hs;have hf:P.fieldsOf t=fs:=by unfold Program.fieldsOf;rw[hu]
 unfold ntOk at hok;rw[yh0,yh0] at hok;obtain⟨_,h2,h3⟩:=hok;rw[run_equalIn_struct w 9999 t _ _ (by rw[hf];exact hu) (by simpa using h2)];split at h3
 ·rename_i f g hl
  simp only[yh0,bne_iff_ne,ne_eq,yy0] at h3;obtain⟨⟨n1,n2⟩,⟨o1,o2⟩,u1,u2⟩:=h3
  have u1':P.underlying f.type=some (.int .i64):=by
   split at u1
   ·assumption
   ·cases u1
  have u2':P.underlying g.type=some .string:=by
   split at u2
   ·assumption
   ·cases u2
  have p1:P.plainKey f.type=true:=by simp[Program.plainKey,u1']
  have p2:P.plainKey g.type=true:=by simp[Program.plainKey,u2']
  rw[hl];unfold Op.eqFields;rw[yx0 n1,Sem.run_bind,o1,run_part_plain w p1 (v:=.int .i64 a) (by rfl)];simp only[Result.andThen_ok,Sem.run_bind];rw[run_part_plain w p1 (v:=.int .i64 c) (by rfl)];simp only[Result.andThen_ok,run_equalIn_int w 9998 f.type .i64 .i64 a c u1'];cases h:(a==c)
  ·simp
  ·rw[yw0 (by simp)]
   unfold Op.eqFields;rw[yx0 n2,Sem.run_bind,o2,run_part_plain w p2 (v:=.string ⟨⟨b⟩⟩) (by rfl)];simp only[Result.andThen_ok,Sem.run_bind];rw[run_part_plain w p2 (v:=.string ⟨⟨d⟩⟩) (by rfl)];simp only[Result.andThen_ok,run_equalIn_string w 9998 g.type ⟨⟨b⟩⟩ ⟨⟨d⟩⟩ u2'];rw[ByteArray.toList_eq,ByteArray.toList_eq];show(if (!(b==d))=true then(pure false:Sem Bool) else Op.eqFields 9999 _ _ []).run P w=_;cases h2:(b==d)<;>simp[Op.eqFields]
 ·cases h3
theorem q5a (htab:ji P cx.tab)(harr:zbi P cx){tid:TypeId}(hm:memN cx.arrs tid=false){op:BinOp}{p q:SV}{vp vq:Value}{z:Bool}{Q1 Q2:Nat->Prop}
 (hp:∃cs,vp=pack p.1 cs/\Rep w Q1 p.1 .b cs p.2 [])(hq:∃cs,vq=pack q.1 cs/\Rep w Q2 q.1 .b cs q.2 [])(h:ntEq op (lookup cx.tab tid) p q=some z)(x y:Operand):
 (eqGuard op tid x y vp vq).run P w=.ok () w/\(binOp op tid vp vq).run P w=.ok (.bool z) w:=by
 have key:∀{X Y:PV (.pair (.int .i64) (.pair .str .unit))},lookup cx.tab tid=some (.pair (.int .i64) (.pair .str .unit))->(∃fs,P.underlying tid=some (.struct fs))/\ntOk P tid=true:=by
  intro _ _ hl;obtain⟨d,fs,hd,rfl⟩:=z9t htab harr hl hm rfl;refine⟨⟨fs,hd⟩,?_⟩;have:=(Bool.and_eq_true_iff.1 (ys2.1 harr _ (zdv hl))).2;simpa[isNT] using this
 unfold ntEq at h;split at h
 ·rename_i X Y hl
  obtain rfl:=yl0 h;obtain⟨c1,rfl,r1⟩:=hp;obtain⟨c2,rfl,r2⟩:=hq;simp only at r1 r2 ⊢;obtain⟨k1,k2⟩:=key (X:=X) (Y:=X) hl
  have hg:P.eqGuardType P.depth tid=false:=by
   unfold ntOk at k2;rw[yh0] at k2;simpa using k2.1
  rw[zq9 r1,zq9 r2];refine⟨run_eqGuard_agg w _ _ _ _ _ _ hg,?_⟩;show(binOp .eql tid (.agg _) (.agg _)).run P w=_;rw[run_eql_struct w tid]
  erw [qbu k1 k2]
  rfl
 ·rename_i X Y hl
  obtain rfl:=yl0 h;obtain⟨c1,rfl,r1⟩:=hp;obtain⟨c2,rfl,r2⟩:=hq;simp only at r1 r2 ⊢;obtain⟨k1,k2⟩:=key (X:=X) (Y:=X) hl
  have hg:P.eqGuardType P.depth tid=false:=by
   unfold ntOk at k2;rw[yh0] at k2;simpa using k2.1
  rw[zq9 r1,zq9 r2];refine⟨run_eqGuard_agg w _ _ _ _ _ _ hg,?_⟩;show(binOp .neq tid (.agg _) (.agg _)).run P w=_;rw[run_neq_struct w tid]
  erw [qbu k1 k2]
  rfl
 ·cases h
theorem z9u {t:Ty}{n:Nat}(hn:getT (qc n) t≠.unit):t.agg=true:=by
 cases t<;>first|rfl|(cases n<;>exact absurd rfl hn)
theorem q2s (htab:ji P cx.tab)(harr:zbi P cx){tid:TypeId}{t:Ty}(hl:lookup cx.tab tid=some t)(hm:memN cx.arrs tid=true){k:IntKind}{n:Int}(h0:0<=n)(hn:getT (qc n.toNat) t≠.unit)
 (ad:Addr):(Instr.indexAt tid (.pointer (some ad)) (.int k n)).run P w=.ok (.pointer (some (ad.add (xg (qc n.toNat) t)))) w:=by
 obtain⟨m,e,a',h1,h2,h3,h4,_⟩:=zqd htab harr hl hm;obtain⟨q1,q2,q3⟩:=(zq8 h3 h4).1 n.toNat hn;have hlt:n<(m:Int):=by omega
 simp[Instr.indexAt,asIntOf,run_underlying h1,Instr.sureAddr,h0,hlt,run_sizeOf (P:=P) (w:=w) (jr htab h2),q2]
theorem qtl (htab:ji P cx.tab)(harr:zbi P cx){tid:TypeId}{t:Ty}(hl:lookup cx.tab tid=some t)(hm:memN cx.arrs tid=true){k:IntKind}{n:Int}(h0:0<=n)(hn:getT (qc n.toNat) t≠.unit)
 {c0 c c2:List Value}(hc0:c0.length=xg (qc n.toNat) t)(hc:c.length=(getT (qc n.toNat) t).size):
 (Instr.index tid (.agg (c0++c++c2).toArray) (.int k n)).run P w=.ok (pack (getT (qc n.toNat) t) c) w:=by
 obtain⟨m,e,a',h1,h2,h3,h4,_⟩:=zqd htab harr hl hm;obtain⟨q1,q2,q3⟩:=(zq8 h3 h4).1 n.toNat hn;have hlt:n<(m:Int):=by omega
 rw[q1] at hc;rw[q1];rw[q2] at hc0
 have hpart:(part e (c0++c++c2).toArray (n.toNat*a'.size)).run P w=.ok (pack a' c) w:=by
  simp only[part,Sem.run_bind,z9k (P:=P) (w:=w) (jr htab h2),Result.andThen_ok];cases ha:a'.agg with
  |true=>
   simp only[if_true,Sem.run_bind,run_sizeOf (P:=P) (w:=w) (jr htab h2),Result.andThen_ok]
   have:((c0++c++c2).toArray.extract (n.toNat*a'.size) (n.toNat*a'.size+a'.size))=c.toArray:=by
    apply Array.ext';simp only[List.extract_toArray,List.toList_toArray];rw[<-hc0,<-hc,yj0];simp
   rw[this];simp[pack,ha]
  |false=>
   simp only[Bool.false_eq_true,if_false];have h1:a'.size=1:=by cases a'<;>simp[Ty.agg] at ha<;>rfl
   rw[h1] at hc;obtain⟨v,rfl⟩:=yc3.1 hc;have:(c0++[v]++c2).toArray[n.toNat*a'.size]? =some v:=by rw[<-hc0];simp
   simp only[this];simp[pack,ha]
 rw[yj0] at hpart;simp[Instr.index,asIntOf,run_underlying h1,h0,hlt,run_sizeOf (P:=P) (w:=w) (jr htab h2),hpart]
theorem qw2 {p:List PE}{s:Slot}{t:Ty}{m:Nat}(h:zwu p s=some (t,m)):∃(ow:Ow) (e:TypeId) (xs:List (PV t)) (q:List PE),p=[]/\s=.hole false (.slice e t) ow xs (.ix m::q):=by
 unfold zwu at h;split at h
 ·obtain⟨rfl,rfl⟩:=yk1 (yl0 h)
  exact⟨_,_,_,_,rfl,rfl⟩
 ·cases h
theorem zj1 {p:List PE}:isNil p=true↔p=[]:=by cases p<;>simp[isNil]
theorem ze4 {p:List PE}:isNil p=false↔p≠[]:=by cases p<;>simp[isNil]
theorem qw3 {q:List PE}{n:Nat}{s:Slot}{t':Ty}(h:zwv q n s=some (true,t')):∃(iV:Bool) (t:Ty) (ow:Ow) (X:PV t) (p s2:List PE) (e:TypeId),s=.hole iV t ow X p/\(iV=true\/q≠[])/\p=(q++[.ix n])++s2/\za7 s2=true/\getT q t=.slice e t':=by
 unfold zwv at h;split at h
 ·rename_i iV t ow X p
  split at h
  ·rename_i e t2 hT
   obtain⟨hc,rfl⟩:=yk1 (yl0 h);rw[yh0,yq1] at hc;obtain⟨s2,h1,h2⟩:=zkh hc.2;refine⟨iV,t,ow,X,p,s2,e,rfl,?_,h1,h2,hT⟩;rcases hc.1 with h|h
   ·exact .inl h
   ·exact .inr (ze4.1 (by simpa using h))
  ·cases h
 ·cases h
theorem zwx {x:Operand}:∀k,(opd E off x).ix=some k->(opd E off x).s=(E.at k).s:=by
 intro k hk;cases x<;>simp only[opd] at hk<;>first|(cases hk;done)|skip
 obtain rfl:=yl0 hk;rfl
theorem qbw {d:Opd}{t:Ty}{x:PV t}(hd:∀k,d.ix=some k->d.s=(E.at k).s)(hr:rd E d.s=some ⟨t,x⟩):(∃o',alias E d=.val t o' x/\owns t o'=false)\/(∃al,alias E d=.sub al/\rd E (.sub al)=some ⟨t,x⟩)\/(∃al,alias E d=.view al t x/\d.s=.view al t x)\/alias E d=.none:=by
 obtain⟨ix,s⟩:=d;simp only at hr;cases s<;>simp only[rd] at hr<;>try (cases hr;done)
 ·rename_i t' o' x'
  obtain⟨rfl,hx⟩:=Sigma.mk.inj (yl0 hr);obtain rfl:=eq_of_heq hx;cases hown:owns t' o' with
  |false=>
   left
   cases ix<;>exact⟨.b,by simp[alias,hown],by
    have:∀t,owns t .b=false:=by intro t;induction t<;>simp_all[owns,Ow.fst,Ow.snd]
    exact this _⟩
  |true=>
   cases ix with
   |none=>right;right;right;simp[alias,hown]
   |some k=>
    right;left;have h1:=hd k rfl;simp only at h1;refine⟨⟨k,[],(E.at k).iv,(E.at k).cv⟩,by simp[alias,hown],?_⟩;simp only[rd,Al.okS,<-h1,yn1,yx1,Bool.true_or,yb0];rfl
 ·rename_i al
  right;left;exact⟨al,by cases ix<;>rfl,hr⟩
 ·rename_i al t' x'
  right;right;left;cases hok:(al.okC E&& !(E.at al.j).s.isHole) with
  |false=>rw[hok] at hr;cases hr
  |true=>
   rw[hok] at hr;simp only[yb0,yn0] at hr;obtain⟨rfl,hx⟩:=Sigma.mk.inj hr;obtain rfl:=eq_of_heq hx;exact⟨al,by cases ix<;>rfl,rfl⟩
theorem zgp {a b:Ty}(h:(a==b)=true):a=b:=by simpa using h
theorem zts {t:Ty}{x y:PV t}(h:zac t t x=some y):y=x:=by
 obtain⟨e,rfl⟩:=zas h;rfl
theorem zma {o:Oper}{x:Operand}{n:Nat}{t:Ty}(h:StB w0 Pr0 M E V w Pr B)(hN:∀k,E.length<=k->B k=[])(hf:Fr off V a)(hn:(!(getT (qc n) t).isUnit)=true)
 (hrun:∀ad,a.eval x=.pointer (some ad)->(execOp a.eval o).run P w=.ok (.value (.pointer (some (ad.add (xg (qc n) t))))) w):
 (∀y:PV t,(opd E off x).s=.bad t y->jk w0 Pr0 M P E V w a o (.bad (getT (qc n) t) (get (qc n) t y),[]))/\
 (∀al,place E (opd E off x)=some al->∀(iV:Bool) (t':Ty) (o':Ow) (z:PV t'),(E.at al.j).s=(if iV then .var t' o' z else .val t' o' z)->(getT al.p t'==t)=true->(iV=true\/al.p≠[])->
   jk w0 Pr0 M P E V w a o (.addr ⟨al.j,al.p++qc n,al.iv,(E.at al.j).cv⟩,[]))/\
 (∀al,place E (opd E off x)=some al->∀(iV:Bool) (t':Ty) (o':Ow) (z:PV t') (p:List PE),(E.at al.j).s=.hole iV t' o' z p->(getT al.p t'==t)=true->
   ((isNil al.p&&iV)||(!isNil al.p&&zcs al.p p))=true->jk w0 Pr0 M P E V w a o (.addr ⟨al.j,al.p++qc n,al.iv,(E.at al.j).cv⟩,[])):=by
 have hn':=zhl hn;refine⟨λy hb=>qof hrun h hN hf hn' hb,λal hp iV t' o' z hr ht hnn=>z0z hrun h hN hf hn' hp (.inl ⟨iV,t',o',z,hr,zgp ht,hnn⟩),λal hp iV t' o' z p hr ht hc=> ?_⟩;refine z0z hrun h hN hf hn' hp (.inr ⟨iV,t',o',z,p,hr,zgp ht,?_⟩);simp only[yq1,yh0,yj1] at hc;rcases hc with⟨h1,h2⟩|⟨h1,h2⟩
 ·exact .inl ⟨zj1.1 h1,h2⟩
 ·exact .inr ⟨ze4.1 h1,zkh h2⟩
variable {R : Type} {K : SU → Option R} {r : R}
theorem step_ok (htab:ji P cx.tab)(harr:zbi P cx){o:Oper}(h:StB w0 Pr0 M E V w Pr B)(hN:∀k,E.length<=k->B k=[])(hf:Fr off V a)(hs:zc3 cx E off o K=some r):
 ∃z,K z=some r/\jk w0 Pr0 M P E V w a o z:=by
 unfold zc3 at hs;split at hs
 ·
  rename_i x hop;split at hs
  ·rename_i k l hd
   exact⟨_,hs,qql hop h hN hf hd⟩
  ·exact⟨_,hs,q2d hop h hN hf⟩
 ·
  rename_i x hop;cases hv:qfk (opd E off x).s with
  |true=>rw[hv] at hs;exact⟨_,hs,zy8 hop h hN hf⟩
  |false=>
   rw[hv] at hs;simp only[yd0] at hs;split at hs
   ·rename_i v us ht
    exact⟨_,hs,qwx hop h hN hf ht⟩
   ·split at hs
    ·cases hs
    ·cases hs
    ·exact⟨_,hs,zy8 hop h hN hf⟩
 ·
  rename_i c x y hop;split at hs
  ·rename_i bc hc
   split at hs
   ·rename_i t xv t' yv hx hy
    split at hs
    ·rename_i y2 hcast
     obtain⟨rfl,rfl⟩:=zas hcast;cases hn:noSl t' with
     |false=>rw[hn] at hs;cases hs
     |true=>rw[hn] at hs;exact⟨_,hs,q2g hop h hN hf hc hx hy hn⟩
    ·cases hs
   ·rename_i t xv hx hy
    cases bc with
    |false=>cases hs
    |true=>
     simp only[yb0] at hs;cases hn:noSl t with
     |false=>rw[hn] at hs;cases hs
     |true=>rw[hn] at hs;exact⟨_,hs,z7l hop h hN hf hc hx hn⟩
   ·rename_i t yv hx hy
    cases bc with
    |true=>cases hs
    |false=>
     simp only[yd0] at hs;cases hn:noSl t with
     |false=>rw[hn] at hs;cases hs
     |true=>rw[hn] at hs;exact⟨_,hs,z7l hop h hN hf hc hy hn⟩
   ·cases hs
  ·cases hs
 ·
  rename_i tid hop;split at hs
  ·rename_i t hl
   exact⟨_,hs,qzu htab hop h hN hl⟩
  ·cases hs
 ·
  rename_i tid x hop;split at hs
  ·rename_i t v us hl ht
   split at hs
   ·rename_i y hcast
    obtain⟨T,O,X⟩:=v;obtain⟨hT,rfl⟩:=zas hcast;simp only at hT;subst hT;exact⟨_,hs,q4w hop h hN hf ht⟩
   ·cases hs
  ·cases hs
 ·
  rename_i tid ps hop;split at hs
  ·rename_i t hl
   split at hs
   ·rename_i vs us ht
    split at hs
    ·rename_i ow x he
     have hag:t.agg=true:=by
      cases t<;>first|rfl|(simp[asm] at he;done)
     exact⟨_,hs,qzv htab hop h hN hf hl hag ht he⟩
    ·cases hs
   ·cases hs
  ·cases hs
 ·
  rename_i tid n ps hop;split at hs
  ·rename_i e t hl
   cases hc:((ps.size==n)&&((List.range n==ps.toList.map (·.1))&&decide (n*t.size<=65536))) with
   |false=>rw[hc] at hs;cases hs
   |true=>
    rw[hc] at hs;simp only[yh0,yy0,yr0] at hc;simp only[yb0] at hs;split at hs
    ·rename_i vs us ht
     split at hs
     ·rename_i ow xs he
      exact⟨_,hs,qml htab hop h hN hf hl hc.1 hc.2.1 hc.2.2 ht he⟩
     ·cases hs
    ·cases hs
  ·cases hs
 ·
  rename_i tid x hop;split at hs
  ·cases hs
  ·rename_i t hl
   split at hs
   ·rename_i t' y hbad
    split at hs
    ·rename_i y2 hcast
     obtain⟨rfl,rfl⟩:=zas hcast;exact⟨_,hs,qqm htab hop h hN hf hl hbad⟩
    ·cases hs
   ·split at hs
    ·rename_i al hp
     split at hs
     ·rename_i v hlook
      split at hs
      ·rename_i y2 hcast
       have go:∀(iV:Bool) (t':Ty) (o':Ow) (z:PV t'),(E.at al.j).s=(if iV then .var t' o' z else .val t' o' z)->(iV=true\/al.p≠[])->v=⟨getT al.p t',getO al.p o',get al.p t' z⟩->
        ∃z,K z=some r/\jk w0 Pr0 M P E V w a o z:=by
        intro iV t' o' z hroot hnn hv;subst hv;obtain⟨rfl,rfl⟩:=zas hcast;have:=q2l htab hop h hN hf hl hp hroot hnn;cases hown:owns (getT al.p t') (getO al.p o') with
        |true=>simp only[hown,yb0] at hs this;exact⟨_,hs,this⟩
        |false=>simp only[hown,yd0] at hs this;exact⟨_,hs,this⟩
       unfold look at hlook;split at hlook
       ·rename_i t' o' z hroot
        cases hn:isNil al.p with
        |true=>rw[hn] at hlook;cases hlook
        |false=>
         rw[hn] at hlook;exact go false t' o' z hroot (.inr (ze4.1 hn)) (yl0 hlook).symm
       ·rename_i t' o' z hroot
        exact go true t' o' z hroot (.inl rfl) (yl0 hlook).symm
       ·cases hlook
      ·cases hs
     ·split at hs
      ·rename_i v hlook
       split at hs
       ·rename_i y2 hcast
        unfold znr at hlook;split at hlook
        ·rename_i t' o' z hroot
         cases hc:za7 al.p&&(!isNil al.p&&isInt (getT al.p t')) with
         |false=>rw[hc] at hlook;cases hlook
         |true=>
          rw[hc] at hlook;obtain rfl:=yl0 hlook;simp only[yh0,yj1] at hc;obtain⟨c1,c2,c3⟩:=hc
          obtain⟨k,hk⟩:∃k,getT al.p t'=.int k:=by
           cases hg:getT al.p t'<;>rw[hg] at c3<;>first|exact⟨_,rfl⟩|(simp[isInt] at c3)
          obtain⟨rfl,rfl⟩:=zas hcast;exact⟨_,hs,qoe htab hop h hN hf hl hp hroot c1 (ze4.1 c2) hk⟩
        ·cases hlook
       ·cases hs
      ·cases hs
    ·cases hs
 ·
  rename_i tid x y hop;split at hs
  ·rename_i t v us hl ht
   obtain⟨B1,g1,g2,g3,g4⟩:=zd4 h (N:=E.length) (ym0 _) (hN _ (ym0 _)) (zb1 h hf tid y) ht;split at hs
   ·rename_i al hp
    obtain⟨hA,hok⟩:=zik g1 (qx g1 hf x) hp
    have fin:∀(iV:Bool) (t':Ty) (ow ow2 ow3:Ow) (z:PV t') (p:List PE) (y2:PV (getT p t')) (vj:Value),p=al.p->(v.t==t)=true->zac v.t (getT p t') v.x=some y2->fitO p ow v.t v.o=some (ow2,ow3)->
     V[al.j]? =some vj->(appU E us)[al.j]? =some (Env.at (appU E us) al.j)->Fill w Pr (a.eval x) iV vj t' ow z p (B1 al.j)->(zfk iV t' ow3 (set p t' z y2)).zay=(Env.at (appU E us) al.j).s.zay->
     jk w0 Pr0 M P E V w a o (.none,us++[.cont al.j (zfk iV t' ow3 (set p t' z y2))]):=by
     intro iV t' ow ow2 ow3 z p y2 vj hpe hty hcast hfit hv he hfill hofv;obtain⟨T,O,X⟩:=v;obtain⟨hT,rfl⟩:=zas hcast;simp only at hT hty;obtain rfl:=zgp hty;subst hT;obtain⟨B2,w2,Pr2,s1,s2,s3⟩:=g1.fill htab (N:=E.length) (by rw[g4];exact ym0 _) hl he hv hofv hfill g2 hfit;have hlen:(appU E (us++[.cont al.j (zfk iV t' ow3 (set p t' z X))])).length=E.length:=by rw[ze3];simp[appU,U.app,g4]
     refine⟨.skip,w2,undef,?_,.inr ⟨rfl,rfl⟩,hlen,Pr2,B2,by rw[ze3];exact s2,trivial,λk hk=> ?_⟩
     ·simp[execOp,hop,s1]
     ·rw[hlen] at hk
      rw[s3 k (by rw[g4];omega),yw0 (by omega),g3 k (by omega) (by omega)];exact hN k (by omega)
    split at hs
    ·rename_i t' ow z hroot
     split at hs
     ·rename_i y2 ow2 ow3 hcast hfit
      cases hc:(v.t==t)&& !isNil al.p with
      |false=>rw[hc] at hs;cases hs
      |true=>
       rw[hc] at hs;simp only[yh0,yj1] at hc;obtain⟨vj,f1,f2,f3⟩:=z9n (iV:=false) g1 hA hok hroot (.inr (ze4.1 hc.2));exact⟨_,hs,fin false t' ow ow2 ow3 z al.p y2 vj rfl hc.1 hcast hfit f1 f2 f3 (by rw[hroot];rfl)⟩
     ·cases hs
    ·rename_i t' ow z hroot
     split at hs
     ·rename_i y2 ow2 ow3 hcast hfit
      cases hc:(v.t==t) with
      |false=>rw[hc] at hs;cases hs
      |true=>
       rw[hc] at hs;obtain⟨vj,f1,f2,f3⟩:=z9n (iV:=true) g1 hA hok hroot (.inl rfl);exact⟨_,hs,fin true t' ow ow2 ow3 z al.p y2 vj rfl hc hcast hfit f1 f2 f3 (by rw[hroot];rfl)⟩
     ·cases hs
    ·rename_i iV t' ow z p hroot
     split at hs
     ·rename_i y2 ow2 ow3 hcast hfit
      cases hc:(v.t==t) with
      |false=>rw[hc] at hs;cases hs
      |true=>
       rw[hc] at hs;simp only[yb0] at hs;cases hc2:zbz al.p p with
       |false=>rw[hc2] at hs;cases hs
       |true=>
        rw[hc2] at hs;obtain rfl:=zoz hc2;obtain⟨vj,f1,f2,f3⟩:=q2m g1 hA hok hroot;refine⟨_,hs,?_⟩;have:=fin iV t' ow ow2 ow3 z al.p y2 vj rfl hc hcast hfit f1 f2 f3 (by rw[hroot];cases iV<;>rfl);cases iV<;>exact this
     ·cases hs
    ·cases hs
   ·cases hs
  ·cases hs
 ·
  rename_i op tid x y yt hop;split at hs
  ·rename_i p q hp hq
   cases hm:memN cx.arrs tid with
   |true=>
    rw[hm] at hs;simp only[yb0] at hs;split at hs
    ·rename_i z hz
     refine⟨_,hs,zcf h hN (.bool z) ?_⟩;obtain⟨g1,g2⟩:=q2r (w:=w) htab harr hm (zdm h (zb1 h hf tid x) hp) (zdm h (zb1 h hf tid y) hq) hz x y;simp[execOp,hop,g1,g2]
    ·cases hs
   |false=>
    rw[hm] at hs;simp only[yd0] at hs;split at hs
    ·rename_i z hz
     refine⟨_,hs,zcf h hN (.bool z) ?_⟩;obtain⟨g1,g2⟩:=q5a (w:=w) htab harr hm (zdm h (zb1 h hf tid x) hp) (zdm h (zb1 h hf tid y) hq) hz x y;simp[execOp,hop,g1,g2]
    ·obtain⟨s,v,k1,k2,k3⟩:=q6y (P:=P) (w:=w) htab (qdk h (zb1 h hf tid x) hp) (qdk h (zb1 h hf tid y) hq) hs
     refine⟨_,k1,zcf h hN k2 ?_⟩;obtain⟨g1,g2⟩:=k3 x y;simp[execOp,hop,g1,g2]
  ·cases hs
 ·
  rename_i op tid x hop;split at hs
  ·rename_i b hb
   refine⟨_,hs,zcf h hN (.bool _) ?_⟩;simp[execOp,hop,Op.unary,zm6 h (qx h hf x) hb]
  ·rename_i k n hb
   refine⟨_,hs,zcf h hN (.int _ _) ?_⟩;simp[execOp,hop,Op.unary,zbo h (qx h hf x) hb,Op.intArith]
  ·cases hs
 ·
  rename_i s d x hop;split at hs
  ·rename_i k k' k'' n h1 h2 h3
   cases hk:(k==k'') with
   |false=>rw[hk] at hs;cases hs
   |true=>
    rw[hk] at hs;obtain rfl:=yy0.1 hk;exact⟨_,hs,qqp htab hop h hN hf h1 h2 h3⟩
  ·rename_i e e' l h1 h2 h3
   exact⟨_,hs,qmm htab hop h hN hf h1 h2 h3⟩
  ·cases hs
 ·
  rename_i f first captured hop
  cases he:first.isEmpty with
  |false=>rw[he] at hs;cases hs
  |true=>
   rw[he] at hs;simp only[yb0] at hs;split at hs
   ·rename_i aL hp
    exact⟨_,hs,qqo hop h hN hf he hp⟩
   ·cases hs
 ·
  rename_i tid x y hop;split at hs
  ·rename_i e t n m h1 h2 h3
   cases hc:(decide (0<=n)&&(decide (n<=m)&&qm m.toNat)) with
   |false=>rw[hc] at hs;cases hs
   |true=>
    rw[hc] at hs;simp only[yh0,yr0] at hc;exact⟨_,hs,qok htab hop h hN hf h1 h2 h3 hc.1 hc.2.1 hc.2.2⟩
  ·cases hs
 ·
  rename_i tid x lo hi hop;split at hs
  ·rename_i l hx
   split at hs
   ·rename_i m n h1 h2 h3
    cases hc:cutB m n (List.length (α:=UInt8) l) with
    |false=>rw[hc] at hs;cases hs
    |true=>rw[hc] at hs;exact⟨_,hs,qth htab hop h hN hf h1 hx h2 h3 hc⟩
   ·cases hs
  ·rename_i e t l hx
   split at hs
   ·rename_i e' t' m n h1 h2 h3
    cases hc:(Ty.slice e t==Ty.slice e' t')&&cutB m n (List.length (α:=PV t) l) with
    |false=>rw[hc] at hs;cases hs
    |true=>
     rw[hc] at hs;simp only[yh0] at hc;obtain⟨hc1,hc2⟩:=hc;obtain⟨rfl,rfl⟩:e=e'/\t=t':=by have:=zgp hc1;injection this with a b;exact⟨a,b⟩
     simp only[yb0] at hs;have hal:=zd2 h (qx h hf x) (N:=E.length) (hN _ (ym0 _));rcases qbw zwx hx with⟨o',q1,q2⟩|⟨al,q1,q2⟩|⟨al,q1,q2⟩|q1
     ·rw[q1] at hs hal
      refine⟨_,hs,zso htab hop h hN hf h1 h2 h3 hc2 (Q:=Pr) ?_ (λN v cs hB hv hr=> ?_)⟩
      ·exact zx.zax q2 hal
      ·show zx _ _ _ _ _ _ _
       rw[hB];exact⟨cs,hv,hr⟩
     ·rw[q1] at hs hal
      dsimp only at hs;cases hcase:(qdi lo hi&&((E.at al.j).s.isVar&&noSl t)) with
      |true=>
       rw[hcase] at hs;simp only[yb0] at hs;rw[yh0,yh0] at hcase
       obtain⟨y,rfl,rfl⟩:∃y,lo=none/\hi=some y:=by
        cases lo<;>cases hi<;>first|exact⟨_,rfl,rfl⟩|cases hcase.1
       split at hs
       ·rename_i e2 t2 oe z us ht
        cases hc3:(Ty.slice e2 t2==Ty.slice e t)&&cutB 0 n (List.length (α:=PV t2) z) with
        |false=>rw[hc3] at hs;cases hs
        |true=>
         rw[hc3] at hs;rw[yh0] at hc3;obtain⟨rfl,rfl⟩:e2=e/\t2=t:=by have:=zgp hc3.1;injection this with a b;exact⟨a,b⟩
         exact⟨_,hs,qqn htab hop h hN hf h1 h3 hc3.2 hcase.2.2 ht⟩
       ·cases hs
      |false=>
      rw[hcase] at hs;simp only[yd0] at hs;have hal:zc2 w E V al (a.eval x):=hal;obtain⟨e0,vj,hl0,hv0,hk0⟩:=hal;have he0:=jq hl0.1
      have hok:al.okS E=true:=by
       simp only[rd] at q2;cases ho:al.okS E with
       |true=>rfl
       |false=>rw[ho] at q2;cases q2
      have hiv:(E.at al.j).iv=al.iv:=by simp only[Al.okS,yh0,yy0] at hok;exact hok.1
      refine⟨_,hs,zso htab hop h hN hf h1 h2 h3 hc2 (Q:=λb=>Pr b\/b∈B al.j) ?_ (λN v cs hB hv hr=> ?_)⟩
      ·
       simp only[rd,hok,yb0] at q2
       have go:∀(iV:Bool) (T:Ty) (O:Ow) (X:PV T),(E.at al.j).s=(if iV then .var T O X else .val T O X)->(⟨getT al.p T,get al.p T X⟩:SV)=⟨.slice e t,l⟩->
        ∃cs,a.eval x=pack (.slice e t) cs/\Rep w (λb=>Pr b\/b∈B al.j) (.slice e t) .b cs l []:=by
        intro iV T O X hroot hx2;obtain⟨vj',g1,g2,g3,g4⟩:=zh8 h ⟨e0,vj,hl0,hv0,hk0⟩ hok hroot
        have fin:∀(T2:Ty) (O2:Ow) (X2:PV T2) (bs:List Nat),(⟨T2,X2⟩:SV)=⟨.slice e t,l⟩->zx w Pr (a.eval x) T2 O2 X2 bs->(∀b∈bs,b∈B al.j)->
         ∃cs,a.eval x=pack (.slice e t) cs/\Rep w (λb=>Pr b\/b∈B al.j) (.slice e t) .b cs l []:=by
         intro T2 O2 X2 bs hs2 hv2 hb;obtain⟨rfl,hX⟩:=Sigma.mk.inj hs2;obtain rfl:=eq_of_heq hX;exact hv2.lend (λb hb'=>hb'.imp id (hb b))
        rcases g4 with⟨rfl,hp,hvj⟩|⟨_,_,hfo,loc,hl',hv'⟩
        ·have g3:zx w Pr vj' T O X (B al.j):=g3
         rw[<-hvj] at g3;obtain⟨alj,alp,aliv,alcv⟩:=al;simp only at hp;subst hp;exact fin T O X _ hx2 g3 (λ_ h=>h)
        ·obtain⟨bs',bsR,p1,p2⟩:=hfo.val hl' hv'
         exact fin _ _ _ _ hx2 p2 (λb hb=>p1.mem_iff.2 (yv0 _ hb))
       split at q2
       ·rename_i T O X hroot;exact go false T O X hroot (yl0 q2)
       ·rename_i T O X hroot;exact go true T O X hroot (yl0 q2)
       ·cases q2
      ·refine⟨e0,⟨hl0.1,hl0.2.1,λ_=>by show(E.at al.j).cv<=e0.cv;rw[he0];exact ym0 _⟩,λ_ _ _=>⟨cs,hv,hr⟩⟩
     ·rw[q1] at hs hal
      obtain⟨e0,hl0,hk0⟩:=hal;have he0:=jq hl0.1;rw[q2] at hx;simp only[rd] at hx;cases hok:(al.okC E&& !(E.at al.j).s.isHole) with
      |false=>rw[hok] at hx;cases hx
      |true=>
       simp only[Al.okC,he0,yh0,yy0,yj1] at hok;obtain⟨cs0,r1,r2⟩:=hk0 hok.1.1 hok.1.2 hok.2;exact⟨_,hs,zso htab hop h hN hf h1 h2 h3 hc2 (Q:=λb=>Pr b\/b∈B al.j) ⟨cs0,r1,r2⟩ (λN v cs hB hv hr=>⟨e0,hl0,λ_ _ _=>⟨cs,hv,hr⟩⟩)⟩
     ·rw[q1] at hs;cases hs
   ·cases hs
  ·cases hs
 ·
  rename_i tid x n hop;split at hs
  ·cases hs
  ·rename_i t hl
   cases hm:memN cx.arrs tid with
   |true=>rw[hm] at hl;cases hl
   |false=>
    rw[hm] at hl;simp only[yd0] at hl
    have hrun:getT (qc n) t≠.unit->∀ad,a.eval x=.pointer (some ad)->(execOp a.eval o).run P w=.ok (.value (.pointer (some (ad.add (xg (qc n) t))))) w:=λhn ad had=>by
     simp[execOp,hop,had,qwy (w:=w) htab hl hn (z9t htab harr hl hm (z9u hn))]
    split at hs
    ·rename_i t' y hb
     split at hs
     ·rename_i y2 hcast
      obtain⟨rfl,rfl⟩:=zas hcast;cases hu: !(getT (qc n) t').isUnit with
      |false=>rw[hu] at hs;cases hs
      |true=>rw[hu] at hs;exact⟨_,hs,(zma h hN hf hu (hrun (zhl hu))).1 _ hb⟩
     ·cases hs
    ·split at hs
     ·rename_i al hp
      split at hs
      ·rename_i t' o' z hr
       cases hc:(getT al.p t'==t)&&(!(getT (qc n) t).isUnit&& !isNil al.p) with
       |false=>rw[hc] at hs;cases hs
       |true=>
        rw[hc] at hs;rw[yh0,yh0] at hc;exact⟨_,hs,(zma h hN hf hc.2.1 (hrun (zhl hc.2.1))).2.1 al hp false t' o' z hr hc.1 (.inr (ze4.1 (by simpa using hc.2.2)))⟩
      ·rename_i t' o' z hr
       cases hc:(getT al.p t'==t)&& !(getT (qc n) t).isUnit with
       |false=>rw[hc] at hs;cases hs
       |true=>
        rw[hc] at hs;rw[yh0] at hc;exact⟨_,hs,(zma h hN hf hc.2 (hrun (zhl hc.2))).2.1 al hp true t' o' z hr hc.1 (.inl rfl)⟩
      ·rename_i iV t' o' z p hr
       cases hc:(getT al.p t'==t)&& !(getT (qc n) t).isUnit with
       |false=>rw[hc] at hs;cases hs
       |true=>
        rw[hc] at hs;rw[yh0] at hc;simp only[yb0] at hs;cases hc2:(isNil al.p&&iV)||(!isNil al.p&&zcs al.p p) with
        |false=>rw[hc2] at hs;cases hs
        |true=>
         rw[hc2] at hs;exact⟨_,hs,(zma h hN hf hc.2 (hrun (zhl hc.2))).2.2 al hp iV t' o' z p hr hc.1 hc2⟩
      ·cases hs
     ·cases hs
 ·
  rename_i x hop;split at hs
  ·rename_i al hp
   obtain⟨hA,hok⟩:=zik h (qx h hf x) hp
   have fin:∀{iV:Bool} {t':Ty} {o':Ow} {z:PV t'},(E.at al.j).s=(if iV then .var t' o' z else .val t' o' z)->(iV=true\/al.p≠[])->jk w0 Pr0 M P E V w a o (.addr al,[]):=by
    intro iV t' o' z hr hnn;obtain⟨vj,loc,_,_,_,_,_,_,q7⟩:=zpv h hA hok hr hnn;refine⟨.value (a.eval x),w,a.eval x,?_,.inl rfl,rfl,za5 h hN λN hB=>hA⟩;simp[execOp,hop,q7,ptr]
   split at hs
   ·rename_i t' o' z hr
    cases hn:isNil al.p with
    |true=>rw[hn] at hs;cases hs
    |false=>rw[hn] at hs;exact⟨_,hs,fin (iV:=false) hr (.inr (ze4.1 hn))⟩
   ·rename_i t' o' z hr
    exact⟨_,hs,fin (iV:=true) hr (.inl rfl)⟩
   ·rename_i iV t' o' z p hr
    cases hc: !isNil al.p&&zcs al.p p with
    |false=>rw[hc] at hs;cases hs
    |true=>
     rw[hc] at hs;rw[yh0] at hc;refine⟨_,hs,?_⟩;have hnn:=ze4.1 (by simpa using hc.1);have hA':=hA;obtain⟨e,vj,hl,hv,hk⟩:=hA';have he:=jq hl.1;rw[he] at hr;simp only[Al.okA,he,yh0,yy0,yq1] at hok
     have hcv:e.cv=al.cv:=by
      rcases hok.2 with h|h
      ·exact h
      ·exact absurd (zj1.1 h) hnn
     have hAt:=(hk hok.1).2 hnn hcv;rw[hr] at hAt;obtain⟨s,hs1,hs2⟩:=zkh hc.2;obtain⟨loc,_,q7⟩:=hAt.1 s hs1 hs2;refine⟨.value (a.eval x),w,a.eval x,?_,.inl rfl,rfl,za5 h hN λN hB=>hA⟩;simp[execOp,hop,q7,ptr]
   ·cases hs
  ·cases hs
 ·
  rename_i tid x i hop;split at hs
  ·rename_i k n hi
   cases hm:memN cx.arrs tid with
   |true=>
    rw[hm] at hs;simp only[yb0] at hs;split at hs
    ·cases hs
    ·rename_i t hl
     cases hc:decide (0<=n)&& !(getT (qc n.toNat) t).isUnit with
     |false=>rw[hc] at hs;cases hs
     |true=>
      rw[hc] at hs;rw[yh0,yr0] at hc;simp only[yb0] at hs
      have hrun:∀ad,a.eval x=.pointer (some ad)->(execOp a.eval o).run P w=.ok (.value (.pointer (some (ad.add (xg (qc n.toNat) t))))) w:=λad had=>by
       simp[execOp,hop,had,zbo h (qx h hf i) hi,q2s (w:=w) htab harr hl hm hc.1 (zhl hc.2)]
      have hst:=zma h hN hf hc.2 hrun;split at hs
      ·rename_i t' y hb
       split at hs
       ·rename_i y2 hcast
        obtain⟨rfl,rfl⟩:=zas hcast;exact⟨_,hs,hst.1 _ hb⟩
       ·cases hs
      ·split at hs
       ·rename_i al hp
        split at hs
        ·rename_i t' o' z hr
         cases hc2:(getT al.p t'==t)&& !isNil al.p with
         |false=>rw[hc2] at hs;cases hs
         |true=>
          rw[hc2] at hs;rw[yh0] at hc2;exact⟨_,hs,hst.2.1 al hp false t' o' z hr hc2.1 (.inr (ze4.1 (by simpa using hc2.2)))⟩
        ·rename_i t' o' z hr
         cases hc2:(getT al.p t'==t) with
         |false=>rw[hc2] at hs;cases hs
         |true=>rw[hc2] at hs;exact⟨_,hs,hst.2.1 al hp true t' o' z hr hc2 (.inl rfl)⟩
        ·cases hs
       ·cases hs
   |false=>
    rw[hm] at hs;simp only[yd0] at hs;split at hs
    ·rename_i e t l hx
     split at hs
     ·rename_i e2 t2 hl
      cases hc:(t2==t)&&inB n (List.length (α:=PV t) l) with
      |false=>rw[hc] at hs;cases hs
      |true=>
       rw[hc] at hs;rw[yh0] at hc;obtain rfl:=zgp hc.1;have hsl:=(zd5 htab hl).1;simp only[yb0] at hs;rcases qbw zwx hx with⟨o',q1,q2⟩|⟨al,q1,q2⟩|⟨al,q1,q2⟩|q1
       ·rw[q1] at hs
        exact⟨_,hs,qog hop h hN hf hsl hi ⟨o',q1,q2⟩ hc.2⟩
       ·rw[q1] at hs
        simp only[] at hs;cases ho:zkw E al with
        |false=>rw[ho] at hs;cases hs
        |true=>
         rw[ho] at hs;refine⟨_,hs,qoh hop h hN hf hsl hi q1 q2 hc.2 (λt' o' x' hr=> ?_)⟩;unfold zkw at ho;rcases hr with hr|hr<;>rw[hr] at ho<;>exact ho
       ·rw[q1] at hs;cases hs
       ·rw[q1] at hs;cases hs
     ·cases hs
    ·cases hs
    ·split at hs
     ·rename_i al hal
      split at hs
      ·rename_i e2 t2 hl
       split at hs
       ·rename_i t3 m hh
        cases hc:(al.okS E&&(t2==t3))&&(decide (0<=n)&&(n.toNat==m)) with
        |false=>rw[hc] at hs;cases hs
        |true=>
         rw[hc] at hs;simp only[yh0,yr0,yy0] at hc;obtain⟨⟨hok,rfl⟩,h0,hnm⟩:=hc;obtain⟨ow,e3,xs,p,hnil,hroot⟩:=qw2 hh;exact⟨_,hs,qmj hop h hN hf (zd5 htab hl).1 hi hal hok hnil hroot h0 hnm⟩
       ·split at hs
        ·rename_i b t3 hh
         cases hc:(al.okC E&&(t2==t3))&&(decide (0<=n)&&b) with
         |false=>rw[hc] at hs;cases hs
         |true=>
          rw[hc] at hs;simp only[yh0,yr0] at hc;obtain⟨⟨hok,ht⟩,h0,rfl⟩:=hc;obtain rfl:=zgp ht;obtain⟨iV,t4,ow,X,p,s2,e4,hroot,hq,hps,hlr,hT⟩:=qw3 hh;exact⟨_,hs,qkn hop h hN hf (zd5 htab hl).1 hi hal hok hroot hq hps hlr hT h0⟩
        ·cases hs
      ·cases hs
     ·cases hs
  ·cases hs
 ·
  rename_i tid x i hop;split at hs
  ·rename_i l k n hx hi
   split at hs
   ·rename_i hl
    cases hc:inB n (List.length (α:=UInt8) l) with
    |false=>rw[hc] at hs;cases hs
    |true=>rw[hc] at hs;exact⟨_,hs,qoi htab hop h hN hf hl hx hi hc⟩
   ·cases hs
  ·rename_i t y k n _ hx hi
   cases hm:memN cx.arrs tid with
   |false=>rw[hm] at hs;cases hs
   |true=>
    rw[hm] at hs;simp only[yb0] at hs;split at hs
    ·cases hs
    ·rename_i t' hl
     split at hs
     ·rename_i y2 hcast
      obtain⟨rfl,rfl⟩:=zas hcast;cases hc:decide (0<=n)&&(!(getT (qc n.toNat) t).isUnit&&noSl (getT (qc n.toNat) t)) with
      |false=>rw[hc] at hs;cases hs
      |true=>
       rw[hc] at hs;rw[yh0,yh0,yr0] at hc;obtain⟨c0,c1,c2⟩:=hc;have hn:=zhl c1;obtain⟨cs,hv,hr⟩:=zdm h (qx h hf x) hx;obtain⟨d0,d1,d2,rfl,e1,e2⟩:=zuq hn hr;have hag:=z9u hn;refine⟨_,hs,.value (pack (getT (qc n.toNat) t) d1),w,_,?_,.inl rfl,rfl,za5 h hN λN hB=>zpu hB ⟨d1,rfl,e2.plain c2⟩⟩;have:=qtl (P:=P) (w:=w) htab harr hl hm (k:=k) c0 hn (c2:=d2) e1 e2.length;simp[execOp,hop,zbo h (qx h hf i) hi,hv,pack,hag] at this ⊢;simp[this]
     ·cases hs
  ·cases hs
 ·
  rename_i x i hop;split at hs
  ·rename_i k l hx
   split at hs
   ·rename_i v hi
    cases hu:v.t.isUnit with
    |true=>rw[hu] at hs;cases hs
    |false=>
     rw[hu] at hs;simp only[yd0] at hs;cases hw:owns v.t v.o with
     |true=>
      rw[hw] at hs;exact⟨_,hs,qti hop h hN hf hx hi (by intro e;rw[e] at hu;cases hu)⟩
     |false=>
      rw[hw] at hs;exact⟨_,hs,qoj hop h hN hf hx hi (by intro e;rw[e] at hu;cases hu) hw⟩
   ·cases hs
  ·cases hs
 ·
  rename_i c hop;split at hs
  ·rename_i x hc hargs
   have hargs':c.args= #[x]:=by apply Array.ext';exact hargs
   split at hs
   ·rename_i tid htl
    have h0:c.argTypes[0]? =some tid:=by
     have:c.argTypes= #[tid]:=by apply Array.ext';exact htl
     rw[this];rfl
    split at hs
    ·rename_i l hl hx
     exact⟨_,hs,qbr htab hop hc hargs' h hN hf ⟨tid,h0,.inl ⟨hl,l,hx,rfl⟩⟩⟩
    ·rename_i e t e' t' l hl hx
     exact⟨_,hs,qbr htab hop hc hargs' h hN hf ⟨tid,h0,.inr ⟨e,t,e',t',hl,l,hx,rfl⟩⟩⟩
    ·cases hs
   ·cases hs
  ·rename_i x y hc hargs
   have hargs':c.args= #[x,y]:=by apply Array.ext';exact hargs
   split at hs
   ·rename_i k m k' n hx hy
    cases hk:(k==k') with
    |false=>rw[hk] at hs;cases hs
    |true=>
     rw[hk] at hs;obtain rfl:=yy0.1 hk;exact⟨_,hs,q4x hop hc hargs' h hN hf hx hy⟩
   ·cases hs
  ·rename_i x y hc hargs
   have hargs':c.args= #[x,y]:=by apply Array.ext';exact hargs
   split at hs
   ·rename_i k m k' n hx hy
    cases hk:(k==k') with
    |false=>rw[hk] at hs;cases hs
    |true=>
     rw[hk] at hs;obtain rfl:=yy0.1 hk;exact⟨_,hs,q4y hop hc hargs' h hN hf hx hy⟩
   ·cases hs
  ·rename_i x y hc hargs
   have hargs':c.args= #[x,y]:=by apply Array.ext';exact hargs
   cases hty:(c.argTypes.size==2&&(c.argTypes.getD 0 0==c.argTypes.getD 1 0)) with
   |false=>rw[hty] at hs;cases hs
   |true=>
    rw[hty] at hs;simp only[yh0,yy0] at hty
    have htys:c.argTypes= #[c.argTypes.getD 0 0,c.argTypes.getD 0 0]:=by
     apply Array.ext
     ·simp[hty.1]
     ·intro i h1 h2
      simp at h2;have:i=0\/i=1:=by omega
      rcases this with rfl|rfl
      ·simp[Array.getD,hty.1]
      ·have:=hty.2
       simp[Array.getD,hty.1] at this ⊢;exact this.symm
    simp only[yb0] at hs;split at hs
    ·rename_i e0 t0 e t ow xs us hl htk
     cases hc2:(Ty.slice e0 t0==Ty.slice e t) with
     |false=>rw[hc2] at hs;cases hs
     |true=>
      rw[hc2] at hs;simp only[yb0] at hs;obtain⟨rfl,rfl⟩:e0=e/\t0=t:=by have:=zgp hc2;injection this with a b;exact⟨a,b⟩
      cases hns:noSl t0 with
      |true=>
       rw[hns] at hs;simp only[yb0] at hs;split at hs
       ·rename_i t'' ys hy
        split at hs
        ·rename_i ys2 hcast
         obtain⟨rfl,rfl⟩:=zas hcast;cases hroom:qm (List.length (α:=PV t0) xs+List.length (α:=PV t0) ys2) with
         |false=>simp only[hroom] at hs;cases hs
         |true=>simp only[hroom,yb0] at hs;exact⟨_,hs,qwz htab hop hc hargs' htys h hN hf hl hns htk hy hroom⟩
        ·cases hs
       ·cases hs
      |false=>
       rw[hns] at hs;simp only[yd0] at hs;split at hs
       ·rename_i ty oy ys us' hy
        split at hs
        ·rename_i ys2 hcast
         obtain⟨rfl,rfl⟩:=zas hcast;cases hroom:qm (List.length (α:=PV t0) xs+List.length (α:=PV t0) ys2) with
         |false=>simp only[hroom] at hs;cases hs
         |true=>simp only[hroom,yb0] at hs;exact⟨_,hs,qmk htab hop hc hargs' htys h hN hf hl htk hy hroom⟩
        ·cases hs
       ·cases hs
    ·cases hs
  ·cases hs
 ·cases hs
end
end Go.Dn
end

section
/- Calls by contract. -/
namespace Go.Dn
theorem Rep.full {w:World}{Pr Q:Nat->Prop}:∀{t:Ty} {o:Ow} {cs:List Value} {x:PV t} {bs:List Nat},Go.Dn.full t o=true->Rep w Pr t o cs x bs->Rep w Q t (top t) cs x bs
 | .int _,_,_,_,_,_,h=>h
 | .bool,_,_,_,_,_,h=>h
 | .str,_,_,_,_,_,h=>h
 | .unit,_,_,_,_,_,h=>h
 | .pair a b,o,_,_,_,hf,h=>by
   simp only[Go.Dn.full,yh0] at hf;obtain⟨c1,c2,b1,b2,e1,e2,h1,h2⟩:=h;exact⟨c1,c2,b1,b2,e1,e2,h1.full hf.1,h2.full hf.2⟩
 | .slice e t,.row oe,_,xs,bs,hf,h=>by
   obtain⟨v,ys,b',e1,e2,e3,h1⟩:=jy.1 h;exact jy.2 ⟨v,ys,b',e1,e2,e3,h1.imp (bsA:=b') (λc x b _ hr=>hr.full (by simpa[Go.Dn.full] using hf)) (λ_ h=>h)⟩
 | .slice _ _,.b,_,_,_,hf,_=>by simp[Go.Dn.full] at hf
 | .slice _ _,.pr _ _,_,_,_,hf,_=>by simp[Go.Dn.full] at hf
theorem zfa:∀t:Ty,full t (top t)=true
 | .int _=>rfl
 | .bool=>rfl
 | .str=>rfl
 | .unit=>rfl
 | .pair a b=>by simp[full,top,Ow.fst,Ow.snd,zfa a,zfa b]
 | .slice _ t=>by simp[full,top,zfa t]
section
variable {w0 : World} {Pr0 M : Nat → Prop}
variable {P : Program} {cx : Cx} {E : Env} {V : List Value} {w w' : World} {Pr Pr' Q : Nat → Prop} {B : Nat → List Nat} {off : Nat} {a : Act}
theorem zx.full {v:Value}{t:Ty}{o:Ow}{x:PV t}{bs:List Nat}(hf:Go.Dn.full t o=true)(h:zx w Pr v t o x bs):zx w Q v t (top t) x bs:=by
 obtain⟨cs,h1,h2⟩:=h;exact⟨cs,h1,h2.full hf⟩
theorem vg.full {v:Value}{t:Ty}{o:Ow}{x:PV t}{bs:List Nat}(hf:Go.Dn.full t o=true)(h:vg w Pr v t o x bs):vg w Q v t (top t) x bs:=by
 obtain⟨b,cs,bs0,h1,h2,h3,h4⟩:=h;exact⟨b,cs,bs0,h1,h2,h3.full hf,h4⟩
theorem vg.more {v:Value}{t:Ty}{o:Ow}{x:PV t}{bs:List Nat}(hp:∀k,Pr k->Q k)(h:vg w Pr v t o x bs):vg w Q v t o x bs:=by
 obtain⟨b,cs,bs0,h1,h2,h3,h4⟩:=h;exact⟨b,cs,bs0,h1,h2,h3.more hp,h4⟩
theorem vg.zax {v:Value}{t:Ty}{o:Ow}{x:PV t}{bs:List Nat}(ho:owns t o=false)(h:vg w Pr v t o x bs):vg w Pr v t .b x bs:=by
 obtain⟨b,cs,bs0,h1,h2,h3,h4⟩:=h;have:=h3.zax ho;subst this;exact⟨b,cs,[],h1,h2,h3.lend.more (λk hk=>hk.elim id (λm=>by cases m)),h4⟩
def zxd (w:World)(Pr:Nat->Prop)(m:Mode)(t:Ty)(v:Value)(x:PV t)(bs:List Nat):Prop:=
 match m with
 | .bor=>zx w Pr v t .b x []/\bs=[]
 | .own=>zx w Pr v t (top t) x bs
 | .mut=>zx w Pr v t (top t) x bs
 | .ptr=>vg w Pr v t .b x bs
def zai (w:World)(Pr:Nat->Prop):(ps:List (Mode×Ty))->List Value->PVs (ps.map (·.2))->List (List Nat)->Prop
 |[],[],_,[]=>True
 |(m,t)::ps,v::vs,x,bs::bss=>zxd w Pr m t v x.1 bs/\zai w Pr ps vs x.2 bss
 |_,_,_,_=>False
def zao (w:World)(Pr:Nat->Prop):(ps:List (Mode×Ty))->List Value->PVs (backs ps)->List (List Nat)->Prop
 |[],[],_,[]=>True
 |(.bor,_)::ps,_::vs,r,bs::bss=>bs=[]/\zao w Pr ps vs r bss
 |(.own,_)::ps,_::vs,r,bs::bss=>bs=[]/\zao w Pr ps vs r bss
 |(.mut,t)::ps,v::vs,r,bs::bss=>zx w Pr v t (top t) r.1 bs/\zao w Pr ps vs r.2 bss
 |(.ptr,t)::ps,v::vs,r,bs::bss=>vg w Pr v t .b r.1 bs/\zao w Pr ps vs r.2 bss
 |_,_,_,_=>False
def zdd:List Value->Value
 |[v]=>v
 |vs=>.tuple vs.toArray
def FnOk (g:Glob)(P:Program)(k:FuncId)(ct:Ct):Prop:=
 (ct.rets.all λq=> !q.1.isUnit)=true/\
 ∀(w:World) (Pr:Nat->Prop) (vs:List Value) (xs:PVs (ct.pars.map (·.2))) (bss:List (List Nat)) (r:PVs (ct.rets.map (·.1))×PVs (backs ct.pars)),
  (∀b,Pr b->b<w.heap.size)->zai w Pr ct.pars vs xs bss->bss.flatten.Nodup->(∀b∈bss.flatten,¬Pr b/\b<w.heap.size)->g.ok w->(∀b,g.dom b->Pr b)->ct.F xs=some r->
  (∃fn,P.funcs[k]? =some fn/\fn.body.isSome=true/\(fn.name== "runtime.NumGoroutine")=false)/\
  Calls P k vs.toArray w λe w'=>∃(rv:List Value) (Pr':Nat->Prop) (bv:List Nat) (bms:List (List Nat)),e=.returned (zdd rv)/\zat w' Pr' (zbe ct.rets r.1) rv bv/\zao w' Pr' ct.pars vs r.2 bms/\
   (bv++bms.flatten).Nodup/\(∀b∈bv++bms.flatten,(b∈bss.flatten\/w.heap.size<=b)/\¬Pr' b/\b<w'.heap.size)/\(∀b,Pr b->Pr' b)/\
   (∀b,Pr' b->Pr b\/(b∈bss.flatten\/w.heap.size<=b)/\b<w'.heap.size)/\w'.os=w.os/\w'.tape=w.tape/\w'.output=w.output/\w.heap.size<=w'.heap.size/\
   (∀b,b<w.heap.size->b∉bss.flatten->w'.heap[b]? =w.heap[b]?)
def BkOk (w:World)(_:Nat->Prop)(E:Env)(V:List Value)(_:Nat->List Nat)(m:Mode)(t:Ty)(v:Value)(b:Bk):Prop:=
 match m,b with
 | .mut,.val j=>V[j]? =some v/\j<E.length
 | .mut,.hol j iV t' o z p=>E[j]? =some (E.at j)/\(E.at j).s=.hole iV t' o z p/\getT p t'=t/\∃vj loc,V[j]? =some vj/\jl w iV t' vj p=some loc/\v=pack (getT p t') (zbf w loc.1 loc.2 (getT p t').size)
 | .ptr,.var j=>V[j]? =some v/\j<E.length/\(E.at j).s.zay=false
 | .bor,_=>True
 | .own,_=>True
 |_,_=>False
def ziw (w:World)(Pr:Nat->Prop)(m:Mode)(t:Ty)(v:Value)(x:PV t)(bs:List Nat):Prop:=
 match m with
 | .bor=>bs=[]
 | .own=>zx w Pr v t (top t) x bs
 | .mut=>zx w Pr v t (top t) x bs
 | .ptr=>vg w Pr v t .b x bs
theorem z5u (h:StB w0 Pr0 M E V w Pr B)(hf:Fr off V a){N:Nat}(hN:E.length<=N)(hB:B N=[]){m:Mode}{t:Ty}{x:Operand}{y:PV t}{us:List U}{b:Bk}
 (hh:handOver E off m t x=some (y,us,b)):
 ∃B1,StB w0 Pr0 M (appU E us) V w Pr B1/\(appU E us).length=E.length/\ziw w Pr m t (a.eval x) y (B1 N)/\(∀k,E.length<=k->k≠N->B1 k=B k)/\BkOk w Pr (appU E us) V B1 m t (a.eval x) b:=by
 cases m with
 |bor=>cases hh
 |own=>
  simp only[handOver] at hh;split at hh
  ·rename_i v us' ht
   split at hh
   ·rename_i y' hcast
    cases hfull:full v.t v.o with
    |false=>rw[hfull] at hh;cases hh
    |true=>
     rw[hfull] at hh;simp only[yb0,yn0,ya1] at hh;obtain⟨rfl,rfl,rfl⟩:=hh;obtain⟨T,O,X⟩:=v;obtain⟨hT,rfl⟩:=zas hcast;simp only at hT;subst hT;obtain⟨B1,g1,g2,g3,g4⟩:=zd4 h hN hB (zwa h hf T x) ht;exact⟨B1,g1,g4,zx.full hfull g2,g3,trivial⟩
   ·cases hh
  ·cases hh
 | «mut» =>
   simp only[handOver] at hh;split at hh
   ·rename_i al hal
    cases hok:al.okS E with
    |false=>rw[hok] at hh;cases hh
    |true=>
     rw[hok] at hh;simp only[yb0] at hh;have hso:=zd2 h (qx h hf x) (N:=N) hB;rw[hal] at hso;have hso:zc2 w E V al (a.eval x):=hso;split at hh
     ·rename_i t' o z hroot
      split at hh
      ·rename_i y' hcast
       cases hfull:full (getT al.p t') (getO al.p o) with
       |false=>rw[hfull] at hh;cases hh
       |true=>
        rw[hfull] at hh;simp only[yb0] at hh;obtain⟨rfl,rfl⟩:=zas hcast;obtain⟨vj,g1,g2,g3,g4⟩:=zh8 (iV:=false) h hso hok hroot;have hj:=(yf2.1 g2).1;have hjN:al.j≠N:=by omega
        cases hnil:isNil al.p with
        |true=>
         rw[hnil] at hh;simp only[yb0,yn0,ya1] at hh;obtain⟨rfl,rfl,rfl⟩:=hh;have hp:=zj1.1 hnil;rcases g4 with⟨_,_,hv⟩|⟨hp',_⟩
         ·have g3:zx w Pr vj t' o z (B al.j):=g3
          refine⟨swap B N al.j (B al.j) [],?_,by simp[appU,U.app],?_,λk hk hne=>zgi hne (by omega),?_⟩
          ·show StB w0 Pr0 M (E.set al.j _) V w Pr _
           exact h.part hN hB g2 g1 (by simp) (.inl (Nat.lt_succ_self _)) trivial
          ·show zx _ _ _ _ _ _ _
           rw[zgo,hv];obtain⟨alj,alp,aliv,alcv⟩:=al;simp only at hp;subst hp;exact zx.full hfull g3
          ·exact⟨by rw[hv];exact g1,by simpa[appU,U.app] using hj⟩
         ·rcases hp' with hp'|hp'
          ·exact absurd hp hp'
          ·cases hp'
        |false=>
         rw[hnil] at hh;simp only[yd0,yn0,ya1] at hh;obtain⟨rfl,rfl,rfl⟩:=hh;rcases g4 with⟨_,hp,_⟩|⟨_,hpath,hfo,loc,hl,hv⟩
         ·rw[hp] at hnil;cases hnil
         ·obtain⟨B1,q1,q2,q3⟩:=h.dig hN hB g2 g1 (iV:=false) hroot hpath hfo hl hv
          refine⟨B1,q1,by simp[appU,U.app],zx.full hfull q2,q3,?_⟩;have he':(appU E [.hol al.j (.hole false t' o z al.p)])[al.j]? =some ⟨(E.at al.j).iv,(E.at al.j).cv,.hole false t' o z al.p⟩:=yi2 hj
          exact⟨by rw[jq he'];exact he',by rw[jq he'],rfl,vj,loc,g1,hl,hv⟩
      ·cases hh
     ·rename_i t' o z hroot
      split at hh
      ·rename_i y' hcast
       cases hfull:full (getT al.p t') (getO al.p o) with
       |false=>rw[hfull] at hh;cases hh
       |true=>
        rw[hfull] at hh;simp only[yb0,yn0,ya1] at hh;obtain⟨rfl,rfl,rfl⟩:=hh;obtain⟨rfl,rfl⟩:=zas hcast;obtain⟨vj,g1,g2,g3,g4⟩:=zh8 (iV:=true) h hso hok hroot;have hj:=(yf2.1 g2).1;rcases g4 with⟨hbad,_⟩|⟨_,hpath,hfo,loc,hl,hv⟩
        ·cases hbad
        ·obtain⟨B1,q1,q2,q3⟩:=h.dig hN hB g2 g1 (iV:=true) hroot hpath hfo hl hv
         refine⟨B1,q1,by simp[appU,U.app],zx.full hfull q2,q3,?_⟩;have he':(appU E [.hol al.j (.hole true t' o z al.p)])[al.j]? =some ⟨(E.at al.j).iv,(E.at al.j).cv,.hole true t' o z al.p⟩:=yi2 hj
         exact⟨by rw[jq he'];exact he',by rw[jq he'],rfl,vj,loc,g1,hl,hv⟩
      ·cases hh
     ·cases hh
   ·cases hh
 |ptr=>
  simp only[handOver] at hh;split at hh
  ·rename_i al hp
   split at hh
   ·rename_i t' o z hroot
    split at hh
    ·rename_i y' hcast
     cases hc: !owns t' o&&isNil al.p with
     |false=>rw[hc] at hh;cases hh
     |true=>
      rw[hc] at hh;simp only[yb0,yn0,ya1] at hh;obtain⟨rfl,rfl,rfl⟩:=hh;obtain⟨rfl,rfl⟩:=zas hcast;rw[yh0] at hc;obtain⟨hA,hok⟩:=zik h (qx h hf x) hp;obtain⟨e,vj,hl,hv,hk⟩:=hA;have he:=jq hl.1;have hiv:e.iv=al.iv:=by simp only[Al.okA,he,yh0,yy0] at hok;exact hok.1
      have hev:=(hk hiv).1 (zj1.1 hc.2);have hj:=(yf2.1 hl.1).1;have hjN:al.j≠N:=by omega
      have hso:=h.slots al.j e vj hl.1 hv;rw[<-he,hroot] at hso;refine⟨swap B N al.j (B al.j) [],?_,by simp[appU,U.app],?_,λk hk hne=>zgi hne (by omega),?_⟩
      ·show StB w0 Pr0 M (E.set al.j _) V w Pr _
       exact h.part hN hB (e:=E.at al.j) (by rw[he];exact hl.1) hv (by simp) (.inr (.inl ⟨rfl,rfl,Nat.lt_succ_self _,by rw[hroot];rfl⟩)) trivial
      ·show vg _ _ _ _ _ _ _
       rw[zgo,hev];exact vg.zax (by simpa using hc.1) hso
      ·have he2:(appU E [.cont al.j .none])[al.j]? =some ⟨(E.at al.j).iv,(E.at al.j).cv+1,.none⟩:=yi2 hj
       exact⟨by rw[hev];exact hv,by simpa[appU,U.app] using hj,by rw[jq he2];rfl⟩
    ·cases hh
   ·cases hh
  ·cases hh
theorem Rep.zra {w:World}{Pr Q:Nat->Prop}:∀{t:Ty} {o:Ow} {cs:List Value} {x:PV t} {bs:List Nat},Go.Dn.full t o=true->Rep w Pr t (top t) cs x bs->Rep w Q t o cs x bs
 | .int _,_,_,_,_,_,h=>h
 | .bool,_,_,_,_,_,h=>h
 | .str,_,_,_,_,_,h=>h
 | .unit,_,_,_,_,_,h=>h
 | .pair a b,o,_,_,_,hf,h=>by
   simp only[Go.Dn.full,yh0] at hf;obtain⟨c1,c2,b1,b2,e1,e2,h1,h2⟩:=h;exact⟨c1,c2,b1,b2,e1,e2,h1.zra hf.1,h2.zra hf.2⟩
 | .slice e t,.row oe,_,xs,bs,hf,h=>by
   obtain⟨v,ys,b',e1,e2,e3,h1⟩:=jy.1 h;exact jy.2 ⟨v,ys,b',e1,e2,e3,h1.imp (bsA:=b') (λc x b _ hr=>hr.zra (by simpa[Go.Dn.full] using hf)) (λ_ h=>h)⟩
 | .slice _ _,.b,_,_,_,hf,_=>by simp[Go.Dn.full] at hf
 | .slice _ _,.pr _ _,_,_,_,hf,_=>by simp[Go.Dn.full] at hf
theorem pack_inj {t:Ty}{c1 c2:List Value}(h1:c1.length=t.size)(h2:c2.length=t.size)(h:pack t c1=pack t c2):c1=c2:=by
 unfold pack at h;cases ha:t.agg with
 |true=>
  simp only[ha,if_true,Value.agg.injEq] at h;simpa using h
 |false=>
  simp only[ha,Bool.false_eq_true,if_false] at h;have hs:t.size=1:=by cases t<;>simp[Ty.agg] at ha<;>rfl
  rw[hs] at h1 h2;obtain⟨a,rfl⟩:=yc3.1 h1;obtain⟨b,rfl⟩:=yc3.1 h2;simpa using h
theorem StB.q9k (h:StB w0 Pr0 M E V w Pr B){N j:Nat}(hN:E.length<=N){v vj:Value}{iV:Bool}{t:Ty}{o o2 o3:Ow}{z:PV t}{p:List PE}{y:PV (getT p t)}{loc:Nat×Nat}
 (he:E[j]? =some (E.at j))(hs:(E.at j).s=.hole iV t o z p)(hv:V[j]? =some vj)(hl:jl w iV t vj p=some loc)(hval:v=pack (getT p t) (zbf w loc.1 loc.2 (getT p t).size))
 (hy:zx w Pr v (getT p t) (top (getT p t)) y (B N))(hfit:fitO p o (getT p t) (top (getT p t))=some (o2,o3))(hfull:full (getT p t) o2=true):
 StB w0 Pr0 M (U.app E (.cont j (zfk iV t o3 (set p t z y)))) V w Pr (λk=>if k=j then B N++B j else if k=N then[] else B k):=by
 have hso:=h.slots j _ vj he hv;rw[hs] at hso;obtain⟨b',off',cs',h1,h2,h3,h4,h5,h6,h7,-⟩:=hso;rw[hl] at h1;obtain rfl:=yl0 h1;obtain⟨hset,_⟩:=qdl h5 hfit;obtain⟨cs,hv1,hr⟩:=hy;have hcs:cs=cs':=pack_inj hr.length h3 (by rw[<-hv1,hval];simp only;rw[<-h3,h2.read]);subst hcs;have hroot:=h7 w Pr o2 o3 cs y (B N) (λ_ h=>h) (λ_ _ _=>rfl) (h2.upd rfl) (hr.zra hfull) hset;have hj:=(yf2.1 he).1;have hjN:j≠N:=by omega
 refine h.pool (λk=>k=j\/k=N) (by simp[U.app,h.len]) (by simp[U.app]) (λk hk=> ?_) (λk e v hk he' hv'=> ?_) (λk hk b hb=> ?_) (λ_ h=>h) (λ_ h=>.inl h)
  (λk hk=> ?_) (λi k hi hk hne b hb hbk=> ?_) (λ_ _ _=>rfl) rfl rfl rfl (ym0 _)
 ·have h1:k≠j:=λe=>hk (.inl e)
  have h2:k≠N:=λe=>hk (.inr e);exact⟨yj2 (Ne.symm h1),rfl,by simp[h1,h2]⟩
 ·rcases hk with rfl|rfl
  ·rw[hv] at hv'
   rw[he] at he';obtain rfl:=yl0 hv';obtain rfl:=yl0 he';refine⟨_,_,yi2 hj,hv,?_,.inr (.inl ⟨rfl,rfl,Nat.lt_succ_self _,?_⟩)⟩
   ·show jd w _ _ _ _ k (zfk iV t o3 (set p t z y)) _
    cases iV with
    |true=>show vg _ _ _ _ _ _ _;simp only[if_true];exact hroot
    |false=>show zx _ _ _ _ _ _ _;simp only[if_true];exact hroot
   ·show(zfk iV t o3 (set p t z y)).zay=(E.at k).s.zay
    rw[hs];cases iV<;>rfl
  ·have:=(yf2.1 he').1;omega
 ·rcases hk with rfl|rfl
  ·simp only[if_true] at hb
   rcases yu0.1 hb with hb|hb
   ·exact⟨.inl ⟨N,.inr rfl,hb⟩,(h.free _ _ hb).2.2⟩
   ·exact⟨.inl ⟨k,.inl rfl,hb⟩,(h.free _ _ hb).2.2⟩
  ·simp[Ne.symm hjN] at hb
 ·rcases hk with rfl|rfl
  ·simp only[if_true]
   exact yf1.2 ⟨h.nodup N,h.nodup k,λx hx y hy hxy=>h.disj N k (Ne.symm hjN) x hx (hxy▸hy)⟩
  ·simp[Ne.symm hjN]
 ·rcases hi with rfl|rfl<;>rcases hk with rfl|rfl
  ·exact hne rfl
  ·simp[Ne.symm hjN] at hbk
  ·simp[Ne.symm hjN] at hb
  ·exact hne rfl
def zba (w:World)(Pr:Nat->Prop)(E:Env)(V:List Value):List Nat->List (Mode×Ty)->List Value->List SV->List Bk->List (List Nat)->Prop
 |l,[],[],[],[],bss=>bss=[]/\l=[]
 |l,(.bor,_)::ps,_::vs,_::ys,_::bs,bss=>∃bss',bss=[]::bss'/\zba w Pr E V l ps vs ys bs bss'
 |l,(m,t)::ps,v::vs,⟨t',y⟩::ys,b::bs,bss=>(m≠.bor/\ps.all zfh=true/\ps.length=vs.length/\bs=ps.map (λ_=>Bk.none)/\bss=l::ps.map (λ_=>[])/\BkOk w Pr E V (λ_=>[]) m t v b/\∃e:t'=t,ziw w Pr m t v (e▸y) l)\/
   (m=.own/\∃l1 l2 bss',l=l1++l2/\bss=l1::bss'/\(∃e:t'=t,ziw w Pr .own t v (e▸y) l1)/\zba w Pr E V l2 ps vs ys bs bss')
 |_,_,_,_,_,_=>False
theorem zqe (E:Env):∀(us us':List U),appU E (us++us')=appU (appU E us) us'
 |[],_=>rfl
 |u::us,us'=>zqe (u.app E) us us'
theorem zt7 (hf:Fr off V a):∀{ps:List (Mode×Ty)} {E:Env} {B:Nat->List Nat} {N:Nat} {xs:List Operand} {ys:List SV} {us:List U} {bs:List Bk},StB w0 Pr0 M E V w Pr B->E.length<=N->(∀k,N<=k->B k=[])->za9 E off ps xs=some (ys,us,bs)->
 ∃B1 bss,StB w0 Pr0 M (appU E us) V w Pr B1/\(appU E us).length=E.length/\zba w Pr (appU E us) V (B1 N) ps (xs.map a.eval) ys bs bss/\(∀k,N<k->B1 k=[])/\(∀k,E.length<=k->k<N->B1 k=B k)/\bss.flatten=B1 N
 |[],E,B,N,[],ys,us,bs,h,hEN,hN,hh=>by
  simp only[za9,yn0,ya1] at hh;obtain⟨rfl,rfl,rfl⟩:=hh;exact⟨B,[],h,rfl,⟨rfl,hN _ (ym0 _)⟩,λk hk=>hN k (by omega),λ_ _ _=>rfl,(hN _ (ym0 _)).symm⟩
 |(m,t)::ps,E,B,N,x::xs,ys,us,bs,h,hEN,hN,hh=>by
  simp only[za9] at hh;split at hh
  ·split at hh
   ·rename_i vs us' bs' hh'
    simp only[yn0,ya1] at hh;obtain⟨rfl,rfl,rfl⟩:=hh;obtain⟨B1,bss,g1,g2,g3,g4,g5,g6⟩:=zt7 hf h hEN hN hh';exact⟨B1,[]::bss,g1,g2,⟨bss,rfl,g3⟩,g4,g5,by simpa using g6⟩
   ·cases hh
  ·rename_i hm
   cases hc:ps.all zfh&&(ps.length==xs.length) with
   |false=>
    rw[hc] at hh;simp only[yd0] at hh;split at hh
    case h_2=>cases hh
    split at hh
    case h_2=>cases hh
    rename_i y us1 b1 hh1;split at hh
    case h_2=>cases hh
    rename_i vs us2 bs2 hh2;simp only[yn0,ya1] at hh;obtain⟨rfl,rfl,rfl⟩:=hh;obtain⟨B1,g1,g2,g3,g4,g5⟩:=z5u h hf hEN (hN _ (ym0 _)) hh1;obtain⟨B2,bss,k1,k2,k3,k4,k5,k6⟩:=zt7 hf (N:=N+1) g1 (by omega) (λk hk=>by rw[g4 k (by omega) (by omega)];exact hN k (by omega)) hh2;have e2:B2 N=B1 N:=k5 N (by omega) (by omega);have hl:(appU (appU E us1) us2).length<=N:=by omega
    refine⟨λk=>if k=N then B1 N++B2 (N+1) else if k=N+1 then[] else B2 k,B1 N::bss,?_,by rw[zqe];omega,?_,λk hk=> ?_,λk hk hkN=> ?_,?_⟩
    ·rw[zqe]
     refine k1.hand (λk hk=> ?_) (λk hk b hb=> ?_) (λ_ h=>h) (λ_ h=>.inl h) (λk hk=> ?_) (λj k hj hk hne b hb hbk=> ?_) (λ_ _ _=>rfl) rfl rfl rfl (ym0 _)
     ·rw[yw0 (by omega),yw0 (by omega)]
     ·have:∃k',(appU (appU E us1) us2).length<=k'/\b∈B2 k':=by
       by_cases e:k=N
       ·simp only[e,if_true] at hb
        rcases yu0.1 hb with hb|hb
        ·exact⟨N,by omega,by rw[e2];exact hb⟩
        ·exact⟨N+1,by omega,hb⟩
       ·by_cases e':k=N+1
        ·simp[e'] at hb
        ·simp only[e,e',if_false] at hb;exact⟨k,hk,hb⟩
      obtain⟨k',h1,h2⟩:=this;exact⟨.inl ⟨k',h1,h2⟩,(k1.free k' b h2).2.2⟩
     ·by_cases e:k=N
      ·simp only[e,if_true]
       rw[yf1];refine⟨e2▸k1.nodup N,k1.nodup (N+1),λa ha b hb hab=> ?_⟩;subst hab;exact k1.disj N (N+1) (by omega) a (by rw[e2];exact ha) hb
      ·by_cases e':k=N+1
       ·simp[e']
       ·simp only[e,e',if_false];exact k1.nodup k
     ·have key:∀j,b∈(if j=N then B1 N++B2 (N+1) else if j=N+1 then[] else B2 j)->∃j',b∈B2 j'/\(j'=j\/(j=N/\j'=N+1))/\j≠N+1:=λj hb=>by
       by_cases e:j=N
       ·simp only[e,if_true] at hb
        rcases yu0.1 hb with hb|hb
        ·exact⟨N,by rw[e2];exact hb,.inl e.symm,by omega⟩
        ·exact⟨N+1,hb,.inr ⟨e,rfl⟩,by omega⟩
       ·by_cases e':j=N+1
        ·simp[e'] at hb
        ·simp only[e,e',if_false] at hb;exact⟨j,hb,.inl rfl,e'⟩
      obtain⟨j',q1,q2,q3⟩:=key j hb;obtain⟨k',p1,p2,p3⟩:=key k hbk;exact k1.disj j' k' (by omega) b q1 p1
    ·rw[zqe]
     refine .inr ⟨rfl,B1 N,B2 (N+1),bss,by simp,rfl,⟨rfl,g3⟩,k3⟩
    ·show(if k=N then B1 N++B2 (N+1) else if k=N+1 then[] else B2 k)=[]
     rw[yw0 (by omega)];by_cases e':k=N+1
     ·rw[yx0 e']
     ·rw[yw0 e'];exact k4 k (by omega)
    ·show(if k=N then B1 N++B2 (N+1) else if k=N+1 then[] else B2 k)=B k
     rw[yw0 (by omega),yw0 (by omega),k5 k (by omega) (by omega)];exact g4 k hk (by omega)
    ·simp[k6]
   |true=>
    rw[hc] at hh;simp only[yb0] at hh;rw[yh0,yy0] at hc;split at hh
    ·rename_i y us' b hh'
     simp only[yn0,ya1] at hh;obtain⟨rfl,rfl,rfl⟩:=hh;obtain⟨B1,g1,g2,g3,g4,g5⟩:=z5u h hf hEN (hN _ (ym0 _)) hh';refine⟨B1,B1 N::ps.map (λ_=>[]),g1,g2,?_,λk hk=>by rw[g4 k (by omega) (by omega)];exact hN k (by omega),λk hk hkN=>g4 k hk (by omega),?_⟩
     ·cases m with
      |bor=>exact absurd rfl hm
      |own=>exact .inl ⟨hm,hc.1,by simp[hc.2],rfl,rfl,g5,rfl,g3⟩
      | «mut» =>exact .inl ⟨hm,hc.1,by simp[hc.2],rfl,rfl,g5,rfl,g3⟩
      |ptr=>exact .inl ⟨hm,hc.1,by simp[hc.2],rfl,rfl,g5,rfl,g3⟩
     ·have:(ps.map (λ_=>([]:List Nat))).flatten=[]:=by
       clear hh' hc g3 g5 hm
       induction ps<;>simp_all
      simp[this]
    ·cases hh
 |[],_,_,_,_::_,_,_,_,_,_,_,hh=>by simp[za9] at hh
 |_::_,_,_,_,[],_,_,_,_,_,_,hh=>by simp[za9] at hh
theorem StB.q9l (h:StB w0 Pr0 M E V w Pr B):StB w0 Pr0 M E V w Pr (λk=>if E.length<=k then[] else B k):=
 h.hand (λk hk=>yw0 (by omega)) (λk hk b hb=>by simp[hk] at hb) (λ_ h=>h) (λ_ h=>.inl h)
  (λk hk=>by simp[hk]) (λj k hj hk _ b hb=>by simp[hj] at hb) (λ_ _ _=>rfl) rfl rfl rfl (ym0 _)
def PrC (strict:Bool)(E:Env)(Pr:Nat->Prop)(B:Nat->List Nat):Nat->Prop:=
 λb=>Pr b\/(strict=false/\∃k,k<E.length/\b∈B k)
theorem ziw.any {m:Mode}{t:Ty}{v:Value}{x:PV t}{bs:List Nat}(hm:m≠.bor)(hQ:∀b,Pr b->Q b)(h:ziw w Pr m t v x bs):zxd w Q m t v x bs:=by
 cases m with
 |bor=>exact absurd rfl hm
 |own=>exact zx.full (zfa t) h
 | «mut» =>exact zx.full (zfa t) h
 |ptr=>exact vg.more hQ h
theorem qzw (h:StB w0 Pr0 M E V w Pr B)(hf:Fr off V a){strict:Bool}{t t':Ty}{x:Operand}{y:PV t'}(hr:rd E (opdY E off t x).s=some ⟨t',y⟩)
 (hst:(!strict||(opdY E off t x).s.free||noSl t')=true):zx w (PrC strict E Pr B) (a.eval x) t' .b y []:=by
 have ho:=zwa h hf t x;cases hns:noSl t' with
 |true=>exact zkg h ho hr hns w _ .b
 |false=>
  cases strict with
  |false=>
   obtain⟨cs,h1,h2⟩:=zdm h.q9l ho hr;refine⟨cs,h1,h2.more (λb hb=>hb.imp id λ⟨k,hk⟩=>⟨rfl,k,?_⟩)⟩;by_cases hle:E.length<=k
   ·simp[hle] at hk
   ·simp only[hle,if_false] at hk;exact⟨by omega,hk⟩
  |true=>
   rw[hns] at hst;simp only[ys0,yd2,Bool.or_false] at hst;cases hs2:(opdY E off t x).s<;>rw[hs2] at hst<;>try (cases hst;done)
   ·rename_i t2 o2 x2
    rw[hs2] at hr;simp only[rd] at hr;obtain⟨rfl,hx⟩:=Sigma.mk.inj (yl0 hr);obtain rfl:=eq_of_heq hx;have hown:owns t2 o2=false:=by simpa[Slot.free] using hst
    have:∃bs,zx w Pr (a.eval x) t2 o2 x2 bs:=by
     cases hix:(opdY E off t x).ix with
     |none=>unfold jv at ho;rw[hix,hs2] at ho;exact⟨[],ho⟩
     |some k=>have:=zcy h ho hix;rw[hs2] at this;exact⟨_,this⟩
    obtain⟨bs,hv⟩:=this;obtain⟨cs,h1,h2⟩:=zx.zax hown hv;exact⟨cs,h1,h2.more (λb hb=>.inl hb)⟩
theorem z5v (h:StB w0 Pr0 M E V w Pr B)(hf:Fr off V a){strict:Bool}{t:Ty}{x:Operand}{y:SV}{z:PV t}(hl:zkm strict E off .bor t x y=some z):zxd w (PrC strict E Pr B) .bor t (a.eval x) z []:=by
 simp only[zkm] at hl;split at hl
 ·rename_i t' y' hr
  cases hst:(!strict||(opdY E off t x).s.free||noSl t') with
  |false=>rw[hst] at hl;cases hl
  |true=>
   rw[hst] at hl;simp only[yb0] at hl;obtain⟨rfl,rfl⟩:=zas hl;exact⟨qzw h hf hr hst,rfl⟩
 ·cases hl
theorem qdn (h:StB w0 Pr0 M E V w Pr B)(hf:Fr off V a){strict:Bool}:∀{ps:List (Mode×Ty)} {xs:List Operand} {ys:List SV} {zs:PVs (ps.map (·.2))},ps.all zfh=true->zbm strict E off ps xs ys=some zs->
 zai w (PrC strict E Pr B) ps (xs.map a.eval) zs (ps.map (λ_=>[]))
 |[],[],[],_,_,_=>trivial
 |(m,t)::ps,x::xs,y::ys,zs,hb,hl=>by
  rw[List.all_cons,yh0] at hb;obtain⟨hb1,hb⟩:=hb;cases m<;>simp[zfh] at hb1;simp only[zbm] at hl;split at hl
  ·rename_i y2 r2 hc hl2
   simp only[yn0] at hl;subst hl;exact⟨z5v h hf hc,qdn h hf hb hl2⟩
  ·cases hl
 |[],[],_::_,_,_,hl=>by simp[zbm] at hl
 |[],_::_,_,_,_,hl=>by simp[zbm] at hl
 |_::_,[],_,_,_,hl=>by simp[zbm] at hl
 |_::_,_::_,[],_,_,hl=>by simp[zbm] at hl
theorem zt8 (h:StB w0 Pr0 M E V w Pr B)(hf:Fr off V a){strict:Bool}:∀{l:List Nat} {ps:List (Mode×Ty)} {xs:List Operand} {ys:List SV} {bs:List Bk} {bss:List (List Nat)} {zs:PVs (ps.map (·.2))},
 zba w Pr E V l ps (xs.map a.eval) ys bs bss->zbm strict E off ps xs ys=some zs->zai w (PrC strict E Pr B) ps (xs.map a.eval) zs bss
 |l,[],[],[],[],bss,_,hh,_=>by obtain⟨rfl,_⟩:=hh;trivial
 |l,(m,t)::ps,x::xs,y::ys,b::bs,bss,zs,hh,hl=>by
  cases m with
  |bor=>
   obtain⟨bss',rfl,hh⟩:=hh;simp only[zbm] at hl;split at hl
   ·rename_i y2 r2 hc hl2
    simp only[yn0] at hl;subst hl;exact⟨z5v h hf hc,zt8 h hf hh hl2⟩
   ·cases hl
  |_=>
   obtain⟨T,Y⟩:=y;rcases hh with⟨hm,hb,hlen,rfl,rfl,hbk,e,hh⟩|⟨hm,l1,l2,bss',rfl,rfl,⟨e,hh⟩,hrest⟩
   ·subst e
    simp only[zbm] at hl;split at hl
    ·rename_i y2 r2 hc hl2
     simp only[yn0] at hl;subst hl;obtain rfl:=zts hc;exact⟨ziw.any hm (λ_ hb=>.inl hb) hh,qdn h hf hb hl2⟩
    ·cases hl
   ·subst e
    simp only[zbm] at hl;split at hl
    ·rename_i y2 r2 hc hl2
     simp only[yn0] at hl;subst hl;obtain rfl:=zts hc;cases hm<;>exact⟨ziw.any (by simp) (λ_ hb=>.inl hb) hh,zt8 h hf hrest hl2⟩
    ·cases hl
 |_,[],_::_,_,_,_,_,hh,_=>by simp[zba] at hh
 |_,(m,t)::ps,[],ys,bs,bss,zs,hh,hl=>by cases m<;>cases ys<;>simp[zbm] at hl
 |_,[],[],_::_,_,_,_,hh,_=>by simp[zba] at hh
 |_,[],[],[],_::_,_,_,hh,_=>by simp[zba] at hh
 |_,(m,t)::ps,x::xs,[],bs,bss,zs,hh,hl=>by cases m<;>simp[zbm] at hl
 |_,(m,t)::ps,x::xs,y::ys,[],bss,zs,hh,hl=>by cases m<;>simp[zba] at hh
end
end Go.Dn
end

section
/- Calls by contract, second part: what comes back. -/
namespace Go.Dn
section
variable {w0 : World} {Pr0 M : Nat → Prop}
variable {P : Program} {cx : Cx} {E : Env} {V : List Value} {w w' w1 : World} {Pr Pr' Pr1 Q : Nat → Prop} {B B1 : Nat → List Nat} {off : Nat} {a : Act}
theorem BkOk.move (h:StB w0 Pr0 M E V w Pr B){m:Mode}{t:Ty}{v:Value}{b:Bk}(hb:BkOk w Q E V B1 m t v b)
 (hw:∀k,k<E.length->∀b∈B k,w'.heap[b]? =w.heap[b]?):BkOk w' Pr' E V B m t v b:=by
 cases m with
 |bor=>trivial
 |own=>trivial
 |ptr=>cases b<;>exact hb
 | «mut» =>
   cases b with
   |none=>exact hb
   |val j=>exact hb
   |var j=>exact hb
   |hol j iV t' o z p=>
    obtain⟨he,hs,ht,vj,loc,hv,hl,hval⟩:=hb;refine⟨he,hs,ht,vj,loc,hv,?_⟩;have hj:=(yf2.1 he).1;have hso:=h.slots j _ vj he hv;rw[hs] at hso;obtain⟨b',off',cs',h1,h2,h3,h4,h5,h6,h7⟩:=hso;rw[hl] at h1;obtain rfl:=yl0 h1;have hb':=hw j hj b' h4
    have h2':zaj w' b' off' cs':=by
     obtain⟨cur,T,q1,q2⟩:=h2;exact⟨cur,T,hb'.trans q1,q2⟩
    refine⟨h6 w' cs' (λk hk _=>hw j hj k hk) (h2.upd hb'),?_⟩;rw[hval];simp only;rw[<-h3,h2.read,h2'.read]
theorem zmb:∀{ps:List (Mode×Ty)} {vs:List Value} {r:PVs (backs ps)} {us:List U} {bms:List (List Nat)},ps.all zfh=true->bring ps (ps.map (λ_=>Bk.none)) r=some us->
 zao w Q ps vs r bms->us=[]/\bms.flatten=[]
 |[],vs,r,us,bms,_,hb,hk=>by
  cases vs<;>cases bms<;>simp[zao] at hk;simp[bring] at hb;exact⟨hb,rfl⟩
 |(m,t)::ps,vs,r,us,bms,ha,hb,hk=>by
  rw[List.all_cons,yh0] at ha;obtain⟨ha1,ha⟩:=ha;cases m<;>simp[zfh] at ha1;cases vs with
  |nil=>cases bms<;>simp[zao] at hk
  |cons v vs=>
   cases bms with
   |nil=>simp[zao] at hk
   |cons b bms=>
    obtain⟨rfl,hk⟩:=hk;simp only[List.map_cons,bring] at hb;obtain⟨h1,h2⟩:=zmb ha hb hk;exact⟨h1,by simpa using h2⟩
theorem qbx {V:List Value}{j:Nat}{v:Value}(h:V[j]? =some v):V.set j v=V:=by
 apply List.ext_getElem?;intro i;rw[List.getElem?_set];split
 ·rename_i e
  subst e;split
  ·exact h.symm
  ·rename_i hlt;rw[yh2 (by omega)]
 ·rfl
theorem q9m (t:Ty):owns t .b=false:=by induction t<;>simp_all[owns,Ow.fst,Ow.snd]
theorem qfl {N j:Nat}(hN:E.length<=N)(hj:j<E.length):lay B N j N=[]:=by
 have:N≠j:=by omega
 simp[lay,this]
theorem zvl (h:StB w0 Pr0 M E V w Pr B){N:Nat}(hN:E.length<=N)(hbk:∀m t v b,BkOk w1 Pr1 E V (λ_=>[]) m t v b->BkOk w Pr E V B m t v b):
 ∀{l:List Nat} {ps:List (Mode×Ty)} {vs:List Value} {ys:List SV} {bs:List Bk} {bss:List (List Nat)} {r:PVs (backs ps)} {us:List U} {bms:List (List Nat)},
 zba w1 Pr1 E V l ps vs ys bs bss->zao w Pr ps vs r bms->bring ps bs r=some us->bms.flatten=B N->
 ∃B3,StB w0 Pr0 M (appU E us) V w Pr B3/\(appU E us).length=E.length/\(∀k,E.length<=k->k≠N->B3 k=B k)/\B3 N=[]
 |l,[],vs,ys,bs,bss,r,us,bms,hh,hk,hb,hfl=>by
  cases vs<;>cases ys<;>cases bs<;>simp[zba] at hh;cases bms<;>simp[zao] at hk;simp[bring] at hb;subst hb;exact⟨B,h,rfl,λ_ _ _=>rfl,by simpa using hfl.symm⟩
 |l,(m,t)::ps,vs,ys,bs,bss,r,us,bms,hh,hk,hb,hfl=>by
  cases vs with
  |nil=>cases m<;>cases bms<;>simp[zao] at hk
  |cons v vs=>
  cases ys with
  |nil=>cases m<;>cases bs<;>simp[zba] at hh
  |cons y ys=>
  cases bs with
  |nil=>cases m<;>simp[zba] at hh
  |cons b bs=>
  cases bms with
  |nil=>cases m<;>simp[zao] at hk
  |cons bm bms=>
  cases m with
  |bor=>
   obtain⟨bss',rfl,hh⟩:=hh;obtain⟨rfl,hk⟩:=hk;simp only[bring] at hb;exact zvl h hN hbk hh hk hb (by simpa using hfl)
  |own=>
   obtain⟨T,Y⟩:=y;rcases hh with⟨_,ha,hlen,rfl,rfl,_,e,_⟩|⟨_,l1,l2,bss',rfl,rfl,_,hrest⟩
   ·obtain⟨rfl,hk⟩:=hk
    simp only[bring] at hb;obtain⟨rfl,h2⟩:=zmb ha hb hk;exact⟨B,h,rfl,λ_ _ _=>rfl,by rw[<-hfl];simpa using h2⟩
   ·obtain⟨rfl,hk⟩:=hk
    simp only[bring] at hb;exact zvl h hN hbk hrest hk hb (by simpa using hfl)
  | «mut» =>
    obtain⟨T,Y⟩:=y;rcases hh with⟨_,ha,hlen,rfl,rfl,hbk1,e,_⟩|⟨hm,_⟩
    case inr=>cases hm
    obtain⟨hv,hk⟩:=hk;have hbk2:=hbk _ _ _ _ hbk1;simp only[bring] at hb;split at hb
    ·rename_i j us' hb'
     obtain⟨rfl,h2⟩:=zmb ha hb' hk;obtain rfl:=yl0 hb;obtain⟨g1,g2⟩:=hbk2;have hbm:bm=B N:=by rw[<-hfl];simp[h2]
     subst hbm;have:=h.put hN g2 (s:=.val t (top t) r.1) (v:=v) (zx.full (zfa t) hv);rw[qbx g1] at this;exact⟨_,this,by simp[appU,U.app],λk hk hne=>by simp only[lay];rw[yw0 (by omega),yw0 hne],qfl hN g2⟩
    ·rename_i j iV t' o z p us' hb'
     obtain⟨rfl,h2⟩:=zmb ha hb' hk;split at hb
     ·rename_i y' o2 o3 hc hfit
      cases hfull:full t o2 with
      |false=>rw[hfull] at hb;cases hb
      |true=>
       rw[hfull] at hb;simp only[yb0,yn0] at hb;obtain⟨he,hs,ht,vj,loc,hvj,hl,hval⟩:=hbk2;subst ht;obtain rfl:=zts hc;have hbm:bm=B N:=by rw[<-hfl];simp[h2]
       subst hbm;have hj:=(yf2.1 he).1;have:=h.q9k hN he hs hvj hl hval (zx.full (zfa _) hv) hfit hfull;subst hb;refine⟨(λk=>if k=j then B N++B j else if k=N then[] else B k),?_,by simp[appU,U.app],λk hk hne=> ?_,?_⟩
       ·cases iV<;>exact this
       ·simp only;rw[yw0 (by omega),yw0 hne]
       ·have:N≠j:=by omega
        simp[this]
     ·cases hb
    ·cases hb
  |ptr=>
   obtain⟨T,Y⟩:=y;rcases hh with⟨_,ha,hlen,rfl,rfl,hbk1,e,_⟩|⟨hm,_⟩
   case inr=>cases hm
   obtain⟨hv,hk⟩:=hk;have hbk2:=hbk _ _ _ _ hbk1;simp only[bring] at hb;split at hb
   ·rename_i j us' hb'
    obtain⟨rfl,h2⟩:=zmb ha hb' hk;obtain rfl:=yl0 hb;obtain⟨g1,g2,g3⟩:=hbk2;have hbm:bm=B N:=by rw[<-hfl];simp[h2]
    subst hbm;have:=h.putC hN g2 (s:=.var t .b r.1) (v:=v) g1 (by rw[g3];rfl) hv;rw[qbx g1] at this;exact⟨_,this,by simp[appU,U.app],λk hk hne=>by simp only[lay];rw[yw0 (by omega),yw0 hne],qfl hN g2⟩
   ·cases hb
theorem q5b {k:Nat}:∀{l:List TV} {rv:List Value},zat w Pr l rv (B k)->(∀x∈l,x.t≠.unit)->jd w Pr E V B k (qdj l) (zdd rv)
 |[],_,_,_=>trivial
 |[x],rv,h,hne=>by
  cases rv with
  |nil=>simp[zat] at h
  |cons v rv=>
   cases rv with
   |cons=>obtain⟨_,_,_,_,h⟩:=h;simp[zat] at h
   |nil=>
    obtain⟨b1,b2,hp,h1,h2⟩:=h;have:b2=[]:=h2;subst this;rcases h1 with h1|h1
    ·exact absurd h1 (hne x (by simp))
    ·show zx w Pr v x.t x.o x.x (B k)
     obtain⟨cs,q1,q2⟩:=h1;exact⟨cs,q1,q2.perm (by simpa using hp.symm)⟩
 |x::y::l,rv,h,_=>by
  cases rv with
  |nil=>simp[zat] at h
  |cons v rv=>
   cases rv with
   |nil=>obtain⟨_,_,_,_,h⟩:=h;simp[zat] at h
   |cons u rv=>exact⟨_,rfl,h⟩
theorem zus:∀{t:Ty} {o:Ow},noSl t=true->owns t o=false
 | .int _,_,_=>rfl
 | .bool,_,_=>rfl
 | .str,_,_=>rfl
 | .unit,_,_=>rfl
 | .pair a b,o,h=>by
   simp only[noSl,yh0] at h;simp only[owns,zus h.1,zus h.2,Bool.or_false]
 | .slice _ _,_,h=>by simp[noSl] at h
theorem qby {Pr':Nat->Prop}:∀{rs:List (Ty×Ow)} {x:PVs (rs.map (·.1))} {rv:List Value} {bs:List Nat},ziz rs=false->zat w Pr (zbe rs x) rv bs->zat w Pr' (zbe rs x) rv bs
 |[],_,[],_,_,h=>h
 |[],_,_::_,_,_,h=>by simp[zbe,zat] at h
 |(t,o)::rs,x,[],_,_,h=>by simp[zbe,zat] at h
 |(t,o)::rs,x,v::rv,bs,hn,h=>by
  unfold ziz at hn;rw[List.any_cons,yz2] at hn;obtain⟨b1,b2,hp,h1,h2⟩:=h;refine⟨b1,b2,hp,?_,qby hn.2 h2⟩;rcases h1 with h1|h1
  ·exact .inl h1
  ·right
   cases he:Ow.eqb o (top t) with
   |true=>
    obtain rfl:=Ow.ziv he;exact zx.full (zfa t) h1
   |false=>
    have hns:noSl t=true:=by simpa[he] using hn.1
    obtain⟨cs,q1,q2⟩:=h1;have hb:=q2.zax (zus hns);exact⟨cs,q1,by rw[hb];exact q2.plain hns⟩
theorem zmc:∀{ps:List (Mode×Ty)} {vs:List Value} {r:PVs (backs ps)} {bss:List (List Nat)},ptrs ps=false->zao w Pr ps vs r bss->zao w Pr' ps vs r bss
 |[],[],_,[],_,_=>trivial
 |[],_::_,_,_,_,h=>by simp[zao] at h
 |[],[],_,_::_,_,h=>by simp[zao] at h
 |(m,_)::_,[],_,_,_,h=>by cases m<;>simp[zao] at h
 |(m,_)::_,_::_,_,[],_,h=>by cases m<;>simp[zao] at h
 |(m,t)::ps,v::vs,r,bs::bss,hn,h=>by
  have hn':ptrs ps=false:=by
   unfold ptrs at hn ⊢;rw[List.any_cons,yz2] at hn;exact hn.2
  cases m with
  |bor=>exact⟨h.1,zmc hn' h.2⟩
  |own=>exact⟨h.1,zmc hn' h.2⟩
  | «mut» =>exact⟨zx.full (zfa t) h.1,zmc hn' h.2⟩
  |ptr=>
   refine⟨?_,zmc hn' h.2⟩;unfold ptrs at hn;rw[List.any_cons,yz2] at hn;have hns:noSl t=true:=by simpa using hn.1
   obtain⟨b,cs,bs0,h1,h2,h3,h4⟩:=h.1;have hb:=h3.zax (q9m t);subst hb;exact⟨b,cs,[],h1,h2,h3.plain hns,h4⟩
def zrb (w0:World)(Pr0 M:Nat->Prop)(P:Program)(E:Env)(V:List Value)(w:World)(a:Act)(o:Oper)(z:SU):Prop:=
 ∀Q:Exit->Act->World->Prop,o.wp P a w (λa' w'=>∃v,a'=a.put o.dst v/\(appU E z.2).length=E.length/\Hand w0 Pr0 M (appU E z.2) V w' z.1 v) Q
theorem jk.does {o:Oper}{z:SU}(h:jk w0 Pr0 M P E V w a o z):zrb w0 Pr0 M P E V w a o z:=by
 obtain⟨r,w',v,h1,h2,h3,h4⟩:=h;intro Q;unfold Oper.wp;rw[h1];rcases h2 with rfl|⟨rfl,rfl⟩
 ·exact⟨v,rfl,h3,h4⟩
 ·exact⟨undef,rfl,h3,h4⟩
def zk3 (P:Program)(cx:Cx):Prop:=∀k ct,lookup cx.cts k=some ct->FnOk cx.gl P k ct
def GlOk (g:Glob)(w0:World)(Pr0 M:Nat->Prop):Prop:=g.ok w0/\∀b,g.dom b->Pr0 b/\b<w0.heap.size/\¬M b
theorem zba.flat:∀{l:List Nat} {ps:List (Mode×Ty)} {vs:List Value} {ys:List SV} {bs:List Bk} {bss:List (List Nat)},zba w Pr E V l ps vs ys bs bss->bss.flatten=l
 |l,[],[],[],[],bss,h=>by obtain⟨rfl,h⟩:=h;exact h.symm
 |l,(m,t)::ps,v::vs,y::ys,b::bs,bss,h=>by
  have key:∀{l:List (Mode×Ty)},(l.map (λ_=>([]:List Nat))).flatten=[]:=by intro l;induction l<;>simp_all
  cases m with
  |bor=>obtain⟨bss',rfl,h⟩:=h;simpa using h.flat
  |own=>
   rcases h with⟨_,_,_,_,rfl,_⟩|⟨_,l1,l2,bss',rfl,rfl,_,h⟩
   ·simp[key]
   ·simp[h.flat]
  | «mut» =>
    rcases h with⟨_,_,_,_,rfl,_⟩|⟨hm,_⟩
    ·simp[key]
    ·cases hm
  |ptr=>
   rcases h with⟨_,_,_,_,rfl,_⟩|⟨hm,_⟩
   ·simp[key]
   ·cases hm
 |_,[],_::_,_,_,_,h=>by simp[zba] at h
 |_,[],[],_::_,_,_,h=>by simp[zba] at h
 |_,[],[],[],_::_,_,h=>by simp[zba] at h
 |_,(m,t)::ps,[],ys,bs,bss,h=>by cases m<;>cases ys<;>cases bs<;>simp[zba] at h
 |_,(m,t)::ps,_::_,[],bs,bss,h=>by cases m<;>cases bs<;>simp[zba] at h
 |_,(m,t)::ps,_::_,_::_,[],bss,h=>by cases m<;>simp[zba] at h
theorem qbz:∀{rs:List (Ty×Ow)} {x:PVs (rs.map (·.1))},(rs.all λq=> !q.1.isUnit)=true->∀y∈zbe rs x,y.t≠.unit
 |[],_,_,y,hy=>by simp[zbe] at hy
 |(t,o)::rs,x,h,y,hy=>by
  rw[List.all_cons,yh0] at h;simp only[zbe,yg1] at hy;rcases hy with rfl|hy
  ·intro e;simp only at e;subst e;exact absurd h.1 (by simp[Ty.isUnit])
  ·exact qbz h.2 y hy
theorem z7o {k:FuncId}{fn:Func}(hfn:P.funcs[k]? =some fn)(hb:fn.body.isNone=false)(hn:(fn.name== "runtime.NumGoroutine")=false)(xs:Array Value)(w:World):
 (callFunc k xs).run P w=.ok (.enter k xs) w:=by
 unfold callFunc;show((match P.funcs[k]? with|none=>_|some fn=>_:Sem Next)).run P w=_;rw[hfn];simp only[hb,hn,Bool.false_eq_true,if_false];rfl
theorem q7f {R:Type}{K:SU->Option R}{r:R}(hcts:zk3 P cx)(hgl:GlOk cx.gl w0 Pr0 M){o:Oper}{c:Call}(hop:o.op=.call c)(h:StB w0 Pr0 M E V w Pr B)(hN:∀k,E.length<=k->B k=[])(hf:Fr off V a)
 (hs:zfi cx E off c K=some r):∃z,K z=some r/\zrb w0 Pr0 M P E V w a o z:=by
 unfold zfi at hs;split at hs
 case h_2=>cases hs
 rename_i fo hfo;split at hs
 case h_2=>cases hs
 rename_i k hfk;split at hs
 case h_2=>cases hs
 rename_i ct hct;split at hs
 case h_2=>cases hs
 rename_i vs us bs hhand;split at hs
 case h_2=>cases hs
 rename_i xs hlook;rw[yo2] at hs;obtain⟨rr,hF,hs⟩:=hs;split at hs
 case h_2=>cases hs
 rename_i us' hbring;refine⟨_,hs,?_⟩;obtain⟨B1,bss,g1,g2,g3,g4,-,g5⟩:=zt7 hf h (ym0 _) hN hhand;have hargs:=zt8 g1 hf g3 hlook;generalize hstr:(ziz ct.rets||ptrs ct.pars)=strict at hlook hargs
 have hPrC:∀b,PrC strict (appU E us) Pr B1 b->b<w.heap.size:=by
  rintro b (hb|⟨_,k,_,hb⟩)
  ·exact g1.prlt b hb
  ·exact(g1.free k b hb).2.2
 have hbss:∀b∈bss.flatten,¬PrC strict (appU E us) Pr B1 b/\b<w.heap.size:=by
  intro b hb;rw[g5] at hb;refine⟨?_,(g1.free _ b hb).2.2⟩;rintro(hb'|⟨_,k,hk,hb'⟩)
  ·exact(g1.free _ b hb).2.1 hb'
  ·exact g1.disj k E.length (by omega) b hb' hb
 obtain⟨hunit,hcts⟩:=hcts k ct hct;obtain⟨⟨fn,hfn,hbody,hname⟩,hcall⟩:=hcts w (PrC strict (appU E us) Pr B1) _ xs bss rr hPrC hargs (by rw[g5];exact g1.nodup _) hbss (cx.gl.stable w0 w hgl.1 λb hb=>h.frame b (hgl.2 b hb).2.1 (hgl.2 b hb).2.2) (λb hb=>.inl (g1.pr0 b (hgl.2 b hb).1)) hF;intro Q
 have hval:a.eval fo=.func (.func k) #[] #[]:=by
  have ho:=qx h hf fo;have:=zd2 h ho (N:=E.length) (hN _ (ym0 _));unfold alias at this;rw[hfk] at this;cases hix:(opd E off fo).ix with
  |none=>unfold jv at ho;rw[hix,hfk] at ho;exact ho.2
  |some j=>
   have:=zcy h ho hix;rw[hfk] at this;obtain⟨vs,h1,h2⟩:=this;cases vs with
   |nil=>exact h1
   |cons=>exact h2.elim
 have hexec:(execOp a.eval o).run P w=.ok (.enter k ((c.args.map a.eval))) w:=by
  have hbn:fn.body.isNone=false:=by cases hb:fn.body<;>simp_all
  simp only[execOp,hop,resolve,hfo,hval,Deferred.ofValue];show(callFunc k (#[]++c.args.map a.eval++#[])).run P w=_;simp only[Array.empty_append,Array.append_empty];exact z7o hfn hbn hname _ _
 unfold Oper.wp;rw[hexec];show Calls P k _ w _;have hva:(c.args.map a.eval)=(c.args.toList.map a.eval).toArray:=by rw[<-Array.toList_map]
 rw[hva];refine Calls.mono hcall ?_;rintro e w' ⟨rv,Pr',bv,bms,rfl,k1,k2,k3,k4,k5,k6,k7,k8,k9,k10,k11⟩;have hnd:=yf1.1 k3;have hmem:∀b,b∈bss.flatten↔b∈B1 E.length:=λb=>by rw[g5]
 obtain⟨Pr2,p1,p2,p3,p4,p5⟩:∃Pr2:Nat->Prop,(∀b,Pr b->Pr2 b)/\(∀b,Pr2 b->Pr' b)/\(∀b,Pr2 b->Pr b\/(b∈B1 E.length\/w.heap.size<=b)/\b<w'.heap.size)/\zat w' Pr2 (zbe ct.rets rr.1) rv bv/\zao w' Pr2 ct.pars _ rr.2 bms:=by
  cases strict with
  |true=>
   refine⟨Pr',λb hb=>k5 b (.inl hb),λ_ h=>h,λb hb=> ?_,k1,k2⟩;rcases k6 b hb with(hb'|⟨hc,_⟩)|⟨hb',hlt⟩
   ·exact .inl hb'
   ·cases hc
   ·exact .inr ⟨by rw[<-hmem];exact hb',hlt⟩
  |false=>exact⟨Pr,λ_ h=>h,λb hb=>k5 b (.inl hb),λb hb=>.inl hb,qby (yz2.1 hstr).1 k1,zmc (yz2.1 hstr).2 k2⟩
 have hB2:∀k,E.length<=k->∀b∈(if k=E.length then bv else if k=E.length+1 then bms.flatten else B1 k),b∈bv++bms.flatten:=by
  intro k hk b hb;split at hb
  ·exact yv0 _ hb
  ·split at hb
   ·exact yq0 _ hb
   ·rw[g4 k (by omega)] at hb;cases hb
 have h2:StB w0 Pr0 M (appU E us) V w' Pr2 (λk=>if k=E.length then bv else if k=E.length+1 then bms.flatten else B1 k):=by
  refine g1.hand (λk hk=> ?_) (λk hk b hb=> ?_) p1 (λb hb=> ?_) (λk hk=> ?_) (λj k hj hk hne b hb hbk=> ?_) (λb hb hnb=> ?_) k7 k8 k9 k10
  ·rw[g2] at hk
   rw[yw0 (by omega),yw0 (by omega)]
  ·rw[g2] at hk
   have:=k4 b (hB2 k hk b hb);rw[hmem] at this;exact⟨this.1.imp (λq=>⟨E.length,by omega,q⟩) id,this.2.2⟩
  ·rcases p3 b hb with q|⟨q1,q2⟩
   ·exact .inl q
   ·refine .inr ⟨q1.imp (λq=>⟨E.length,by omega,q⟩) id,q2,λk hk hbk=> ?_⟩
    rw[g2] at hk;exact(k4 b (hB2 k hk b hbk)).2.1 (p2 b hb)
  ·rw[g2] at hk
   split
   ·exact hnd.1
   ·split
    ·exact hnd.2.1
    ·rw[g4 k (by omega)];exact List.nodup_nil
  ·rw[g2] at hj hk
   by_cases e1:j=E.length
   ·by_cases e2:k=E.length
    ·omega
    ·simp only[e1,if_true] at hb
     by_cases e3:k=E.length+1
     ·have e4:¬(E.length+1=E.length):=by omega
      simp only[e3,if_true,e4,if_false] at hbk;exact hnd.2.2 b hb b hbk rfl
     ·simp only[e2,e3,if_false] at hbk;rw[g4 k (by omega)] at hbk;cases hbk
   ·by_cases e3:j=E.length+1
    ·have e4:¬(E.length+1=E.length):=by omega
     simp only[e3,if_true,e4,if_false] at hb;by_cases e2:k=E.length
     ·simp only[e2,if_true] at hbk;exact hnd.2.2 b hbk b hb rfl
     ·have e5:¬(k=E.length+1):=by omega
      simp only[e2,e5,if_false] at hbk;rw[g4 k (by omega)] at hbk;cases hbk
    ·simp only[e1,e3,if_false] at hb;rw[g4 j (by omega)] at hb;cases hb
  ·refine k11 b hb λq=> ?_
   rw[hmem] at q;exact hnb _ (by omega) q
 have hmove:∀m t v b,BkOk w Pr (appU E us) V B1 m t v b->BkOk w' Pr2 (appU E us) V (λk=>if k=E.length then bv else if k=E.length+1 then bms.flatten else B1 k) m t v b:=by
  intro m t v b hb;have:=BkOk.move (w':=w') (Pr':=Pr2) g1 hb (λk hk b hb=>k11 b (g1.free k b hb).2.2 (λq=>by rw[hmem] at q;exact g1.disj k E.length (by omega) b hb q));cases m<;>cases b<;>exact this
 obtain⟨B3,q1,q2,q3,q4⟩:=zvl h2 (N:=E.length+1) (by omega) hmove g3 p5 hbring (by
  have e4:¬(E.length+1=E.length):=by omega
  show _=(if E.length+1=E.length then bv else if E.length+1=E.length+1 then bms.flatten else B1 (E.length+1));rw[yw0 e4,yx0 rfl])
 have hu:appU E (us++us')=appU (appU E us) us':=ze3 ..;refine⟨_,rfl,by simp only[hu];omega,Pr2,B3,?_,?_,?_⟩
 ·simp only[hu];exact q1
 ·have hlen:(appU E (us++us')).length=E.length:=by rw[hu];omega
  show jd _ _ _ _ _ (appU E (us++us')).length _ _;rw[hlen];refine q5b ?_ ?_
  ·rw[q3 E.length (by omega) (by omega),yx0 rfl];exact p4
  ·exact qbz hunit
 ·intro k hk
  have hlen:(appU E (us++us')).length=E.length:=by rw[hu];omega
  simp only at hk;rw[hlen] at hk;by_cases e:k=E.length+1
  ·rw[e,q4]
  ·rw[q3 k (by omega) e]
   have e2:¬(k=E.length):=by omega
   simp only[e,e2,if_false];exact g4 k (by omega)
end
end Go.Dn
end

section
/- An operation looks at no more than what its operands name. -/
namespace Go.Dn
def za1:Slot->List Nat
 | .sub a=>[a.j]
 | .addr a=>[a.j]
 | .view a _ _=>[a.j]
 | .fn _ caps=>caps.map (·.j)
 |_=>[]
def Loc (E E2:Env)(k:Nat):Prop:=E.at k=E2.at k/\∀j∈za1 (E.at k).s,E.at j=E2.at j
def LocX (E E2:Env)(off:Nat):Operand->Prop
 | .tmp t=>Loc E E2 (off+t)
 |_=>True
def DLoc (E E2:Env)(d:Opd):Prop:=(∀j∈za1 d.s,E.at j=E2.at j)/\∀k,d.ix=some k->E.at k=E2.at k
section
variable {E E2 : Env} {off : Nat} {cx : Cx}
theorem zaf {x:Operand}(h:LocX E E2 off x):opd E2 off x=opd E off x/\DLoc E E2 (opd E off x):=by
 cases x with
 |tmp t=>
  obtain⟨h1,h2⟩:=h;exact⟨by simp only[opd,h1],h2,λk hk=>by cases hk;exact h1⟩
 |const v=>exact⟨rfl,by cases v<;>simp[opd,zni,za1],λk hk=>by cases hk⟩
 |func f=>exact⟨rfl,by simp[opd,za1],λk hk=>by cases hk⟩
 |global g=>exact⟨rfl,by simp[opd,za1],λk hk=>by cases hk⟩
theorem zgq {x:Operand}{t:TypeId}(h:LocX E E2 off x):opdT cx E2 off t x=opdT cx E off t x/\DLoc E E2 (opdT cx E off t x):=by
 unfold opdT;split
 ·split
  ·exact⟨rfl,by simp[za1],λk hk=>by cases hk⟩
  ·exact⟨rfl,by simp[za1],λk hk=>by cases hk⟩
 ·exact zaf h
theorem zwy {x:Operand}{t:Ty}(h:LocX E E2 off x):opdY E2 off t x=opdY E off t x/\DLoc E E2 (opdY E off t x):=by
 unfold opdY;split
 ·split
  ·exact⟨rfl,by simp[za1],λk hk=>by cases hk⟩
  ·exact⟨rfl,by simp[za1],λk hk=>by cases hk⟩
 ·exact zaf h
theorem zxe {a:Al}(h:E.at a.j=E2.at a.j):a.okS E2=a.okS E:=by simp only[Al.okS,h]
theorem qfm {a:Al}(h:E.at a.j=E2.at a.j):a.okA E2=a.okA E:=by simp only[Al.okA,h]
theorem jau {a:Al}(h:E.at a.j=E2.at a.j):a.okC E2=a.okC E:=by simp only[Al.okC,h]
theorem rd_r {d:Opd}(h:DLoc E E2 d):rd E2 d.s=rd E d.s:=by
 obtain⟨h,_⟩:=h;cases hs:d.s<;>rw[hs] at h<;>simp only[rd]
 ·rename_i a
  have:=h a.j (by simp[za1]);simp only[zxe this,this]
 ·rename_i a t x
  have:=h a.j (by simp[za1]);simp only[jau this,this]
theorem zgr {d:Opd}(h:DLoc E E2 d):take E2 d=take E d:=by
 obtain⟨h,_⟩:=h;cases hs:d.s<;>rw[hs] at h<;>simp only[take,hs]
 ·rename_i a
  have:=h a.j (by simp[za1]);simp only[zxe this,this]
theorem zqp {d:Opd}(h:DLoc E E2 d):alias E2 d=alias E d:=by
 obtain⟨_,h⟩:=h;cases hs:d.s<;>cases hx:d.ix<;>simp only[alias,hs,hx]
 ·rw[h _ hx]
 ·rw[h _ hx]
theorem zim {d:Opd}(h:DLoc E E2 d):place E2 d=place E d:=by
 obtain⟨h',h⟩:=h;unfold place;cases hs:d.s<;>cases hx:d.ix<;>rw[hs] at h'<;>(try (simp only[];done))<;>(try rfl)
 ·simp only[]
  rw[h _ hx]
 ·rename_i iV _ _ _ _ _
  cases iV
  ·rfl
  ·simp only[]
   rw[h _ hx]
 ·rename_i a
  show(bif a.okA E2 then some a else none)=(bif a.okA E then some a else none);rw[qfm (h' a.j (by simp[za1]))]
 ·rename_i a _
  show(bif a.okA E2 then some a else none)=(bif a.okA E then some a else none);rw[qfm (h' a.j (by simp[za1]))]
theorem zjr {d:Opd}(h:DLoc E E2 d){a:Al}(hp:place E d=some a):E.at a.j=E2.at a.j:=by
 obtain⟨h',h⟩:=h;unfold place at hp;split at hp
 ·rename_i k hs hx
  cases hp;exact h _ hx
 ·rename_i k hs hx
  cases hp;exact h _ hx
 ·rename_i b hs
  cases hok:b.okA E<;>rw[hok] at hp<;>cases hp;rw[hs] at h';exact h' _ (by simp[za1])
 ·cases hp
theorem ztt {d:Opd}(h:DLoc E E2 d){a:Al}(hp:alias E d=.sub a):E.at a.j=E2.at a.j:=by
 obtain⟨h',h⟩:=h;unfold alias at hp;split at hp<;>try (cases hp;done)
 ·rename_i t o x k hs hx
  cases hown:owns t o<;>rw[hown] at hp<;>cases hp;exact h _ hx
 ·rename_i t o x hs hx
  cases hown:owns t o<;>rw[hown] at hp<;>cases hp
 ·rename_i b hs
  cases hp;rw[‹d.s=_›] at h';exact h' _ (by simp[za1])
def U.ix:U->Nat
 | .new k _=>k
 | .cont k _=>k
 | .hol k _=>k
def U.slot:U->Slot
 | .new _ s=>s
 | .cont _ s=>s
 | .hol _ s=>s
theorem at_set (E:Env)(k j:Nat)(e:Ent):Env.at (E.set k e) j=if j=k/\k<E.length then e else E.at j:=by
 unfold Env.at;rw[yg2,yg2,List.getElem?_set];by_cases h:k=j
 ·subst h
  by_cases h2:k<E.length
  ·simp[h2]
  ·simp[h2]
 ·have:¬(j=k):=λe=>h e.symm
  simp[h,this]
theorem U.zm8 (u:U)(E:Env):(u.app E).length=E.length:=by cases u<;>simp[U.app]
theorem zfb:∀(us:List U) (E:Env),(appU E us).length=E.length
 |[],_=>rfl
 |u::us,E=>by rw[appU,zfb us,U.zm8]
theorem U.zwz {u:U}(hl:E.length=E2.length){k:Nat}(h:E.at k=E2.at k):(u.app E).at k=(u.app E2).at k:=by
 cases u<;>simp only[U.app,at_set,hl]<;>split
 all_goals first|exact h|(rename_i hk;rw[<-hk.1,h])
theorem U.q9n {u:U}{k:Nat}(h:k≠u.ix):(u.app E).at k=E.at k:=by
 cases u<;>simp only[U.app,at_set]<;>rw[yw0 (λq=>h q.1)]
theorem qdo:∀{us:List U} {E E2:Env},E.length=E2.length->∀{k:Nat},E.at k=E2.at k->(appU E us).at k=(appU E2 us).at k
 |[],_,_,_,_,h=>h
 |u::us,E,E2,hl,_,h=>qdo (us:=us) (by simp[U.zm8,hl]) (U.zwz hl h)
theorem zwb:∀{us:List U} {E:Env} {k:Nat},(∀u∈us,k≠u.ix)->(appU E us).at k=E.at k
 |[],_,_,_=>rfl
 |u::us,E,k,h=>by
  rw[appU,zwb (us:=us) (λv hv=>h v (yg0 _ hv)),U.q9n (h u (yk0 ..))]
def RF (us:List U):Prop:=∀u∈us,za1 u.slot=[]
theorem RF.nil:RF []:=λ_ h=>by cases h
theorem RF.append {us us':List U}(h:RF us)(h':RF us'):RF (us++us'):=λu hu=>(yu0.1 hu).elim (h u) (h' u)
theorem Loc.app {u:U}(hu:za1 u.slot=[])(hl:E.length=E2.length){k:Nat}(h:Loc E E2 k):Loc (u.app E) (u.app E2) k:=by
 refine⟨U.zwz hl h.1,λj hj=> ?_⟩;by_cases hk:k=u.ix/\u.ix<E.length
 ·have:((u.app E).at k).s=u.slot:=by cases u<;>simp only[U.app,at_set,U.slot]<;>simp only[U.ix] at hk<;>rw[yx0 hk]
  rw[this,hu] at hj;cases hj
 ·have:(u.app E).at k=E.at k:=by cases u<;>simp only[U.app,at_set]<;>simp only[U.ix] at hk<;>rw[yw0 hk]
  rw[this] at hj;exact U.zwz hl (h.2 j hj)
theorem Loc.appU:∀{us:List U} {E E2:Env},RF us->E.length=E2.length->∀{k:Nat},Loc E E2 k->Loc (Dn.appU E us) (Dn.appU E2 us) k
 |[],_,_,_,_,_,h=>h
 |u::us,E,E2,hr,hl,_,h=>Loc.appU (us:=us) (λv hv=>hr v (yg0 _ hv)) (by simp[U.zm8,hl]) (Loc.app (hr u (yk0 ..)) hl h)
theorem LocX.appU {us:List U}(hr:RF us)(hl:E.length=E2.length){x:Operand}(h:LocX E E2 off x):LocX (Dn.appU E us) (Dn.appU E2 us) off x:=by
 cases x with
 |tmp t=>exact Loc.appU hr hl h
 |_=>trivial
theorem zqq {d:Opd}{v:TV}{us:List U}(h:take E d=some (v,us)):RF us:=by
 unfold take at h;intro u hu;split at h
 ·rename_i t o x hs
  cases hown:owns t o<;>rw[hown] at h
  ·cases h;cases hu
  ·cases hx:d.ix<;>rw[hx] at h<;>cases h
   ·cases hu
   ·cases hu with
    |head=>rfl
    |tail _ h=>cases h
 ·rename_i a hs
  cases hok:a.okS E<;>rw[hok] at h
  ·cases h
  ·simp only[yb0] at h
   split at h
   ·rename_i t o x hr
    cases hown:owns (getT a.p t) (getO a.p o)<;>rw[hown] at h
    ·cases h;cases hu
    ·cases hp:isNil a.p<;>rw[hp] at h<;>cases h<;>cases hu with
     |head=>rfl
     |tail _ h=>cases h
   ·rename_i t o x hr
    cases hown:owns (getT a.p t) (getO a.p o)<;>rw[hown] at h
    ·cases h;cases hu
    ·cases h;cases hu with
     |head=>rfl
     |tail _ h=>cases h
   ·cases h
 ·cases h
theorem zut:∀{ps:List (Ty×Operand)} {E E2:Env},E.length=E2.length->(∀q∈ps,LocX E E2 off q.2)->zce off E2 ps=zce off E ps/\∀vs us,zce off E ps=some (vs,us)->RF us
 |[],_,_,_,_=>⟨rfl,λvs us h=>by simp[zce] at h;rw[h.2];exact RF.nil⟩
 |(t,x)::ps,E,E2,hl,h=>by
  have hx:=zwy (t:=t) (h (t,x) (yk0 ..));simp only at hx;have ht:take E2 (opdY E off t x)=take E (opdY E off t x):=zgr hx.2;simp only[zce,hx.1,ht];cases hv:take E (opdY E off t x) with
  |none=>exact⟨rfl,λvs us h=>by simp at h⟩
  |some q=>
   obtain⟨v,us⟩:=q;have hr:=zqq hv;obtain⟨g1,g2⟩:=zut (ps:=ps) (E:=appU E us) (E2:=appU E2 us) (by simp[zfb,hl]) (λq hq=>LocX.appU hr hl (h q (yg0 _ hq)));refine⟨by simp only[g1],λvs us' hh=> ?_⟩;cases hv2:zce off (appU E us) ps with
   |none=>simp[hv2] at hh
   |some q=>
    obtain⟨vs2,us2⟩:=q;simp only[hv2,yn0,ya1] at hh;rw[<-hh.2];exact hr.append (g2 _ _ hv2)
theorem z3z:∀{xs:List Operand},(∀x∈xs,LocX E E2 off x)->placesOf E2 off xs=placesOf E off xs
 |[],_=>rfl
 |x::xs,h=>by
  have hx:=zaf (h x (yk0 ..));simp only[placesOf,hx.1,zim hx.2,z3z λy hy=>h y (yg0 _ hy)]
theorem z9v {d:Int}:∀{y:Option Operand},(∀x,y=some x->LocX E E2 off x)->bound E2 off d y=bound E off d y
 |none,_=>rfl
 |some y,h=>by
  have hx:=zaf (h y rfl);simp only[bound,hx.1,rd_r hx.2]
theorem q7g {a:Al}(h:E.at a.j=E2.at a.j):znr E2 a=znr E a:=by simp only[znr,h]
theorem q9o {a:Al}(h:E.at a.j=E2.at a.j):look E2 a=look E a:=by simp only[look,h]
theorem qb3 {a:Al}(h:E.at a.j=E2.at a.j):zkw E2 a=zkw E a:=by simp only[zkw,h]
def LocO (E E2:Env)(off:Nat)(o:Op):Prop:=
 match o with
 | .move (.tmp t)=>E.at (off+t)=E2.at (off+t)
 | .move _=>True
 |o=>∀x∈o.operands.toList,LocX E E2 off x
theorem zt9 {E E2:Env}(s:Slot):alias E2 ⟨none,s⟩=alias E ⟨none,s⟩:=by cases s<;>rfl
variable {R : Type} {K : SU → Option R}
theorem z9w {o:Oper}(hl:E.length=E2.length)(h:LocO E E2 off o.op):zc3 cx E2 off o K=zc3 cx E off o K:=by
 unfold zc3;unfold LocO at h;cases hop:o.op<;>rw[hop] at h<;>(try rfl)<;>(try simp only[])
 case move x=>
  cases x with
  |tmp t=>
   have h':E.at (off+t)=E2.at (off+t):=h;have e:opd E2 off (.tmp t)=opd E off (.tmp t):=by simp only[opd,h']
   have a:alias E2 (opd E off (.tmp t))=alias E (opd E off (.tmp t)):=by
    unfold opd alias;simp only;rw[h'];cases(E2.at (off+t)).s<;>(first|rfl|(simp only[h']))
   rw[e];split
   ·rfl
   ·rw[a]
  |const v=>
   have a:alias E2 (opd E off (.const v))=alias E (opd E off (.const v)):=zt9 _;rw[show opd E2 off (.const v)=opd E off (.const v) from rfl];split
   ·rfl
   ·rw[a]
  |func v=>
   have a:alias E2 (opd E off (.func v))=alias E (opd E off (.func v)):=zt9 _;rw[show opd E2 off (.func v)=opd E off (.func v) from rfl];split
   ·rfl
   ·rw[a]
  |global v=>
   have a:alias E2 (opd E off (.global v))=alias E (opd E off (.global v)):=zt9 _;rw[show opd E2 off (.global v)=opd E off (.global v) from rfl];split
   ·rfl
   ·rw[a]
 case assign x=>
  have hx:=zaf (h x (by simp[Op.operands]));have hT:=zgq (cx:=cx) (t:=o.type) (h x (by simp[Op.operands]));rw[hx.1,zqp hx.2,hT.1,zgr hT.2]
 case pick c x y=>
  have h1:=zaf (h c (by simp[Op.operands]));have h2:=zaf (h x (by simp[Op.operands]));have h3:=zaf (h y (by simp[Op.operands]));rw[h1.1,h2.1,h3.1,rd_r h1.2,rd_r h2.2,rd_r h3.2]
 case box t x=>
  have hT:=zgq (cx:=cx) (t:=t) (h x (by simp[Op.operands]));rw[hT.1,zgr hT.2]
 case build t ps=>
  cases lookup cx.tab t with
  |none=>rfl
  |some t=>
   have:=zut (off:=off) (ps:=ps.toList.map λq=>(getT (qc q.1) t,q.2)) hl (λq hq=>by
    simp only[List.mem_map] at hq;obtain⟨p,hp,rfl⟩:=hq;exact h _ (by simp only[Op.operands];exact List.mem_map.2 ⟨p,hp,rfl⟩))
   simp only[this.1]
 case buildSlice t n ps=>
  cases hlk:lookup cx.tab t with
  |none=>rfl
  |some T=>
   cases T<;>simp only;rename_i e t'
   have:=zut (off:=off) (ps:=ps.toList.map λq=>(t',q.2)) hl (λq hq=>by
    simp only[List.mem_map] at hq;obtain⟨p,hp,rfl⟩:=hq;exact h _ (by simp only[Op.operands];exact List.mem_map.2 ⟨p,hp,rfl⟩))
   simp only[this.1]
 case load t x=>
  have hx:=zaf (h x (by simp[Op.operands]));rw[hx.1,zim hx.2];cases hp:place E (opd E off x) with
  |none=>rfl
  |some a=>
   have:=zjr hx.2 hp;simp only[q9o this,q7g this,this]
 case store t x y=>
  have hT:=zgq (cx:=cx) (t:=t) (h y (by simp[Op.operands]));rw[hT.1,zgr hT.2];cases lookup cx.tab t with
  |none=>rfl
  |some T=>
   cases hv:take E (opdT cx E off t y) with
   |none=>rfl
   |some q=>
    obtain⟨v,us⟩:=q;have hr:=zqq hv;have hx:=zaf (LocX.appU hr hl (h x (by simp[Op.operands])));simp only[hx.1,zim hx.2];cases hp:place (appU E us) (opd (appU E us) off x) with
    |none=>rfl
    |some a=>
     have:=zjr hx.2 hp;simp only[this]
 case nilCheck x=>
  have hx:=zaf (h x (by simp[Op.operands]));rw[hx.1,zim hx.2];cases hp:place E (opd E off x) with
  |none=>rfl
  |some a=>
   have:=zjr hx.2 hp;simp only[this]
 case fieldAddr t x f=>
  have hx:=zaf (h x (by simp[Op.operands]));rw[hx.1,zim hx.2];cases hp:place E (opd E off x) with
  |none=>rfl
  |some a=>
   have:=zjr hx.2 hp;simp only[this]
 case indexAddr t x i=>
  have hx:=zaf (h x (by simp[Op.operands]));have hi:=zaf (h i (by simp[Op.operands]));rw[hx.1,hi.1,rd_r hi.2,rd_r hx.2,zim hx.2,zqp hx.2];have h1:∀a,place E (opd E off x)=some a->E2.at a.j=E.at a.j:=λa hp=>(zjr hx.2 hp).symm;have h2:∀a,alias E (opd E off x)=.sub a->E2.at a.j=E.at a.j:=λa hp=>(ztt hx.2 hp).symm;cases hp:place E (opd E off x) with
  |none=>
   cases ha:alias E (opd E off x) with
   |sub b=>simp only[Al.okS,Al.okC,qb3 (h2 b ha).symm,h2 b ha]
   |_=>rfl
  |some a=>
   cases ha:alias E (opd E off x) with
   |sub b=>simp only[Al.okS,Al.okC,qb3 (h2 b ha).symm,h2 b ha,h1 a hp]
   |_=>simp only[h1 a hp]
 case index t x i=>
  have hx:=zaf (h x (by simp[Op.operands]));have hi:=zaf (h i (by simp[Op.operands]));rw[hx.1,hi.1,rd_r hi.2,rd_r hx.2]
 case binOp op t x y s=>
  have hx:=zgq (cx:=cx) (t:=t) (h x (by simp[Op.operands]));have hy:=zgq (cx:=cx) (t:=t) (h y (by simp[Op.operands]));rw[hx.1,hy.1,rd_r hx.2,rd_r hy.2]
 case unOp op t x=>
  have hx:=zaf (h x (by simp[Op.operands]));rw[hx.1,rd_r hx.2]
 case convert s d x=>
  have hx:=zaf (h x (by simp[Op.operands]));rw[hx.1,rd_r hx.2]
 case makeFunc fn first captured=>
  cases fn<;>try rfl
  simp only;rw[z3z (off:=off) (xs:=captured.toList) λx hx=>h x (by simp[Op.operands];exact .inr (by simpa using hx))]
 case makeSlice t l c=>
  have hx:=zaf (h l (by simp[Op.operands]));have hy:=zaf (h c (by simp[Op.operands]));rw[hx.1,hy.1,rd_r hx.2,rd_r hy.2]
 case slice t x lo hi mx=>
  cases mx with
  |some m=>rfl
  |none=>
   have hx:=zaf (h x (by simp[Op.operands]));have hb1:∀d,bound E2 off d lo=bound E off d lo:=λd=>z9v λy hy=>h y (by simp[Op.operands,hy]);have hb2:∀d,bound E2 off d hi=bound E off d hi:=λd=>z9v λy hy=>h y (by simp[Op.operands,hy]);simp only[hx.1,rd_r hx.2,zqp hx.2,zgr hx.2,hb1,hb2];have h1:∀a,alias E (opd E off x)=.sub a->E2.at a.j=E.at a.j:=λa hp=>(ztt hx.2 hp).symm;cases ha:alias E (opd E off x)<;>simp only;simp only[h1 _ ha]
 case extract x i=>
  have hx:=zaf (h x (by simp[Op.operands]));rw[hx.1]
 case call c=>
  have hargs:∀x∈c.args.toList,LocX E E2 off x:=λx hx=>h x (by
   simp only[Op.operands,Call.operands,Array.toList_append,yu0];exact .inr hx)
  split
  ·rename_i x hc hx
   rw[hx] at hargs;split
   ·rename_i tid _
    have hx:=zgq (cx:=cx) (t:=tid) (hargs x (by simp));rw[hx.1,rd_r hx.2]
   ·rfl
  ·rename_i x y hc hx
   rw[hx] at hargs;have hx:=zaf (hargs x (by simp));have hy:=zaf (hargs y (by simp));rw[hx.1,hy.1,rd_r hx.2,rd_r hy.2]
  ·rename_i x y hc hx
   rw[hx] at hargs;have hx:=zaf (hargs x (by simp));have hy:=zaf (hargs y (by simp));rw[hx.1,hy.1,rd_r hx.2,rd_r hy.2]
  ·rename_i x y hc hx
   rw[hx] at hargs;have hT:=zgq (cx:=cx) (t:=c.argTypes.getD 0 0) (hargs x (by simp));rw[hT.1,zgr hT.2];cases hv:take E (opdT cx E off (c.argTypes.getD 0 0) x) with
   |none=>
    cases hlk:lookup cx.tab (c.argTypes.getD 0 0) with
    |none=>rfl
    |some T=>cases T<;>rfl
   |some q=>
    obtain⟨v,us⟩:=q;have hr:=zqq hv;have hy:=zgq (cx:=cx) (t:=c.argTypes.getD 0 0) (LocX.appU hr hl (hargs y (by simp)));cases hlk:lookup cx.tab (c.argTypes.getD 0 0) with
    |none=>rfl
    |some T=>
     cases T<;>try rfl
     obtain⟨tv,ov,xv⟩:=v;cases tv<;>try rfl
     cases ov<;>try rfl
     simp only[hy.1,rd_r hy.2,zgr hy.2]
  ·rfl
theorem qtm {m:Mode}{t:Ty}{x:Operand}(h:LocX E E2 off x):handOver E2 off m t x=handOver E off m t x/\∀y us b,handOver E off m t x=some (y,us,b)->RF us:=by
 have hx:=zaf h;have hy:=zwy (t:=t) h;cases m with
 |bor=>exact⟨rfl,λ_ _ _ hh=>by cases hh⟩
 |own=>
  simp only[handOver];rw[hy.1,zgr hy.2];refine⟨rfl,λz us b hh=> ?_⟩;cases hv:take E (opdY E off t x) with
  |none=>simp[hv] at hh
  |some q=>
   obtain⟨v,us'⟩:=q;simp only[hv] at hh;split at hh
   ·cases hf:full v.t v.o<;>rw[hf] at hh<;>cases hh
    exact zqq hv
   ·cases hh
 | «mut» =>
   simp only[handOver];rw[hx.1,zqp hx.2];cases ha:alias E (opd E off x)<;>simp only
   case sub a=>
    have:=ztt hx.2 ha;simp only[zxe this,this];refine⟨trivial,λz us b hh=> ?_⟩;cases hok:a.okS E<;>rw[hok] at hh
    ·cases hh
    ·simp only[yb0] at hh
     split at hh
     ·split at hh
      ·rename_i t' o z' hr _ _ hc
       cases hf:full (getT a.p t') (getO a.p o)<;>rw[hf] at hh
       ·cases hh
       ·cases hp:isNil a.p<;>rw[hp] at hh<;>cases hh<;>intro u hu<;>cases hu with
        |head=>rfl
        |tail _ h=>cases h
      ·cases hh
     ·split at hh
      ·rename_i t' o z' hr _ _ hc
       cases hf:full (getT a.p t') (getO a.p o)<;>rw[hf] at hh<;>cases hh;intro u hu;cases hu with
       |head=>rfl
       |tail _ h=>cases h
      ·cases hh
     ·cases hh
   all_goals exact⟨trivial,λ_ _ _ hh=>by cases hh⟩
 |ptr=>
  simp only[handOver];rw[hx.1,zim hx.2];cases ha:place E (opd E off x) with
  |none=>exact⟨rfl,λ_ _ _ hh=>by cases hh⟩
  |some a=>
   have:=zjr hx.2 ha;simp only[this];refine⟨trivial,λz us b hh=> ?_⟩;split at hh
   ·split at hh
    ·rename_i t' o z' hr _ y hc
     cases hf: !owns t' o&&isNil a.p<;>rw[hf] at hh<;>cases hh;intro u hu;cases hu with
     |head=>rfl
     |tail _ h=>cases h
    ·cases hh
   ·cases hh
theorem ztu:∀{ps:List (Mode×Ty)} {xs:List Operand} {E E2:Env},E.length=E2.length->(∀x∈xs,LocX E E2 off x)->za9 E2 off ps xs=za9 E off ps xs/\∀vs us bs,za9 E off ps xs=some (vs,us,bs)->RF us
 |[],[],_,_,_,_=>⟨rfl,λ_ _ _ hh=>by simp only[za9,yn0,ya1] at hh;rw[<-hh.2.1];exact RF.nil⟩
 |[],_::_,_,_,_,_=>⟨rfl,λ_ _ _ hh=>by simp[za9] at hh⟩
 |_::_,[],_,_,_,_=>⟨rfl,λ_ _ _ hh=>by simp[za9] at hh⟩
 |(m,t)::ps,x::xs,E,E2,hl,h=>by
  have ho:=qtm (m:=m) (t:=t) (h x (yk0 ..));cases m with
  |bor=>
   have ih:=ztu (ps:=ps) (xs:=xs) hl λy hy=>h y (yg0 _ hy);simp only[za9,ih.1];refine⟨trivial,λvs us bs hh=> ?_⟩;cases hr:za9 E off ps xs with
   |none=>simp[hr] at hh
   |some q=>
    obtain⟨v,u,b⟩:=q;simp only[hr,yn0,ya1] at hh;rw[<-hh.2.1];exact ih.2 _ _ _ hr
  |own=>
   simp only[za9,ho.1];cases hc:ps.all zfh&&(ps.length==xs.length) with
   |true=>
    refine⟨rfl,λvs us bs hh=> ?_⟩;simp only[yb0] at hh;split at hh
    ·rename_i y u b hv
     simp only[yn0,ya1] at hh;rw[<-hh.2.1];exact ho.2 _ _ _ hv
    ·cases hh
   |false=>
    simp only[yd0];cases hv:handOver E off .own t x with
    |none=>exact⟨rfl,λ_ _ _ hh=>by cases hh⟩
    |some q=>
     obtain⟨y,us1,b1⟩:=q;have hrf:=ho.2 _ _ _ hv;have ih:=ztu (ps:=ps) (xs:=xs) (E:=appU E us1) (E2:=appU E2 us1) (by rw[zfb,zfb,hl]) λy hy=>LocX.appU hrf hl (h y (yg0 _ hy));simp only[ih.1];refine⟨trivial,λvs us bs hh=> ?_⟩;cases hr:za9 (appU E us1) off ps xs with
     |none=>simp[hr] at hh
     |some q=>
      obtain⟨v,u,b⟩:=q;simp only[hr,yn0,ya1] at hh;rw[<-hh.2.1];exact hrf.append (ih.2 _ _ _ hr)
  |_=>
   simp only[za9,ho.1];refine⟨trivial,λvs us bs hh=> ?_⟩;cases hc:ps.all zfh&&(ps.length==xs.length) with
   |true=>
    rw[hc] at hh;simp only[yb0] at hh;split at hh
    ·rename_i y u b hv
     simp only[yn0,ya1] at hh;rw[<-hh.2.1];exact ho.2 _ _ _ hv
    ·cases hh
   |false=>rw[hc] at hh;cases hh
theorem z5w {st:Bool}:∀{ps:List (Mode×Ty)} {xs:List Operand} {vs:List SV},(∀x∈xs,LocX E E2 off x)->zbm st E2 off ps xs vs=zbm st E off ps xs vs
 |[],[],[],_=>rfl
 |[],[],_::_,_=>rfl
 |[],_::_,_,_=>rfl
 |_::_,[],_,_=>rfl
 |_::_,_::_,[],_=>rfl
 |(m,t)::ps,x::xs,v::vs,h=>by
  have hy:=zwy (t:=t) (h x (yk0 ..));have ih:=z5w (st:=st) (ps:=ps) (xs:=xs) (vs:=vs) λy hy=>h y (yg0 _ hy)
  have:zkm st E2 off m t x v=zkm st E off m t x v:=by
   cases m<;>simp only[zkm];rw[hy.1,rd_r hy.2]
  simp only[zbm,ih,this]
theorem q2t {c:Call}(hl:E.length=E2.length)(h:∀x∈c.operands.toList,LocX E E2 off x):zfi cx E2 off c K=zfi cx E off c K:=by
 unfold zfi
 have hargs:∀x∈c.args.toList,LocX E E2 off x:=λx hx=>h x (by
  simp only[Call.operands,Array.toList_append,yu0];exact .inr hx)
 split
 ·rename_i fo hfo
  have hf:=zaf (h fo (by simp[Call.operands,hfo]));rw[hf.1];cases(opd E off fo).s<;>try rfl
  rename_i k caps;cases caps<;>try rfl
  cases hlk:lookup cx.cts k with
  |none=>simp only[hlk]
  |some ct=>
   have ha:=ztu (ps:=ct.pars) hl hargs;simp only[hlk,ha.1];cases hv:za9 E off ct.pars c.args.toList with
   |none=>simp only
   |some q=>
    obtain⟨vs,us,bs⟩:=q;simp only;rw[z5w λx hx=>LocX.appU (ha.2 _ _ _ hv) hl (hargs x hx)]
 ·rfl
end
end Go.Dn
end

section
/- What is done with an operation's result is apart from it. -/
namespace Go.Dn
section
variable {E : Env} {off : Nat} {cx : Cx} {R : Type} {K : SU → Option R}
theorem zb9 {α β:Type}(b:Bool)(x y:Option α)(f:α->Option β):(bif b then x else y).bind f=bif b then x.bind f else y.bind f:=by cases b<;>rfl
theorem qw4 {op:BinOp}{k:IntKind}{x y:Int}{K:Slot->Option R}:zit op k x y K=(zit op k x y some).bind K:=by
 cases op<;>simp only[zit,zb9,ya0,Option.bind_none]
theorem qw5 {op:BinOp}{x y:List UInt8}{K:Slot->Option R}:ziu op x y K=(ziu op x y some).bind K:=by
 cases op<;>simp only[ziu,zb9,ya0,Option.bind_none]
theorem z9x {tb:Bool}{op:BinOp}{a b:SV}{K:Slot->Option R}:binK tb op a b K=(binK tb op a b some).bind K:=by
 obtain⟨t,x⟩:=a;obtain⟨t',y⟩:=b;cases t<;>cases t'<;>try rfl
 ·rename_i k k'
  cases op<;>simp only[binK,zb9,ya0,Option.bind_none]<;>(try rw[qw4])
 ·cases tb<;>cases op<;>rfl
 ·exact qw5
theorem qzx {tb:Bool}{op:BinOp}{a b:SV}:(binK tb op a b λs=>K (s,[]))=(binK tb op a b λs=>some (s,[])).bind K:=by
 rw[z9x,z9x (K:=λs=>some (s,[]))];cases binK tb op a b some<;>rfl
theorem z7p {o:Oper}:zc3 cx E off o K=(zc3 cx E off o some).bind K:=by
 unfold zc3;cases o.op<;>(try simp only[])<;>try rfl
 all_goals
  repeat' (first|rfl|(simp only[zb9,ya0,Option.bind_none];done)|(rw[zb9];(congr 1))|exact qzx|split)
theorem z7q {c:Call}:zfi cx E off c K=(zfi cx E off c some).bind K:=by
 unfold zfi;split
 ·split
  ·split
   ·split
    ·split
     ·simp only[Option.bind_assoc]
      congr 1;funext r;split<;>rfl
     ·rfl
    ·rfl
   ·rfl
  ·rfl
 ·rfl
end
end Go.Dn
end

section
/- Cuts: some slots are kept, the others are forgotten, and what is owned may be given up to be only looked at. -/
namespace Go.Dn
def wk1 (k:Nat)(o:Ow)(E:Env):Env:=
 match (E.at k).s with
 | .val t o' x=>E.set k ⟨(E.at k).iv+1,0,bif weaken t o' o then .val t o x else .none⟩
 | .var t o' x=>E.set k ⟨(E.at k).iv+1,0,bif weaken t o' o then .var t o x else .none⟩
 |_=>E
def wkE:List (Nat×Ow)->Env->Env
 |[],E=>E
 |(k,o)::l,E=>wkE l (wk1 k o E)
def jm (keep:List Nat)(E:Env)(k:Nat)(s:Slot):Slot:=
 bif memN keep k then
  match s with
  | .sub a=>bif a.okS E&&memN keep a.j then .sub ⟨a.j,a.p,0,0⟩ else .none
  | .addr a=>bif a.okA E&&memN keep a.j then .addr ⟨a.j,a.p,0,0⟩ else .none
  | .view a t x=>bif (a.okC E&& !(E.at a.j).s.isHole)&&memN keep a.j then .view ⟨a.j,a.p,0,0⟩ t x else .none
  | .fn f aL=>bif aL.all (λa=>a.okA E&&memN keep a.j) then .fn f (aL.map λa=>⟨a.j,a.p,0,0⟩) else .none
  |s=>s
 else .none
def zgv (keep:List Nat)(E:Env):Nat->List Ent->List Ent
 |_,[]=>[]
 |k,e::es=>⟨0,0,jm keep E k e.s⟩::zgv keep E (k+1) es
def za4 (keep:List Nat)(E:Env):Env:=zgv keep E 0 E
def Cut.app (off:Nat)(c:Cut)(E:Env):Env:=za4 ((List.range off).filter (λk=> !memN c.drop k)++c.keep.map (off+·)) (wkE (c.wk.map λq=>(off+q.1,q.2)) E)
def ent (s:Slot):Ent:=⟨0,0,s⟩
section
variable {w0 : World} {Pr0 M : Nat → Prop} {E : Env} {V : List Value} {w : World} {Pr : Nat → Prop} {B : Nat → List Nat}
theorem StB.zro (h:StB w0 Pr0 M E V w Pr B){k:Nat}{s':Slot}{b1 b2:List Nat}{v:Value}(he:E[k]? =some (E.at k))(hv:V[k]? =some v)(hp:(B k).Perm (b1++b2))(hN:∀k,E.length<=k->B k=[])
 (hs:∀E' B',B' k=b1->za1 s'=[]->jd w (λb=>Pr b\/b∈b2) E' V B' k s' v)(hr:za1 s'=[]):
 St w0 Pr0 M (E.set k ⟨(E.at k).iv+1,0,s'⟩) V w:=by
 have hnd:(b1++b2).Nodup:=hp.nodup_iff.1 (h.nodup k);rw[yf1] at hnd;have hk:=(yf2.1 he).1;refine⟨λb=>Pr b\/b∈b2,λj=>if j=k then b1 else B j,?_,λj hj=> ?_⟩
 ·refine h.pool (λj=>j=k) (by simp[h.len]) (by simp) (λj hj=> ?_) (λj e v' hj he' hv'=> ?_) (λj hj b hb=> ?_) (λ_ h=>.inl h) (λb hb=> ?_)
   (λj hj=> ?_) (λi j hi hj hne b hb hbj=> ?_) (λ_ _ _=>rfl) rfl rfl rfl (ym0 _)
  ·exact⟨yj2 (Ne.symm hj),rfl,by simp[hj]⟩
  ·subst hj
   rw[he] at he';rw[hv] at hv';obtain rfl:=yl0 he';obtain rfl:=yl0 hv';refine⟨_,_,yi2 hk,hv,hs _ _ (by simp) hr,.inl (Nat.lt_succ_self _)⟩
  ·subst hj
   simp only[if_true] at hb;have:b∈B j:=hp.mem_iff.2 (yv0 _ hb);exact⟨.inl ⟨j,rfl,this⟩,(h.free _ _ this).2.2⟩
  ·rcases hb with hb|hb
   ·exact .inl hb
   ·have:b∈B k:=hp.mem_iff.2 (yq0 _ hb)
    refine .inr ⟨.inl ⟨k,rfl,this⟩,(h.free _ _ this).2.2,λj hj hbj=> ?_⟩;subst hj;simp only[if_true] at hbj;exact hnd.2.2 b hbj b hb rfl
  ·subst hj;simp only[if_true];exact hnd.1
  ·exact absurd (hi.trans hj.symm) hne
 ·simp only[yc2] at hj
  have:j≠k:=by omega
  simp only[this,if_false];exact hN j hj
theorem St.wk1 {k:Nat}{o:Ow}(h:St w0 Pr0 M E V w):St w0 Pr0 M (Dn.wk1 k o E) V w:=by
 obtain⟨Pr,B,h,hN⟩:=h
 have get:(∀t o' x,(E.at k).s=.val t o' x->E[k]? =some (E.at k))/\(∀t o' x,(E.at k).s=.var t o' x->E[k]? =some (E.at k)):=by
  constructor<;>intro t o' x hs<;>(
   cases he:E[k]? with
   |none=>unfold Env.at at hs;rw[yg2,he] at hs;cases hs
   |some e=>rw[jq he])
 unfold Dn.wk1;split
 ·rename_i t o' x hs
  have he:=get.1 t o' x hs;have hk:=(yf2.1 he).1;have hv:=yt1 (l:=V) (i:=k) (by rw[<-h.len];exact hk);cases hw:weaken t o' o with
  |false=>exact h.zro he hv (b1:=[]) (b2:=B k) (yh1 _) hN (λ_ _ _ _=>trivial) rfl
  |true=>
   have hso:=h.slots k _ _ he hv;rw[hs] at hso;obtain⟨cs,h1,h2⟩:=hso;obtain⟨b1,b2,h3,h4⟩:=h2.weaken hw;refine h.zro he hv h3 hN (λE' B' hb _=> ?_) rfl;show zx _ _ _ _ _ _ _;rw[hb];exact⟨cs,h1,h4⟩
 ·rename_i t o' x hs
  have he:=get.2 t o' x hs;have hk:=(yf2.1 he).1;have hv:=yt1 (l:=V) (i:=k) (by rw[<-h.len];exact hk);cases hw:weaken t o' o with
  |false=>exact h.zro he hv (b1:=[]) (b2:=B k) (yh1 _) hN (λ_ _ _ _=>trivial) rfl
  |true=>
   have hso:=h.slots k _ _ he hv;rw[hs] at hso;obtain⟨b,cs,bs0,h1,h0,h2,h3⟩:=hso;obtain⟨b1,b2,h4,h5⟩:=h2.weaken hw;refine h.zro he hv (b1:=b::b1) (b2:=b2) (h3.trans (by simpa using h4)) hN (λE' B' hb _=> ?_) rfl;show vg _ _ _ _ _ _ _;rw[hb];exact⟨b,cs,b1,h1,h0,h5,yh1 _⟩
 ·exact⟨Pr,B,h,hN⟩
theorem St.wkE:∀{l:List (Nat×Ow)} {E:Env},St w0 Pr0 M E V w->St w0 Pr0 M (Dn.wkE l E) V w
 |[],_,h=>h
 |(_,_)::l,_,h=>St.wkE (l:=l) h.wk1
theorem qae {keep:List Nat}{E:Env}:∀{es:List Ent} {k i:Nat},(zgv keep E k es)[i]? =(es[i]?).map λe=>⟨0,0,jm keep E (k+i) e.s⟩
 |[],_,_=>by simp[zgv]
 |e::es,k,0=>by simp[zgv]
 |e::es,k,i+1=>by
  simp only[zgv,yn2];rw[qae,show k+1+i=k+(i+1) by omega]
theorem qaf {keep:List Nat}{E:Env}{i:Nat}:(za4 keep E)[i]? =(E[i]?).map λe=>⟨0,0,jm keep E i e.s⟩:=by
 unfold za4;rw[qae,Nat.zero_add]
theorem zpw {keep:List Nat}{E:Env}:∀{es:List Ent} {k:Nat},(zgv keep E k es).length=es.length
 |[],_=>rfl
 |e::es,k=>by simp[zgv,zpw]
theorem zuu {keep:List Nat}{j:Nat}(hm:memN keep j=true){s:Slot}(hs:(∃t o x,s=.val t o x)\/(∃t o x,s=.var t o x)\/(∃iV t o x p,s=.hole iV t o x p)):jm keep E j s=s:=by
 unfold jm;rw[hm];rcases hs with⟨t,o,x,rfl⟩|⟨t,o,x,rfl⟩|⟨iV,t,o,x,p,rfl⟩<;>rfl
theorem qtn {s:Slot}{vj v:Value}{q:List PE}(hs:¬((∃t o x,s=.val t o x)\/(∃t o x,s=.var t o x)\/(∃iV t o x p,s=.hole iV t o x p))):zwt w s vj v q:=by
 cases s<;>first|trivial|(exfalso;apply hs;simp)
theorem qw8 {s:Slot}{vj v:Value}{q:List PE}(hs:¬((∃t o x,s=.val t o x)\/(∃t o x,s=.var t o x)\/(∃iV t o x p,s=.hole iV t o x p))):zxb w s vj v q:=by
 cases s<;>first|trivial|(exfalso;apply hs;simp)
theorem ztv {keep:List Nat}{j:Nat}{s:Slot}(hs:¬((∃t o x,s=.val t o x)\/(∃t o x,s=.var t o x)\/(∃iV t o x p,s=.hole iV t o x p))):
 ¬((∃t o x,jm keep E j s=.val t o x)\/(∃t o x,jm keep E j s=.var t o x)\/(∃iV t o x p,jm keep E j s=.hole iV t o x p)):=by
 unfold jm;cases memN keep j
 ·simp
 ·simp only[yb0]
  split
  ·cases h:(‹Al›.okS E&&memN keep ‹Al›.j)<;>simp
  ·cases h:(‹Al›.okA E&&memN keep ‹Al›.j)<;>simp
  ·rename_i a t x;cases h:((a.okC E&& !(E.at a.j).s.isHole)&&memN keep a.j)<;>simp
  ·rename_i aL;cases h:(aL.all λa=>a.okA E&&memN keep a.j)<;>simp
  ·exact hs
theorem zuv {keep:List Nat}{n j:Nat}{e:Ent}(hj:j<n)(he:E[j]? =some e):((za4 keep E).take n)[j]? =some ⟨0,0,jm keep E j e.s⟩:=by
 rw[List.getElem?_take,yx0 hj,qaf,he];rfl
theorem qcc {n j:Nat}{v:Value}(hj:j<n)(hv:V[j]? =some v):(V.take n)[j]? =some v:=by rw[List.getElem?_take,yx0 hj,hv]
theorem qag {keep:List Nat}{n:Nat}(hkn:∀k,memN keep k=true->k<E.length->k<n){a:Al}{v:Value}(h:zbb w E V a v)(hok:a.okA E=true)(hm:memN keep a.j=true):zbb w ((za4 keep E).take n) (V.take n) ⟨a.j,a.p,0,0⟩ v:=by
 obtain⟨e,vj,hl,hv,hk⟩:=h;have he:=jq hl.1;simp only[Al.okA,he,yh0,yy0,yq1] at hok;obtain⟨k1,k2⟩:=hk hok.1;have hjn:=hkn a.j hm (yf2.1 hl.1).1;refine⟨⟨0,0,jm keep E a.j e.s⟩,vj,⟨zuv hjn hl.1,ym0 _,λ_=>ym0 _⟩,qcc hjn hv,λ_=>⟨k1,λhp _=> ?_⟩⟩
 ·have hcv:e.cv=a.cv:=by
   rcases hok.2 with h|h
   ·exact h
   ·exact absurd (zj1.1 h) hp
  have hA:=k2 hp hcv;by_cases hs:(∃t o x,e.s=.val t o x)\/(∃t o x,e.s=.var t o x)\/(∃iV t o x p,e.s=.hole iV t o x p)
  ·simp only;rw[zuu hm hs];exact hA
  ·exact qtn (ztv hs)
theorem qah {keep:List Nat}{n:Nat}(hkn:∀k,memN keep k=true->k<E.length->k<n):∀{aL:List Al} {vs:List Value},(aL.all λa=>a.okA E&&memN keep a.j)=true->AllL (zbb w E V) aL vs->
 AllL (zbb w ((za4 keep E).take n) (V.take n)) (aL.map λa=>⟨a.j,a.p,0,0⟩) vs
 |[],[],_,_=>trivial
 |[],_::_,_,h=>h.elim
 |_::_,[],_,h=>h.elim
 |a::aL,v::vs,hall,h=>by
  simp only[List.all_cons,yh0] at hall;exact⟨qag hkn h.1 hall.1.1 hall.1.2,qah hkn (by simpa using hall.2) h.2⟩
theorem StB.keep (h:StB w0 Pr0 M E V w Pr B){keep:List Nat}{n N:Nat}(hn:n<=E.length)(hN:E.length<=N)(hkn:∀k,memN keep k=true->k<E.length->k<n):
 StB w0 Pr0 M ((za4 keep E).take n) (V.take n) w Pr (λk=>if k<n then(bif memN keep k then B k else[]) else if k=n then B N else[]):=by
 have hlen:(za4 keep E).length=E.length:=zpw
 ·have sub:∀k,∃k',(∀b,b∈(if k<n then(bif memN keep k then B k else[]) else if k=n then B N else[])->b∈B k')/\k'=(if k=n then N else k):=by
   intro k;refine⟨_,λb hb=> ?_,rfl⟩;split at hb
   ·rename_i hk
    rw[yw0 (by omega)];cases hm:memN keep k<;>rw[hm] at hb
    ·cases hb
    ·exact hb
   ·split at hb
    ·rename_i hk;rw[yx0 hk];exact hb
    ·cases hb
  have sub':∀k b,b∈(if k<n then(bif memN keep k then B k else[]) else if k=n then B N else[])->(k<n\/k=n)/\b∈B (if k=n then N else k):=by
   intro k b hb;obtain⟨k',h1,h2⟩:=sub k;refine⟨?_,h2▸h1 b hb⟩;split at hb
   ·rename_i hk;exact .inl hk
   ·split at hb
    ·rename_i hk;exact .inr hk
    ·cases hb
  refine {len:=by simp only[yr1];rw[hlen,h.len],pr0:=h.pr0,prlt:=h.prlt,prnew:=h.prnew,slots:=λk e v he hv=> ?_,nodup:=λk=> ?_,disj:=λj k hne b hb hb'=> ?_,free:=λk b hb=>h.free _ b (sub' k b hb).2,
          os:=h.os,tape:=h.tape,output:=h.output,size:=h.size,frame:=h.frame}
  ·have hkn':k<n:=by
    have:=(yf2.1 he).1;simp only[yr1] at this;omega
   rw[List.getElem?_take,yx0 hkn',qaf,yk2] at he;rw[List.getElem?_take,yx0 hkn'] at hv;obtain⟨e0,he0,rfl⟩:=he;have hso:=h.slots k e0 v he0 hv;simp only;cases hm:memN keep k with
   |false=>
    have:jm keep E k e0.s=.none:=by unfold jm;rw[hm];rfl
    rw[this];trivial
   |true=>
    have hB:(λk=>if k<n then(bif memN keep k then B k else[]) else if k=n then B N else[]) k=B k:=by simp only[hkn',if_true,hm,yb0]
    unfold jm;rw[hm];simp only[yb0];split
    ·rename_i a hs
     rw[hs] at hso;cases hc:(a.okS E&&memN keep a.j) with
     |false=>trivial
     |true=>
      rw[yh0] at hc;obtain⟨e,vj,hl,hvj,hk⟩:=hso;have he:=jq hl.1;have hok:=hc.1;simp only[Al.okS,he,yh0,yy0,yq1] at hok;obtain⟨k1,k2⟩:=hk hok.1;have hjn:=hkn a.j hc.2 (yf2.1 hl.1).1;refine⟨⟨0,0,jm keep E a.j e.s⟩,vj,⟨zuv hjn hl.1,ym0 _,λ_=>ym0 _⟩,qcc hjn hvj,λ_=>⟨λhp hv=> ?_,λ_ hp=> ?_⟩⟩
      ·refine k1 hp ?_
       by_cases hs:(∃t o x,e.s=.val t o x)\/(∃t o x,e.s=.var t o x)\/(∃iV t o x p,e.s=.hole iV t o x p)
       ·simp only at hv;rw[zuu hc.2 hs] at hv;exact hv
       ·have:=ztv (E:=E) (keep:=keep) (j:=a.j) hs
        cases hq:jm keep E a.j e.s<;>simp only[hq,Slot.zay] at hv this<;>simp_all
      ·by_cases hs:(∃t o x,e.s=.val t o x)\/(∃t o x,e.s=.var t o x)\/(∃iV t o x p,e.s=.hole iV t o x p)
       ·simp only at hp ⊢
        rw[zuu hc.2 hs] at hp ⊢;refine k2 ?_ hp;rcases hok.2 with h|⟨h1,h2⟩
        ·exact h
        ·rcases hp with hp|hp
         ·exact absurd (zj1.1 h1) hp
         ·rw[h2] at hp;cases hp
       ·exact qw8 (ztv hs)
    ·rename_i a hs
     rw[hs] at hso;cases hc:(a.okA E&&memN keep a.j) with
     |false=>trivial
     |true=>
      rw[yh0] at hc;exact qag hkn hso hc.1 hc.2
    ·rename_i a t x hs
     rw[hs] at hso;cases hc:((a.okC E&& !(E.at a.j).s.isHole)&&memN keep a.j) with
     |false=>trivial
     |true=>
      rw[yh0,yh0,yj1] at hc;obtain⟨⟨hc1,hc2⟩,hc3⟩:=hc;obtain⟨e,hl,hk⟩:=hso;have he:=jq hl.1;rw[he] at hc2;simp only[Al.okC,he,yh0,yy0] at hc1;obtain⟨cs,q1,q2⟩:=hk hc1.1 hc1.2 hc2;have hjn:=hkn a.j hc3 (yf2.1 hl.1).1;refine⟨⟨0,0,jm keep E a.j e.s⟩,⟨zuv hjn hl.1,ym0 _,λ_=>ym0 _⟩,λ_ _ _=>⟨cs,q1,?_⟩⟩;have:(λk=>if k<n then(bif memN keep k then B k else[]) else if k=n then B N else[]) a.j=B a.j:=by simp only[hjn,if_true,hc3,yb0]
      simp only[this];exact q2
    ·rename_i f aL hs
     rw[hs] at hso;cases hc:(aL.all λa=>a.okA E&&memN keep a.j) with
     |false=>trivial
     |true=>
      obtain⟨vs,h1,h2⟩:=hso;exact⟨vs,h1,qah hkn hc h2⟩
    ·rename_i n0 n1 n2 n3
     cases hs:e0.s with
     |none=>trivial
     |val t o x=>rw[hs] at hso;show zx _ _ _ _ _ _ _;rw[hB];exact hso
     |var t o x=>rw[hs] at hso;show vg _ _ _ _ _ _ _;rw[hB];exact hso
     |hole iV t o x p=>rw[hs] at hso;show zd7 _ _ _ _ _ _ _ _ _;rw[hB];exact hso
     |tup l=>rw[hs] at hso;obtain⟨vs,h1,h2⟩:=hso;exact⟨vs,h1,by rw[hB];exact h2⟩
     |bad t x=>rw[hs] at hso;exact hso
     |sub a=>exact absurd hs (by simp_all)
     |addr a=>exact absurd hs (by simp_all)
     |view a t x=>first|exact(n0 a t x hs).elim|exact(n1 a t x hs).elim|exact(n2 a t x hs).elim|exact(n3 a t x hs).elim
     |fn f c=>exact absurd hs (by simp_all)
  ·obtain⟨k',h1,h2⟩:=sub k
   split
   ·cases memN keep k
    ·exact List.nodup_nil
    ·exact h.nodup k
   ·split
    ·exact h.nodup N
    ·exact List.nodup_nil
  ·obtain⟨p1,p2⟩:=sub' j b hb
   obtain⟨q1,q2⟩:=sub' k b hb';refine h.disj _ _ ?_ b p2 q2;split<;>split<;>omega
theorem St.keep {keep:List Nat}(h:St w0 Pr0 M E V w):St w0 Pr0 M (za4 keep E) V w:=by
 obtain⟨Pr,B,h,hN⟩:=h;have hlen:(za4 keep E).length=E.length:=zpw;have:=h.keep (keep:=keep) (n:=E.length) (N:=E.length) (ym0 _) (ym0 _) (λ_ _ h=>h);rw[yv2 (by omega),yv2 (by rw[<-h.len];exact ym0 _)] at this;refine⟨Pr,_,this,λk hk=> ?_⟩;rw[yw0 (by omega)];split
 ·exact hN _ (ym0 _)
 ·rfl
theorem St.cut {c:Cut}{off:Nat}(h:St w0 Pr0 M E V w):St w0 Pr0 M (c.app off E) V w:=h.wkE.keep
def zc6 (E:Env)(off:Nat)(x:Operand):Option U:=
 match opd E off x with
 |⟨some k,.val t o y⟩=>bif owns t o&&weaken t o .b then some (.new k (.val t .b y)) else none
 |_=>none
def zb5 (off:Nat):Env->List (Mode×Ty)->List Operand->List U
 |E,(m,_)::ps,x::xs=>
  match m with
  | .bor=>
    match zc6 E off x with
    |some u=>u::zb5 off (u.app E) ps xs
    |none=>zb5 off E ps xs
  |_=>zb5 off E ps xs
 |_,_,_=>[]
def zc7 (cx:Cx)(E:Env)(off:Nat)(c:Call):List U:=
 match c.callee with
 | .value fo=>
   match (opd E off fo).s with
   | .fn k []=>
     match lookup cx.cts k with
     |some ct=>bif ziz ct.rets||ptrs ct.pars then zb5 off E ct.pars c.args.toList else[]
     |none=>[]
   |_=>[]
 |_=>[]
def zgt {R:Type}(cx:Cx)(E:Env)(off:Nat)(c:Call)(K:SU->Option R):Option R:=
 zfi cx (appU E (zc7 cx E off c)) off c λz=>K (z.1,zc7 cx E off c++z.2)
theorem z7t {x:Operand}{u:U}{off:Nat}(h:zc6 E off x=some u):∃k t o y,(E.at k).s=.val t o y/\weaken t o .b=true/\u=.new k (.val t .b y):=by
 unfold zc6 at h;split at h
 ·rename_i k t o y hd
  cases hc:owns t o&&weaken t o .b with
  |false=>rw[hc] at h;cases h
  |true=>
   rw[hc] at h;rw[yh0] at hc;refine⟨k,t,o,y,?_,hc.2,(yl0 h).symm⟩;rw[<-zwx (x:=x) (E:=E) (off:=off) k (by rw[hd]),hd]
 ·cases h
theorem St.zc6 {x:Operand}{u:U}{off:Nat}(hu:Dn.zc6 E off x=some u)(h:St w0 Pr0 M E V w):St w0 Pr0 M (u.app E) V w:=by
 obtain⟨k,t,o,y,h1,h2,rfl⟩:=z7t hu;have:=h.wk1 (k:=k) (o:=.b);unfold Dn.wk1 at this;rw[h1] at this;simp only[h2,yb0] at this;exact this
theorem St.zb5 {off:Nat}:∀{ps:List (Mode×Ty)} {xs:List Operand} {E:Env},St w0 Pr0 M E V w->St w0 Pr0 M (appU E (Dn.zb5 off E ps xs)) V w
 |[],_,_,h=>h
 |_::_,[],_,h=>h
 |(m,t)::ps,x::xs,E,h=>by
  cases m with
  |bor=>
   simp only[Dn.zb5];cases hu:Dn.zc6 E off x with
   |none=>exact St.zb5 (ps:=ps) (xs:=xs) h
   |some u=>exact St.zb5 (ps:=ps) (xs:=xs) (E:=u.app E) (h.zc6 hu)
  |_=>exact St.zb5 (ps:=ps) (xs:=xs) h
theorem St.zc7 {off:Nat}{cx:Cx}{c:Call}(h:St w0 Pr0 M E V w):St w0 Pr0 M (appU E (Dn.zc7 cx E off c)) V w:=by
 unfold Dn.zc7;split
 ·split
  ·split
   ·rename_i ct _
    cases ziz ct.rets||ptrs ct.pars
    ·exact h
    ·exact St.zb5 h
   ·exact h
  ·exact h
 ·exact h
end
section
variable {E E2 : Env} {off : Nat} {cx : Cx} {R : Type} {K : SU → Option R}
theorem q3b {x:Operand}(h:LocX E E2 off x):zc6 E2 off x=zc6 E off x:=by
 unfold zc6;rw[(zaf h).1]
theorem q5k {x:Operand}{u:U}(h:zc6 E off x=some u):za1 u.slot=[]:=by
 obtain⟨k,t,o,y,_,_,rfl⟩:=z7t h;rfl
theorem zpx:∀{ps:List (Mode×Ty)} {xs:List Operand} {E E2:Env},(∀x∈xs,LocX E E2 off x)->E.length=E2.length->zb5 off E2 ps xs=zb5 off E ps xs/\RF (zb5 off E ps xs)
 |[],_,_,_,_,_=>⟨rfl,RF.nil⟩
 |_::_,[],_,_,_,_=>⟨rfl,RF.nil⟩
 |(m,t)::ps,x::xs,E,E2,h,hl=>by
  cases m with
  |bor=>
   simp only[zb5,q3b (h x (yk0 ..))];cases hu:zc6 E off x with
   |none=>exact zpx (ps:=ps) (xs:=xs) (λy hy=>h y (yg0 _ hy)) hl
   |some u=>
    have hr:=q5k hu
    have hr1:RF [u]:=λv hv=>by
     obtain rfl:v=u:=by simpa using hv
     exact hr
    obtain⟨h1,h2⟩:=zpx (ps:=ps) (xs:=xs) (E:=u.app E) (E2:=u.app E2) (λy hy=>LocX.appU (us:=[u]) hr1 hl (h y (yg0 _ hy))) (by rw[U.zm8,U.zm8,hl]);refine⟨by simp only[h1],λv hv=> ?_⟩;rcases yg1.1 hv with rfl|hv
    ·exact hr
    ·exact h2 v hv
  |_=>exact zpx (ps:=ps) (xs:=xs) (λy hy=>h y (yg0 _ hy)) hl
theorem q3c {c:Call}(hl:E.length=E2.length)(h:∀x∈c.operands.toList,LocX E E2 off x):zc7 cx E2 off c=zc7 cx E off c/\RF (zc7 cx E off c):=by
 have hargs:∀x∈c.args.toList,LocX E E2 off x:=λx hx=>h x (by
  simp only[Call.operands,Array.toList_append,yu0];exact .inr hx)
 unfold zc7;split
 ·rename_i fo hfo
  have hf:=zaf (h fo (by simp[Call.operands,hfo]));rw[hf.1];cases(opd E off fo).s<;>try exact⟨rfl,RF.nil⟩
  rename_i k caps;cases caps<;>try exact⟨rfl,RF.nil⟩
  dsimp only;cases hlk:lookup cx.cts k with
  |none=>exact⟨rfl,RF.nil⟩
  |some ct=>
   dsimp only;cases ziz ct.rets||ptrs ct.pars
   ·exact⟨rfl,RF.nil⟩
   ·exact zpx hargs hl
 ·exact⟨rfl,RF.nil⟩
theorem q2x {c:Call}(hl:E.length=E2.length)(h:∀x∈c.operands.toList,LocX E E2 off x):zgt cx E2 off c K=zgt cx E off c K:=by
 obtain⟨h1,h2⟩:=q3c (cx:=cx) hl h;unfold zgt;rw[h1];exact q2t (by rw[zfb,zfb,hl]) λx hx=>LocX.appU h2 hl (h x hx)
theorem qz1 {c:Call}:zgt cx E off c K=(zgt cx E off c some).bind K:=by
 unfold zgt;rw[z7q,z7q (K:=λz=>some (z.1,zc7 cx E off c++z.2)),Option.bind_assoc];rfl
end
section
variable {w0 : World} {Pr0 M : Nat → Prop}
variable {P : Program} {cx : Cx} {E : Env} {V : List Value} {w : World} {Pr : Nat → Prop} {B : Nat → List Nat} {off : Nat} {a : Act}
theorem q5f {R:Type}{K:SU->Option R}{r:R}(hcts:zk3 P cx)(hgl:GlOk cx.gl w0 Pr0 M){o:Oper}{c:Call}(hop:o.op=.call c)(h:StB w0 Pr0 M E V w Pr B)(hN:∀k,E.length<=k->B k=[])(hf:Fr off V a)
 (hs:zgt cx E off c K=some r):∃z,K z=some r/\zrb w0 Pr0 M P E V w a o z:=by
 obtain⟨Pr1,B1,h1,hN1⟩:=St.zc7 (off:=off) (cx:=cx) (c:=c) (⟨Pr,B,h,hN⟩:St w0 Pr0 M E V w);obtain⟨z,hz,hd⟩:=q7f hcts hgl hop h1 hN1 hf hs;refine⟨_,hz,λQ=> ?_⟩;have:=hd Q;rw[<-ze3,zfb (zc7 cx E off c)] at this;exact this
end
end Go.Dn
end

section
/- Regions: in the text's order, or in any that Go may take. -/
namespace Go.Dn
section
variable {R : Type}
structure Rc where
 run:(R:Type)->Plan->Code->Nat->Env->(Xt->Env->Option R)->Option R
structure Zv where
 s:Slot
 e:Env
 w:List Nat
def argE (E:Env)(off:Nat):List Operand->List Ent
 |[]=>[]
 |x::xs=>ent (alias E (opd E off x))::argE E off xs
def retI (off:Nat)(E:Env):List ResultVar->Option (Slot×Env)
 |[]=>some (.tup [],E)
 |[.tmp t]=>
  match take E (opd E off (.tmp t)) with
  |some (v,us)=>some (.val v.t v.o v.x,appU E us)
  |none=>none
 |_=>none
def inlK (rc:Rc)(E:Env)(off:Nat)(f:Func)(pl:Plan)(caps:List Al)(xs:List Operand)(K:Zv->Option R):Option R:=
 match f.body with
 |none=>none
 |some c=>
  rc.run R pl c E.length (E++(argE E off xs++(caps.map (λa=>ent (.addr a))++List.replicate (f.ntmps -(xs.length+caps.length)) (ent .none)))) λx E2=>
   match x with
   | .exit _=>none
   |_=>
    match retI E.length E2 f.results.toList with
    |some (s,E3)=>
     bif E.length==((za4 (List.range E.length) E3).take E.length).length then K ⟨s,(za4 (List.range E.length) E3).take E.length,List.range E.length⟩ else none
    |none=>none
def zw0 (cx:Cx)(off:Nat)(dst:Option Tmp)(k:FuncId):Option (Func×Plan):=
 match dst with
 |none=>none
 |some d=>
  match lookup cx.sites (off*100000+d) with
  |none=>none
  |some (k',f)=>bif k'==k then some f else none
def InFn (cx:Cx)(k:FuncId)(f:Func×Plan):Prop:=lookup cx.funcs k=some f\/∃d,lookup cx.sites d=some (k,f)
theorem qw6 {cx:Cx}{off:Nat}{dst:Option Tmp}{k:FuncId}{f:Func×Plan}(h:zw0 cx off dst k=some f):InFn cx k f:=by
 unfold zw0 at h;cases dst with
 |none=>cases h
 |some d=>
  simp only at h;cases hl:lookup cx.sites (off*100000+d) with
  |none=>rw[hl] at h;cases h
  |some q=>
   obtain⟨k',f'⟩:=q;rw[hl] at h;simp only at h;cases hk:k'==k with
   |false=>rw[hk] at h;cases h
   |true=>
    rw[hk] at h;obtain rfl:=yl0 h;obtain rfl:=yy0.1 hk;exact .inr ⟨_,hl⟩
def zc4 (cx:Cx)(E:Env)(off:Nat)(o:Oper):Option (FuncId×(Func×Plan)×List Al×List Operand):=
 match o.op with
 | .call c=>
   match c.callee with
   | .value fo=>
     match (opd E off fo).s with
     | .fn k caps=>
       match zw0 cx off o.dst k with
       |some f=>some (k,f,caps,c.args.toList)
       |none=>
        match lookup cx.funcs k with
        |some f=>some (k,f,caps,c.args.toList)
        |none=>none
     |_=>none
   |_=>none
 |_=>none
def zki (cx:Cx)(tid:TypeId)(n:Nat):Bool:=memN cx.arrs tid&&(decide (1<=n)&&match lookup cx.tab tid with|some t=>vk .str n t|none=>false)
def qdp:List (TypeId×Ty)->TypeId
 |[]=>0
 |(k,.str)::_=>k
 |_::l=>qdp l
def znj (cx:Cx)(E:Env)(off:Nat)(tid:TypeId)(g:Nat)(i:Operand)(K:SU->Option R):Option R:=
 match lookup cx.gl.strs g,rd E (opd E off i).s with
 |some l,some ⟨.int _,n⟩=>bif zki cx tid l.length&&inB n l.length then K (.bad .str (l.getD n.toNat []),[]) else none
 |_,_=>none
def zqr (cx:Cx)(tid:TypeId)(g:Nat)(K:SU->Option R):Option R:=
 match lookup cx.gl.strs g with
 |some l=>bif zki cx tid l.length then K (.val (.slice (qdp cx.tab) .str) .b l,[]) else none
 |none=>none
def zdi (cx:Cx)(E:Env)(off:Nat)(o:Oper)(K:SU->Option R):Option R:=
 match o.op with
 | .call c=>
   match c.callee with
   | .builtin _=>zc3 cx E off o K
   |_=>zgt cx E off c K
 | .indexAddr tid (.global g) i=>znj cx E off tid g i K
 | .slice tid (.global g) none none none=>zqr cx tid g K
 |_=>zc3 cx E off o K
def opK (cx:Cx)(rc:Rc)(E:Env)(off:Nat)(o:Oper)(K:Zv->Option R):Option R:=
 match zc4 cx E off o with
 |some q=>inlK rc E off q.2.1.1 q.2.1.2 q.2.2.1 q.2.2.2 K
 |none=>zdi cx E off o λz=>K ⟨z.1,appU E z.2,z.2.map U.ix⟩
def putE (off:Nat)(dst:Option Tmp)(z:Zv):Env:=
 match dst with
 |some d=>zaq z.e (off+d) z.s
 |none=>z.e
def setS (E:Env)(k:Nat)(s:Slot):Env:=E.set k ⟨(E.at k).iv,(E.at k).cv,s⟩
def zrd (E:Env)(off:Nat)(l:List Oper)(o:Oper)(A B:Env->Option R):Option R:=
 match o.guard with
 |none=>A E
 |some (g,want)=>
  match (l[g]?).bind (·.dst) with
  |none=>none
  |some t=>
   match (E.at (off+t)).s with
   | .val .bool ow b=>
     match want with
     |true=>bif b then A (setS E (off+t) (.val .bool ow true)) else B (setS E (off+t) (.val .bool ow false))
     |false=>bif b then B (setS E (off+t) (.val .bool ow true)) else A (setS E (off+t) (.val .bool ow false))
   | .tup []=>B E
   |_=>none
def Xt.to:Xt->Exit
 | .normal=>.normal
 | .exit id=>.exit id
 | .ret=>.ret
def zc5 (E:Env):Zv:=⟨.tup [],E,[]⟩
def opsK (cx:Cx)(rc:Rc)(off:Nat)(l:List Oper):List Oper->Env->(Env->Option R)->Option R
 |[],E,K=>K E
 |o::os,E,K=>zrd E off l o (λE=>opK cx rc E off o λz=>opsK cx rc off l os (putE off o.dst z) K) (λE=>opsK cx rc off l os (putE off o.dst (zc5 E)) K)
structure Ft where
 i:Nat
 r:List Nat
 w:List Nat
 anc:Nat
def rdX (E:Env)(off:Nat):Operand->List Nat
 | .tmp t=>(off+t)::za1 (E.at (off+t)).s
 |_=>[]
def zw1 (l:List Oper)(o:Oper):Option Nat:=o.guard.bind λg=>(l[g.1]?).bind (·.dst)
def opR (E:Env)(off:Nat):Op->List Nat
 | .move (.tmp t)=>[off+t]
 | .move _=>[]
 |o=>o.operands.toList.flatMap (rdX E off)
def readsOf (cx:Cx)(E:Env)(off:Nat)(l:List Oper)(o:Oper):List Nat:=
 (match zw1 l o with|some t=>[off+t]|none=>[])++(opR E off o.op++(match zc4 cx E off o with|some _=>List.range E.length|none=>[]))
def zde (off:Nat)(o:Oper)(z:Zv):List Nat:=(match o.dst with|some d=>[off+d]|none=>[])++z.w
def zns:List Ft->Nat->Nat
 |[],_=>0
 |f::fs,i=>bif f.i==i then f.anc else zns fs i
def ancL (fs:List Ft):List Edge->Nat
 |[]=>0
 |e::es=>bif Region.binds .any e then(2^e.on|||zns fs e.on)|||ancL fs es else ancL fs es
def znt (a b:List Nat):Bool:=a.all λk=> !memN b k
def zrm (o:Oper):Option (Nat×Nat×Nat):=
 match o.op,o.dst,o.guard with
 | .extract (.tmp t) a,some d,none=>some (t,a,d)
 |_,_,_=>none
def zxf (l:List Oper)(i j:Nat):Bool:=
 match (l[i]?).bind zrm,(l[j]?).bind zrm with
 |some (t,a,d),some (t',b,d')=>t==t'&&(a !=b&&(d !=d'&&(d !=t&&d' !=t)))
 |_,_=>false
def indep (l:List Oper)(g f:Ft):Bool:=(znt g.w f.r&&(znt g.w f.w&&znt f.w g.r))||zxf l g.i f.i
def okD (l:List Oper):List Ft->Bool
 |[]=>true
 |f::fs=>(fs.all λg=>indep l g f||f.anc.testBit g.i)&&okD l fs
def zk4:List Oper->Nat->Bool
 |[],_=>true
 |o::os,i=>(o.after.toList.all λe=> !Region.binds .any e||decide (e.on<i))&&zk4 os (i+1)
def opsD (cx:Cx)(rc:Rc)(off:Nat)(l:List Oper):List Oper->Nat->Env->List Ft->(Env->Option R)->Option R
 |[],_,E,fs,K=>bif okD l fs then K E else none
 |o::os,i,E,fs,K=>
  zrd E off l o
   (λE'=>opK cx rc E' off o λz=>opsD cx rc off l os (i+1) (putE off o.dst z) (⟨i,readsOf cx E off l o,zde off o z,ancL fs o.after.toList⟩::fs) K)
   (λE'=>opsD cx rc off l os (i+1) (putE off o.dst (zc5 E')) (⟨i,readsOf cx E off l o,zde off o (zc5 E'),ancL fs o.after.toList⟩::fs) K)
def zcl (cx:Cx)(rc:Rc)(off:Nat)(ops:Array Oper)(draw:Bool)(E:Env)(K:Env->Option R):Option R:=
 match draw with
 |true=>bif zk4 ops.toList 0 then opsD cx rc off ops.toList ops.toList 0 E [] K else none
 |false=>opsK cx rc off ops.toList ops.toList E K
end
section
variable {w0 : World} {Pr0 M : Nat → Prop} {outer : List Value} {ds : List Deferred}
variable {P : Program} {cx : Cx} {E : Env} {w : World} {a : Act} {R : Type} {r : R} {Pr : Nat → Prop} {B : Nat → List Nat}
structure Sx (w0:World)(Pr0 M:Nat->Prop)(outer:List Value)(ds:List Deferred)(E:Env)(a:Act)(w:World):Prop where
 st:St w0 Pr0 M E (outer++a.tmps.toList) w
 ds:a.defers=ds
theorem St.len {V:List Value}(h:St w0 Pr0 M E V w):E.length=V.length:=by obtain⟨Pr,B,h,_⟩:=h;exact h.len
theorem q5c (dst:Option Tmp)(v:Value):outer++(a.put dst v).tmps.toList=match dst with|some d=>(outer++a.tmps.toList).set (outer.length+d) v|none=>outer++a.tmps.toList:=by
 cases dst with
 |none=>rfl
 |some d=>
  show outer++(a.tmps.setIfInBounds d v).toList=_;rw[Array.toList_setIfInBounds];simp only;rw[List.set_append_right _ _ (by omega),yy2]
theorem Hand.putZ {z:Zv}{dst:Option Tmp}{v:Value}(h:Hand w0 Pr0 M z.e (outer++a.tmps.toList) w z.s v):
 St w0 Pr0 M (Dn.putE outer.length dst z) (outer++(a.put dst v).tmps.toList) w:=by
 rw[q5c];cases dst with
 |none=>exact h.drop
 |some d=>
  simp only[Dn.putE];by_cases hk:outer.length+d<z.e.length
  ·exact h.put hk
  ·have hl:=St.len h.drop
   have e1:zaq z.e (outer.length+d) z.s=z.e:=List.set_eq_of_length_le (by omega);have e2:(outer++a.tmps.toList).set (outer.length+d) v=outer++a.tmps.toList:=List.set_eq_of_length_le (by omega);rw[e1,e2];exact h.drop
theorem Sx.fr (_h:Sx w0 Pr0 M outer ds E a w):Fr outer.length (outer++a.tmps.toList) a:=⟨outer,rfl,rfl⟩
theorem put_defers (dst:Option Tmp)(v:Value):(a.put dst v).defers=a.defers:=by cases dst<;>rfl
def RcOk (P:Program)(cx:Cx)(rc:Rc):Prop:=
 ∀(w0:World) (Pr0 M:Nat->Prop) (outer:List Value) (ds:List Deferred) (R:Type) (pl:Plan) (c:Code) (r:R) (E:Env) (a:Act) (w:World) (K:Xt->Env->Option R) (Q:Exit->Act->World->Prop),
  GlOk cx.gl w0 Pr0 M->(∃k f,InFn cx k (f,pl)/\f.body=some c)->rc.run R pl c outer.length E K=some r->Sx w0 Pr0 M outer ds E a w->(∀x E' a' w',K x E'=some r->Sx w0 Pr0 M outer ds E' a' w'->Q x.to a' w')->c.wp P Q a w
def zwc (P:Program)(cx:Cx):Prop:=∀k f,InFn cx k f->P.funcs[k]? =some f.1/\(f.1.name== "runtime.NumGoroutine")=false
theorem q2u (h:StB w0 Pr0 M E (outer++a.tmps.toList) w Pr B)(hN:∀k,E.length<=k->B k=[]){xs:List Operand}{i:Nat}{e:Ent}{v:Value}(he:(argE E outer.length xs)[i]? =some e)(hv:(xs.map a.eval)[i]? =some v):
 jd w Pr E (outer++a.tmps.toList) B E.length e.s v:=by
 induction xs generalizing i with
 |nil=>simp[argE] at he
 |cons x xs ih=>
  cases i with
  |zero=>
   simp only[argE,ym2,yn0,List.map_cons] at he hv;subst he;subst hv;exact zd2 h (qx h ⟨outer,rfl,rfl⟩ x) (hN _ (ym0 _))
  |succ i=>exact ih (by simpa[argE] using he) (by simpa using hv)
theorem zvm {xs:List Operand}{off:Nat}:(argE E off xs).length=xs.length:=by
 induction xs with
 |nil=>rfl
 |cons x xs ih=>simp[argE,ih]
theorem St.more {E:Env}{V:List Value}{ex:List Ent}{vx:List Value}(h:StB w0 Pr0 M E V w Pr B)(hN:∀k,E.length<=k->B k=[])(hl:ex.length=vx.length)
 (hx:∀(i:Nat) (e:Ent) (v:Value),ex[i]? =some e->vx[i]? =some v->jd w Pr E V B E.length e.s v):St w0 Pr0 M (E++ex) (V++vx) w:=by
 have lift:∀{k k':Nat} {s:Slot} {v:Value},B k'=B k->jd w Pr E V B k s v->jd w Pr (E++ex) (V++vx) B k' s v:=by
  intro k k' s v hB hs;have get:∀{j:Nat} {e:Ent},E[j]? =some e->(E++ex)[j]? =some e:=λhe=>by rw[yz1 (yf2.1 he).1];exact he
  have getV:∀{j:Nat} {v:Value},V[j]? =some v->(V++vx)[j]? =some v:=λhe=>by rw[yz1 (yf2.1 he).1];exact he
  have addr:∀{al:Al} {v:Value},zbb w E V al v->zbb w (E++ex) (V++vx) al v:=λ⟨e,vj,hl,hv,hk⟩=>⟨e,vj,⟨get hl.1,hl.2⟩,getV hv,hk⟩;cases s with
  |none=>trivial
  |val t o x=>show zx _ _ _ _ _ _ _;rw[hB];exact hs
  |var t o x=>show vg _ _ _ _ _ _ _;rw[hB];exact hs
  |hole iV t o x p=>show zd7 _ _ _ _ _ _ _ _ _;rw[hB];exact hs
  |sub al=>obtain⟨e,vj,hl,hv,hk⟩:=hs;exact⟨e,vj,⟨get hl.1,hl.2⟩,getV hv,hk⟩
  |addr al=>exact addr hs
  |view al t x=>obtain⟨e,hl,hk⟩:=hs;exact⟨e,⟨get hl.1,hl.2⟩,hk⟩
  |bad t x=>exact hs
  |fn f caps=>obtain⟨vs,h1,h2⟩:=hs;exact⟨vs,h1,h2.imp λ_ _=>addr⟩
  |tup l=>obtain⟨vs,h1,h2⟩:=hs;exact⟨vs,h1,by rw[hB];exact h2⟩
 refine⟨Pr,B,{len:=by simp[h.len,hl],pr0:=h.pr0,prlt:=h.prlt,prnew:=h.prnew,slots:=λk e v he hv=> ?_,nodup:=h.nodup,disj:=h.disj,free:=h.free,os:=h.os,tape:=h.tape,output:=h.output,size:=h.size,frame:=h.frame},λk hk=>hN k (by simp at hk;omega)⟩;by_cases hk:k<E.length
 ·rw[yz1 hk] at he
  rw[yz1 (by rw[<-h.len];exact hk)] at hv;exact lift rfl (h.slots k e v he hv)
 ·rw[ya2 (by omega)] at he
  rw[ya2 (by rw[<-h.len];omega),<-h.len] at hv;exact lift (k:=E.length) (by rw[hN k (by omega),hN E.length (ym0 _)]) (hx _ e v he hv)
theorem z2f {α:Type}{l1 l2:List α}{k:Nat}{x:α}(h:(l1++l2)[k]? =some x):(k<l1.length/\l1[k]? =some x)\/(l1.length<=k/\l2[k -l1.length]? =some x):=by
 by_cases hk:k<l1.length
 ·exact .inl ⟨hk,by rwa [yz1 hk] at h⟩
 ·exact .inr ⟨by omega,by rwa [ya2 (by omega)] at h⟩
theorem qzy {n k:Nat}:memN (List.range n) k=true↔k<n:=by
 have key:∀{l:List Nat} {k:Nat},memN l k=true↔k∈l:=by
  intro l
  induction l with
  |nil=>simp[memN]
  |cons j l ih=>
   intro k;simp only[memN,yg1];cases h:j==k with
   |true=>have:j=k:=by simpa using h
          simp[this]
   |false=>
    have:¬(k=j):=λe=>by simp[e] at h
    simp[this,ih]
 rw[key,List.mem_range]
theorem q7h {outer2:List Value}{f:Func}{E2 E3:Env}{s:Slot}(h:Sx w0 Pr0 M outer2 [] E2 a w){n:Nat}(hn:n=outer2.length)(hr:retI n E2 f.results.toList=some (s,E3))(hle:n<=E2.length):
 ∃v,(results f a.tmps).run P w=.ok v w/\Hand w0 Pr0 M ((za4 (List.range n) E3).take n) outer2 w s v/\((za4 (List.range n) E3).take n).length=n:=by
 subst hn;obtain⟨⟨Pr,B,hst,hN⟩,hds⟩:=h
 have fin:∀{E3:Env} {B3:Nat->List Nat} {s:Slot} {v:Value},E3.length=E2.length->StB w0 Pr0 M E3 (outer2++a.tmps.toList) w Pr B3->(∀E' V',jd w Pr E' V' B3 E3.length s v)->(∀E' V' B' k,B' k=B3 E3.length->jd w Pr E' V' B' k s v)->
  Hand w0 Pr0 M ((za4 (List.range outer2.length) E3).take outer2.length) outer2 w s v/\((za4 (List.range outer2.length) E3).take outer2.length).length=outer2.length:=by
  intro E3 B3 s v hl h3 _ hs
  have hlen:((za4 (List.range outer2.length) E3).take outer2.length).length=outer2.length:=by
   rw[yr1];have:(za4 (List.range outer2.length) E3).length=E3.length:=zpw;omega
  refine⟨⟨Pr,(λk=>if k<outer2.length then(bif memN (List.range outer2.length) k then B3 k else[]) else if k=outer2.length then B3 E3.length else[]),?_,?_,λk hk=> ?_⟩,hlen⟩
  ·have:=h3.keep (keep:=List.range outer2.length) (n:=outer2.length) (N:=E3.length) (by omega) (ym0 _) (λk hk _=>qzy.1 hk)
   rw[List.take_append_of_le_length (ym0 _),List.take_length] at this;exact this
  ·refine hs _ _ _ _ ?_
   rw[hlen];simp
  ·rw[hlen] at hk
   simp only;rw[yw0 (by omega),yw0 (by omega)]
 unfold retI at hr;split at hr
 ·rename_i hres
  simp only[yn0,ya1] at hr;obtain⟨rfl,rfl⟩:=hr;have hres':f.results= #[]:=by rw[<-Array.toList_inj];exact hres
  refine⟨.tuple #[],by simp[results,hres'],fin rfl hst (λ_ _=>⟨[],rfl,hN _ (ym0 _)⟩) (λ_ _ _ _ hb=>⟨[],rfl,by rw[hb];exact hN _ (ym0 _)⟩)⟩
 ·rename_i t hres
  have hres':f.results= #[.tmp t]:=by rw[<-Array.toList_inj];exact hres
  split at hr
  ·rename_i v us ht
   simp only[yn0,ya1] at hr;obtain⟨rfl,rfl⟩:=hr;obtain⟨B1,g1,g2,g3,g4⟩:=zd4 hst (ym0 _) (hN _ (ym0 _)) (qx hst ⟨outer2,rfl,rfl⟩ (.tmp t)) ht;refine⟨a.eval (.tmp t),by simp[results,hres',Act.eval],fin g4 g1 (λ_ _=> ?_) (λ_ _ _ _ hb=> ?_)⟩
   ·show zx _ _ _ _ _ _ _
    rw[g4];exact g2
   ·show zx _ _ _ _ _ _ _
    rw[hb,g4];exact g2
  ·cases hr
 ·cases hr
theorem qzz {cx:Cx}{E:Env}{off:Nat}{o:Oper}{k:FuncId}{f:Func×Plan}{caps:List Al}{xs:List Operand}(h:zc4 cx E off o=some (k,f,caps,xs)):
 ∃c fo,o.op=.call c/\c.callee=.value fo/\(opd E off fo).s=.fn k caps/\InFn cx k f/\xs=c.args.toList:=by
 unfold zc4 at h;split at h
 ·rename_i c hop
  split at h
  ·rename_i fo hc
   split at h
   ·rename_i k' caps' hs
    split at h
    ·rename_i f' hf
     simp only[yn0,ya1] at h;obtain⟨rfl,rfl,rfl,rfl⟩:=h;exact⟨c,fo,hop,hc,hs,qw6 hf,rfl⟩
    ·split at h
     ·rename_i f' hf
      simp only[yn0,ya1] at h;obtain⟨rfl,rfl,rfl,rfl⟩:=h;exact⟨c,fo,hop,hc,hs,.inl hf,rfl⟩
     ·cases h
   ·cases h
  ·cases h
 ·cases h
theorem qw7 {k:FuncId}{fn:Func}{o:Oper}{c:Call}{fo:Operand}{cv:Array Value}(hop:o.op=.call c)(hc:c.callee=.value fo)(hv:a.eval fo=.func (.func k) #[] cv)(hfn:P.funcs[k]? =some fn)(hb:fn.body.isNone=false)(hn:(fn.name== "runtime.NumGoroutine")=false)(w:World):
 (execOp a.eval o).run P w=.ok (.enter k (c.args.map a.eval++cv)) w:=by
 simp only[execOp,hop,resolve,hc,hv,Deferred.ofValue];show(callFunc k ((#[]++c.args.map a.eval)++cv)).run P w=_;simp only[Array.empty_append];exact z7o hfn hb hn _ _
theorem q5d {caps:List Al}{cv:List Value}(h:AllL (zbb w E (outer++a.tmps.toList)) caps cv){i:Nat}{e:Ent}{v:Value}(he:(caps.map (λal=>ent (.addr al)))[i]? =some e)(hv:cv[i]? =some v):jd w Pr E (outer++a.tmps.toList) B E.length e.s v:=by
 induction caps generalizing cv i with
 |nil=>simp at he
 |cons al caps ih=>
  cases cv with
  |nil=>simp at hv
  |cons u cv=>
   cases i with
   |zero=>
    simp only[List.map_cons,ym2,yn0] at he hv;subst he;subst hv;exact h.1
   |succ i=>exact ih h.2 (by simpa using he) (by simpa using hv)
theorem qb4 {α β:Type}{S:α->β->Prop}:∀{aL:List α} {bs:List β},AllL S aL bs->aL.length=bs.length
 |[],[],_=>rfl
 |a::aL,b::bs,h=>by simp[qb4 h.2]
 |[],_::_,h=>h.elim
 |_::_,[],h=>h.elim
theorem q9p {rc:Rc}(hfs:zwc P cx)(hrc:RcOk P cx rc)(hgl:GlOk cx.gl w0 Pr0 M){o:Oper}{K:Zv->Option R}{q:FuncId×(Func×Plan)×List Al×List Operand}(h:Sx w0 Pr0 M outer ds E a w)(hq:zc4 cx E outer.length o=some q)
 (hs:inlK rc E outer.length q.2.1.1 q.2.1.2 q.2.2.1 q.2.2.2 K=some r)(next:Act->World->Prop)(Q:Exit->Act->World->Prop)
 (hn:∀z a' w',K z=some r->Sx w0 Pr0 M outer ds (putE outer.length o.dst z) a' w'->next a' w'):o.wp P a w next Q:=by
 obtain⟨k,⟨f,pl⟩,caps,xs⟩:=q;obtain⟨c,fo,hop,hc,hfk,hf,rfl⟩:=qzz hq;simp only at hs;unfold inlK at hs;split at hs
 ·cases hs
 rename_i body hbody;obtain⟨hfn,hname⟩:=hfs k _ hf;simp only at hfn hname;obtain⟨⟨Pr,B,hst,hN⟩,hds⟩:=id h;have hlen:=hst.len
 have hcap:∃cv:List Value,a.eval fo=.func (.func k) #[] cv.toArray/\AllL (zbb w E (outer++a.tmps.toList)) caps cv:=by
  have ho:=qx hst ⟨outer,rfl,rfl⟩ fo;cases hix:(opd E outer.length fo).ix with
  |none=>
   unfold jv at ho;rw[hix,hfk] at ho;obtain⟨rfl,hv⟩:=ho;exact⟨[],hv,trivial⟩
  |some j=>
   have:=zcy hst ho hix;rw[hfk] at this;exact this
 obtain⟨cv,hv,hcv⟩:=hcap;unfold Oper.wp;rw[qw7 hop hc hv hfn (by rw[hbody];rfl) hname w];show Calls P k _ w _;refine calls_of_wp hfn hbody ?_;have hcl:=qb4 hcv
 have hst2:Sx w0 Pr0 M (outer++a.tmps.toList) [] (E++(argE E outer.length c.args.toList++(caps.map (λa=>ent (.addr a))++List.replicate (f.ntmps -(c.args.toList.length+caps.length)) (ent .none))))
  {tmps:=(c.args.map a.eval++cv.toArray)++Array.replicate (f.ntmps -(c.args.map a.eval++cv.toArray).size) undef,defers:=[]} w:=by
  refine⟨?_,rfl⟩
  have e1:((c.args.map a.eval++cv.toArray)++Array.replicate (f.ntmps -(c.args.map a.eval++cv.toArray).size) undef).toList=
   c.args.toList.map a.eval++(cv++List.replicate (f.ntmps -(c.args.toList.length+caps.length)) undef):=by
   simp[hcl]
  simp only[e1];refine St.more hst hN (by simp[zvm,hcl]) λi e v he hv=> ?_;rcases z2f he with⟨p1,p2⟩|⟨p1,p2⟩
  ·rw[zvm] at p1
   rw[yz1 (by simpa using p1)] at hv;exact q2u hst hN p2 hv
  ·rw[zvm] at p1 p2
   rw[ya2 (by simpa using p1)] at hv;simp only[yu1] at hv;rcases z2f p2 with⟨q1,q2⟩|⟨q1,q2⟩
   ·simp only[yu1] at q1
    rw[yz1 (by omega)] at hv;exact q5d hcv q2 hv
   ·rw[List.getElem?_replicate] at q2
    split at q2
    ·obtain rfl:=yl0 q2;trivial
    ·cases q2
 rw[hlen] at hs;refine hrc w0 Pr0 M (outer++a.tmps.toList) [] R pl body r _ _ w _ _ hgl ⟨k,f,hf,hbody⟩ hs hst2 λx E2 a' w' hk hx=> ?_
 have fin:∀(s:Slot) (E3:Env),retI (outer++a.tmps.toList).length E2 f.results.toList=some (s,E3)->
  (bif (outer++a.tmps.toList).length==((za4 (List.range (outer++a.tmps.toList).length) E3).take (outer++a.tmps.toList).length).length then K ⟨s,(za4 (List.range (outer++a.tmps.toList).length) E3).take (outer++a.tmps.toList).length,List.range (outer++a.tmps.toList).length⟩ else none)=some r->
  a'.defers=[]/\∃v,(results f a'.tmps).run P w'=.ok v w'/\next (a.put o.dst v) w':=by
  intro s E3 hret hk
  have hl2:(outer++a.tmps.toList).length<=E2.length:=by
   have:=St.len hx.st;simp only[ye0] at this ⊢;omega
  obtain⟨v,h1,h2,h3⟩:=q7h (P:=P) hx rfl hret hl2;refine⟨hx.ds,v,h1,?_⟩;rw[h3,yn1,yb0] at hk;exact hn _ _ _ hk ⟨Hand.putZ h2,by rw[put_defers,hds]⟩
 cases x with
 |exit id=>cases hk
 |normal=>
  simp only at hk;split at hk
  ·rename_i s E3 hret
   exact fin s E3 hret hk
  ·cases hk
 |ret=>
  simp only at hk;split at hk
  ·rename_i s E3 hret
   exact fin s E3 hret hk
  ·cases hk
theorem z9y:∀{n m:Nat} {a t:Ty},1<=n->vk .str n t=true->vk a m t=true->n=m/\a=.str
 |0,_,_,_,h,_,_=>by omega
 |1,0,_,.pair _ _,_,_,h=>by simp[vk] at h
 |n+1,0,_,.pair _ _,_,_,h=>by simp[vk] at h
 |1,1,a,.pair b c,_,h1,h2=>by
  simp only[vk,yh0,yy0] at h1 h2;exact⟨rfl,by rw[<-h2.1,h1.1]⟩
 |1,m+2,a,.pair b c,_,h1,h2=>by
  simp only[vk,yh0,yy0] at h1 h2;cases c<;>simp[vk] at h1 h2
 |n+2,1,a,.pair b c,_,h1,h2=>by
  simp only[vk,yh0,yy0] at h1 h2;cases c<;>simp[vk] at h1 h2
 |n+2,m+2,a,.pair b c,_,h1,h2=>by
  simp only[vk,yh0] at h1 h2;obtain⟨e1,e2⟩:=z9y (n:=n+1) (m:=m+1) (a:=a) (t:=c) (by omega) h1.2 h2.2;exact⟨by omega,e2⟩
 |n+1,_,_,.int _,_,h,_|n+1,_,_,.bool,_,h,_|n+1,_,_,.str,_,h,_|n+1,_,_,.unit,_,h,_|n+1,_,_,.slice _ _,_,h,_=>by simp[vk] at h
theorem z9z (htab:ji P cx.tab)(harr:zbi P cx){tid:TypeId}{n:Nat}(h:zki cx tid n=true):∃e,P.underlying tid=some (.array n e)/\lookup cx.tab e=some .str:=by
 unfold zki at h;rw[yh0,yh0,yr0] at h;obtain⟨h1,h2,h3⟩:=h;cases hl:lookup cx.tab tid with
 |none=>rw[hl] at h3;cases h3
 |some t=>
  rw[hl] at h3;obtain⟨m,e,a',g1,g2,g3,g4,_⟩:=zqd htab harr hl h1;obtain⟨rfl,rfl⟩:=z9y h2 h3 g4;exact⟨e,g1,g2⟩
theorem qb5 {w:World}{Pr:Nat->Prop}:∀(l:List (List UInt8)),RepL (Rep w Pr .str .b) (l.map strV) l []
 |[]=>⟨rfl,rfl⟩
 |x::l=>⟨[strV x],l.map strV,[],[],rfl,yh1 _,⟨rfl,rfl⟩,qb5 l⟩
theorem z7r (hgl:GlOk cx.gl w0 Pr0 M){E:Env}{V:List Value}{Pr:Nat->Prop}{B:Nat->List Nat}(h:StB w0 Pr0 M E V w Pr B){g:Nat}{l:List (List UInt8)}(hl:lookup cx.gl.strs g=some l):
 Pr g/\∃T,w.heap[g]? =some (.cells (l.map strV).toArray T (0,0)):=by
 obtain⟨h1,h2⟩:=cx.gl.strs_ok w (cx.gl.stable w0 w hgl.1 λb hb=>h.frame b (hgl.2 b hb).2.1 (hgl.2 b hb).2.2) _ (zdv hl);exact⟨h.pr0 g (hgl.2 g h1).1,h2⟩
theorem qdq {g j:Nat}{T:TypeId}{l:List (List UInt8)}(hg:w.heap[g]? =some (.cells (l.map strV).toArray T (0,0)))(hj:j<l.length):w.cell? ⟨g,j,none⟩=some (strV (l.getD j [])):=by
 have:(l.map strV)[j]? =some (strV (l.getD j [])):=by simp[List.getD,hj]
 simp[World.cell?,hg,this]
theorem q2v (htab:ji P cx.tab)(harr:zbi P cx)(hgl:GlOk cx.gl w0 Pr0 M){o:Oper}{V:List Value}{Pr:Nat->Prop}{B:Nat->List Nat}{off:Nat}{a:Act}{K:SU->Option R}(h:StB w0 Pr0 M E V w Pr B)(hN:∀k,E.length<=k->B k=[])(hf:Fr off V a)
 {tid:TypeId}{g:Nat}{i:Operand}(hop:o.op=.indexAddr tid (.global g) i)(hs:znj cx E off tid g i K=some r):∃z,K z=some r/\jk w0 Pr0 M P E V w a o z:=by
 unfold znj at hs;split at hs
 ·rename_i l k n hl hi
  cases hc:zki cx tid l.length&&inB n l.length with
  |false=>rw[hc] at hs;cases hs
  |true=>
   rw[hc] at hs;rw[yh0] at hc;obtain⟨e,q1,q2⟩:=z9z htab harr hc.1;obtain⟨h0,h1,h2⟩:=zqo hc.2;obtain⟨hp,T,hg⟩:=z7r hgl h hl;refine⟨_,hs,.value (.pointer (some ((⟨g,0,none⟩:Addr).add (n.toNat*1)))),w,_,?_,.inl rfl,rfl,za5 h hN λN hB=> ?_⟩
   ·have hsz:=run_sizeOf (P:=P) (w:=w) (jr htab q2)
    have hge:a.eval (.global g)=.pointer (some ⟨g,0,none⟩):=rfl;simp[execOp,hop,zbo h (qx h hf i) hi,hge,Instr.indexAt,asIntOf,run_underlying q1,Instr.sureAddr,h0,h1,hsz,Ty.size]
   ·refine⟨_,[strV (l.getD n.toNat [])],rfl,by rw[add_block];exact hp,λj u hu=> ?_,⟨rfl,rfl⟩⟩
    have hj:j=0:=by have:=(yf2.1 hu).1;simp at this;omega
    subst hj;simp only[ym2,yn0] at hu;subst hu
    have e0:((⟨g,0,none⟩:Addr).add (n.toNat*1)).add 0=⟨g,n.toNat,none⟩:=by
     by_cases hz:n.toNat=0<;>simp[Addr.add,hz]
    rw[e0];exact qdq hg h2
 ·cases hs
theorem qz0 (htab:ji P cx.tab)(harr:zbi P cx)(hgl:GlOk cx.gl w0 Pr0 M){o:Oper}{V:List Value}{Pr:Nat->Prop}{B:Nat->List Nat}{off:Nat}{a:Act}{K:SU->Option R}(h:StB w0 Pr0 M E V w Pr B)(hN:∀k,E.length<=k->B k=[])(_:Fr off V a)
 {tid:TypeId}{g:Nat}(hop:o.op=.slice tid (.global g) none none none)(hs:zqr cx tid g K=some r):∃z,K z=some r/\jk w0 Pr0 M P E V w a o z:=by
 unfold zqr at hs;split at hs
 ·rename_i l hl
  cases hc:zki cx tid l.length with
  |false=>rw[hc] at hs;cases hs
  |true=>
   rw[hc] at hs;obtain⟨e,q1,q2⟩:=z9z htab harr hc;obtain⟨hp,T,hg⟩:=z7r hgl h hl;refine⟨_,hs,.value (.slice (some ⟨g,0,none⟩) l.length l.length),w,_,?_,.inl rfl,rfl,za5 h hN λN hB=> ?_⟩
   ·have hsz:=run_sizeOf (P:=P) (w:=w) (jr htab q2)
    by_cases hz:l.length=0
    ·simp[execOp,hop,Act.eval,Instr.sliceAt,run_underlying q1,Instr.sureAddr,Instr.sliceBounds,hsz,Ty.size,hz]
    ·simp[execOp,hop,Act.eval,Instr.sliceAt,run_underlying q1,Instr.sureAddr,Instr.sliceBounds,hsz,Ty.size,Addr.add]
   ·show zx _ _ _ _ _ _ _
    rw[hB];refine⟨[.slice (some ⟨g,0,none⟩) l.length l.length],rfl,za0.2 ⟨rfl,_,_,rfl,ym0 _,.inr ⟨_,l.map strV,rfl,hp,λj u hu=> ?_,qb5 l⟩⟩⟩;have hj:j<l.length:=by have:=(yf2.1 hu).1;simpa using this
    have hu':u=strV (l.getD j []):=by
     simp[hj] at hu;simp[List.getD,hj,hu]
    rw[hu']
    have e0:(⟨g,0,none⟩:Addr).add j=⟨g,j,none⟩:=by
     by_cases hz:j=0<;>simp[Addr.add,hz]
    rw[e0];exact qdq hg hj
 ·cases hs
theorem q5e (htab:ji P cx.tab)(harr:zbi P cx)(hcts:zk3 P cx)(hgl:GlOk cx.gl w0 Pr0 M){o:Oper}{K:SU->Option R}(h:Sx w0 Pr0 M outer ds E a w)(hs:zdi cx E outer.length o K=some r):
 ∃z,K z=some r/\∀(next:Act->World->Prop) (Q:Exit->Act->World->Prop),(∀a' w',Sx w0 Pr0 M outer ds (putE outer.length o.dst ⟨z.1,appU E z.2,z.2.map U.ix⟩) a' w'->next a' w')->o.wp P a w next Q:=by
 obtain⟨⟨Pr,B,hst,hN⟩,hds⟩:=h;have hf:Fr outer.length (outer++a.tmps.toList) a:=⟨outer,rfl,rfl⟩
 have main:∃z,K z=some r/\zrb w0 Pr0 M P E (outer++a.tmps.toList) w a o z:=by
  unfold zdi at hs;split at hs
  ·rename_i c hop
   split at hs
   ·obtain⟨z,h1,h2⟩:=step_ok htab harr hst hN hf hs
    exact⟨z,h1,h2.does⟩
   ·exact q5f hcts hgl hop hst hN hf hs
  ·rename_i tid g i hop
   obtain⟨z,h1,h2⟩:=q2v htab harr hgl hst hN hf hop hs;exact⟨z,h1,h2.does⟩
  ·rename_i tid g hop
   obtain⟨z,h1,h2⟩:=qz0 htab harr hgl hst hN hf hop hs;exact⟨z,h1,h2.does⟩
  ·obtain⟨z,h1,h2⟩:=step_ok htab harr hst hN hf hs
   exact⟨z,h1,h2.does⟩
 obtain⟨z,h1,h2⟩:=main;refine⟨z,h1,λnext Q hn=> ?_⟩;refine Oper.wp_mono ?_ (h2 Q);rintro a' w' ⟨v,rfl,hlen,hh⟩;exact hn _ _ ⟨Hand.putZ (z:=⟨z.1,appU E z.2,z.2.map U.ix⟩) hh,by rw[put_defers,hds]⟩
structure Ok (P:Program)(cx:Cx)(rc:Rc)(w0:World)(Pr0 M:Nat->Prop):Prop where
 tab:ji P cx.tab
 arr:zbi P cx
 cts:zk3 P cx
 fns:zwc P cx
 rc:RcOk P cx rc
 mix:P.follows .mixedOrders=true
 gl:GlOk cx.gl w0 Pr0 M
theorem zw2 {rc:Rc}(hk:Ok P cx rc w0 Pr0 M){o:Oper}{K:Zv->Option R}(h:Sx w0 Pr0 M outer ds E a w)(hs:opK cx rc E outer.length o K=some r)(next:Act->World->Prop)(Q:Exit->Act->World->Prop)
 (hn:∀z a' w',K z=some r->Sx w0 Pr0 M outer ds (putE outer.length o.dst z) a' w'->next a' w'):o.wp P a w next Q:=by
 unfold opK at hs;split at hs
 ·rename_i q hq
  exact q9p hk.fns hk.rc hk.gl h hq hs next Q hn
 ·obtain⟨z,h1,h2⟩:=q5e hk.tab hk.arr hk.cts hk.gl h hs
  exact h2 next Q λa' w' hx=>hn _ a' w' h1 hx
theorem qb6 (dst:Option Tmp)(h:Sx w0 Pr0 M outer ds E a w):Sx w0 Pr0 M outer ds (putE outer.length dst (zc5 E)) (a.put dst undef) w:=by
 obtain⟨⟨Pr,B,hst,hN⟩,hds⟩:=h;exact⟨Hand.putZ (z:=zc5 E) ⟨Pr,B,hst,⟨[],rfl,hN _ (ym0 _)⟩,λk hk=>hN k (by simp only[zc5] at hk;omega)⟩,by rw[put_defers,hds]⟩
def gd (E:Env)(off:Nat)(l:List Oper)(o:Oper):Option Bool:=
 match o.guard with
 |none=>some true
 |some (g,want)=>
  match (l[g]?).bind (·.dst) with
  |none=>none
  |some t=>
   match (E.at (off+t)).s with
   | .val .bool _ b=>some (b==want)
   | .tup []=>some false
   |_=>none
theorem q2w {k:Nat}{s:Slot}(h:(E.at k).s=s):setS E k s=E:=by
 apply List.ext_getElem?;intro i;simp only[setS,List.getElem?_set];split
 ·rename_i e
  subst e;split
  ·rename_i hk
   have:=yt1 (l:=E) hk;rw[this,<-h];have h2:=jq this;rw[h2]
  ·rename_i hk;rw[yh2 (by omega)]
 ·rfl
theorem zj2 {off:Nat}{l:List Oper}{o:Oper}{A B:Env->Option R}:zrd E off l o A B=match gd E off l o with|none=>none|some true=>A E|some false=>B E:=by
 unfold zrd gd;cases o.guard with
 |none=>rfl
 |some q=>
  obtain⟨g,want⟩:=q;simp only;cases(l[g]?).bind (·.dst) with
  |none=>rfl
  |some t=>
   simp only;split
   ·rename_i ow b hs
    cases want<;>cases b<;>simp only[yb0,yd0,q2w hs]<;>rfl
   ·rfl
   ·rfl
theorem zxg {ops:Array Oper}{o:Oper}{b:Bool}(h:Sx w0 Pr0 M outer ds E a w)(hg:gd E outer.length ops.toList o=some b):Region.wanted o (yielded ops a.tmps)=b:=by
 unfold gd at hg;unfold Region.wanted;split at hg
 ·rename_i hgu;rw[hgu];simpa using hg
 ·rename_i g want hgu
  rw[hgu];simp only;split at hg
  ·cases hg
  ·rename_i t ht
   rw[yl2] at ht;unfold yielded;rw[ht];simp only[ya0];obtain⟨⟨Pr,B,hst,hN⟩,hds⟩:=h;have hf:Fr outer.length (outer++a.tmps.toList) a:=⟨outer,rfl,rfl⟩;have ho:=qx hst hf (.tmp t);split at hg
   ·rename_i ow bb hs
    have hr:rd E (opd E outer.length (.tmp t)).s=some ⟨.bool,bb⟩:=by
     show rd E (E.at (outer.length+t)).s=_;rw[hs];rfl
    have hv:=zm6 hst ho hr
    have:a.tmps[t]? =some (.bool bb):=by
     simp only[Act.eval] at hv;rw[Array.getD_eq_getD_getElem?] at hv;cases hq:a.tmps[t]? with
     |none=>rw[hq] at hv;simp[undef] at hv
     |some u=>rw[hq] at hv;simpa using hv
    rw[this];simp only[yn0] at hg;subst hg;cases bb<;>cases want<;>rfl
   ·rename_i hs
    have hso:=zcy hst ho (k:=outer.length+t) rfl;have hso:jd w Pr E (outer++a.tmps.toList) B (outer.length+t) (E.at (outer.length+t)).s _:=hso;rw[hs] at hso;obtain⟨vs,h1,h2⟩:=hso;cases vs with
    |cons=>exact h2.elim
    |nil=>
     have:∀b,a.tmps[t]? ≠some (.bool b):=by
      intro b hq;simp only[Act.eval] at h1;rw[Array.getD_eq_getD_getElem?,hq] at h1;cases h1
     cases hq:a.tmps[t]? with
     |none=>simpa using hg
     |some u=>
      cases u<;>first|(exact absurd hq (this _))|(simpa using hg)
   ·cases hg
theorem zwd {rc:Rc}(hok:Ok P cx rc w0 Pr0 M){ops:Array Oper}{Q:Exit->Act->World->Prop}{K:Env->Option R}
 (hK:∀E a w,K E=some r->Sx w0 Pr0 M outer ds E a w->Q .normal a w):∀(l2:List Oper) (i:Nat) (E:Env) (a:Act) (w:World),
 ops.toList.drop i=l2->opsK cx rc outer.length ops.toList l2 E K=some r->Sx w0 Pr0 M outer ds E a w->wpOps P ops Q (List.range' i l2.length) a w
 |[],i,E,a,w,_,hs,hx=>hK E a w hs hx
 |o::os,i,E,a,w,hd,hs,hx=>by
  have hi:ops[i]? =some o:=by
   rw[<-yl2];have:=congrArg (λl=>l[0]?) hd;simpa using this
  have hd':ops.toList.drop (i+1)=os:=by rw[<-List.tail_drop,hd];rfl
  simp only[opsK] at hs;rw[zj2] at hs;simp only[yf0,List.range'_succ];rw[wpOps_cons];unfold wpOp;rw[hi];simp only;cases hg:gd E outer.length ops.toList o with
  |none=>rw[hg] at hs;cases hs
  |some b=>
   rw[hg] at hs;rw[zxg hx hg];cases b with
   |true=>exact .inl (zw2 hok hx hs _ _ λz a' w' h1 hx'=>zwd hok hK os (i+1) _ a' w' hd' h1 hx')
   |false=>exact zwd hok hK os (i+1) _ _ w hd' hs (qb6 o.dst hx)
end
end Go.Dn
end

section
/- Regions whose operations may come in any order: all orders lead to one state. -/
namespace Go.Dn
section
variable {cx : Cx} {E E2 : Env} {off : Nat} {l : List Oper} {R : Type}
def opS (cx:Cx)(rc:Rc)(off:Nat)(l:List Oper)(E:Env)(i:Nat):Option (Env×List Nat×List Nat):=
 match l[i]? with
 |none=>none
 |some o=>
  match gd E off l o with
  |none=>none
  |some true=>(opK cx rc E off o some).map λz=>(putE off o.dst z,readsOf cx E off l o,zde off o z)
  |some false=>some (putE off o.dst (zc5 E),readsOf cx E off l o,zde off o (zc5 E))
def zbp (rc:Rc):Prop:=∀(R:Type) (pl:Plan) (c:Code) (off:Nat) (E:Env) (K:Xt->Env->Option R),rc.run R pl c off E K=(rc.run (Xt×Env) pl c off E (λx E=>some (x,E))).bind λq=>K q.1 q.2
theorem zo1 {o:Oper}{K:SU->Option R}:zdi cx E off o K=(zdi cx E off o some).bind K:=by
 unfold zdi;split
 ·split
  ·exact z7p
  ·exact qz1
 ·unfold znj
  split
  ·rw[zb9];rfl
  ·rfl
 ·unfold zqr
  split
  ·rw[zb9];rfl
  ·rfl
 ·exact z7p
theorem qz2 {o:Oper}{K:SU->Option R}(hl:E.length=E2.length)(h:LocO E E2 off o.op):zdi cx E2 off o K=zdi cx E off o K:=by
 unfold zdi;split
 ·rename_i c hop
  split
  ·exact z9w hl h
  ·rw[hop] at h
   exact q2x hl λx hx=>h x hx
 ·rename_i tid g i hop
  rw[hop] at h;have hi:=zaf (h i (by simp[Op.operands]));unfold znj;rw[hi.1,rd_r hi.2]
 ·rfl
 ·exact z9w hl h
theorem q2y {rc:Rc}(hn:zbp rc){f:Func}{pl:Plan}{caps:List Al}{xs:List Operand}{K:Zv->Option R}:inlK rc E off f pl caps xs K=(inlK rc E off f pl caps xs some).bind K:=by
 unfold inlK;cases f.body with
 |none=>rfl
 |some c=>
  simp only;rw[hn R];rw[hn Zv];rw[Option.bind_assoc];congr 1;funext q;obtain⟨x,E2⟩:=q;cases x with
  |exit id=>rfl
  |normal=>
   simp only;cases retI E.length E2 f.results.toList with
   |none=>rfl
   |some q=>
    simp only;rw[zb9];rfl
  |ret=>
   simp only;cases retI E.length E2 f.results.toList with
   |none=>rfl
   |some q=>
    simp only;rw[zb9];rfl
theorem q5g {rc:Rc}(hn:zbp rc){f:Func}{pl:Plan}{caps:List Al}{xs:List Operand}{z:Zv}(h:inlK rc E off f pl caps xs some=some z):z.w=List.range E.length/\z.e.length=E.length:=by
 unfold inlK at h;cases hb:f.body with
 |none=>rw[hb] at h;cases h
 |some c=>
  rw[hb] at h;simp only at h;rw[hn Zv,yo2] at h;obtain⟨⟨x,E2⟩,_,h⟩:=h
  have fin:∀(s:Slot) (E3:Env),(bif E.length==((za4 (List.range E.length) E3).take E.length).length then some (⟨s,(za4 (List.range E.length) E3).take E.length,List.range E.length⟩:Zv) else none)=some z->z.w=List.range E.length/\z.e.length=E.length:=by
   intro s E3 h;cases hc:E.length==((za4 (List.range E.length) E3).take E.length).length with
   |false=>rw[hc] at h;cases h
   |true=>
    rw[hc] at h;obtain rfl:=yl0 h;exact⟨rfl,(by simpa using hc:_=_).symm⟩
  cases x with
  |exit id=>cases h
  |normal=>
   simp only at h;split at h
   ·exact fin _ _ h
   ·cases h
  |ret=>
   simp only at h;split at h
   ·exact fin _ _ h
   ·cases h
theorem zmy {rc:Rc}(hn:zbp rc){o:Oper}{K:Zv->Option R}:opK cx rc E off o K=(opK cx rc E off o some).bind K:=by
 unfold opK;split
 ·exact q2y hn
 ·rw[zo1,zo1 (K:=λz=>some (⟨z.1,appU E z.2,z.2.map U.ix⟩:Zv)),Option.bind_assoc]
  rfl
def Agr (E E2:Env)(ks:List Nat):Prop:=∀k∈ks,E.at k=E2.at k
theorem z5x {o:Oper}(h:Agr E E2 (readsOf cx E off l o)):gd E2 off l o=gd E off l o:=by
 unfold gd;cases hg:o.guard with
 |none=>rfl
 |some q=>
  obtain⟨g,want⟩:=q;simp only;cases ht:(l[g]?).bind (·.dst) with
  |none=>rfl
  |some t=>
   simp only
   have:E.at (off+t)=E2.at (off+t):=h _ (by
    unfold readsOf zw1;rw[hg];simp only[ya0];rw[ht];simp)
   rw[this]
theorem qaa {o:Oper}(h:LocO E E2 off o.op):zc4 cx E2 off o=zc4 cx E off o:=by
 unfold zc4;split
 ·rename_i c hop
  split
  ·rename_i fo hc
   rw[hop] at h;have hf:=zaf (h fo (by simp[Op.operands,Call.operands,hc]));rw[hf.1]
  ·rfl
 ·rfl
theorem qab {o:Oper}(hl:E.length=E2.length)(h:Agr E E2 (readsOf cx E off l o)):LocO E E2 off o.op/\readsOf cx E2 off l o=readsOf cx E off l o/\(zc4 cx E off o≠none->∀k,E.at k=E2.at k):=by
 have hR:∀k∈opR E off o.op,E.at k=E2.at k:=λk hk=>h k (by
  unfold readsOf;exact yq0 _ (yv0 _ hk))
 have hloc:LocO E E2 off o.op:=by
  generalize o.op=q at hR;unfold LocO;split
  ·exact hR _ (yk0 ..)
  ·trivial
  ·rename_i hne1 hne2
   intro x hm
   have e:opR E off q=q.operands.toList.flatMap (rdX E off):=by
    unfold opR;split
    ·exact absurd rfl (hne1 _)
    ·rename_i y _;exact absurd rfl (hne2 y)
    ·rfl
   rw[e] at hR;cases x with
   |tmp t=>
    have:=λk hk=>hR k (List.mem_flatMap.2 ⟨_,hm,hk⟩);simp only[rdX,yg1,forall_eq_or_imp] at this;exact this
   |_=>trivial
 refine⟨hloc,?_,λhi k=> ?_⟩
 ·unfold readsOf
  congr 1;rw[qaa hloc,hl];congr 1;clear hloc;generalize o.op=q at hR;unfold opR at hR ⊢;split
  ·rfl
  ·rfl
  ·rename_i hne1 hne2
   have hx:∀x∈q.operands.toList,∀k∈rdX E off x,E.at k=E2.at k:=by
    intro x hx k hk;refine hR k ?_;split
    ·exact absurd rfl (hne1 _)
    ·rename_i y _;exact absurd rfl (hne2 y)
    ·exact List.mem_flatMap.2 ⟨x,hx,hk⟩
   have key:∀xs:List Operand,(∀x∈xs,x∈q.operands.toList)->xs.flatMap (rdX E2 off)=xs.flatMap (rdX E off):=by
    intro xs
    induction xs with
    |nil=>intro _;rfl
    |cons x xs ih=>
     intro hs;simp only[yv1];rw[ih λy hy=>hs y (yg0 _ hy)];congr 1;have:=hx x (hs x (yk0 ..));cases x with
     |tmp t=>simp only[rdX] at this ⊢;rw[this _ (yk0 ..)]
     |_=>rfl
   exact key _ λ_ h=>h
 ·by_cases hk:k<E.length
  ·refine h k ?_
   unfold readsOf;refine yq0 _ (yq0 _ ?_);cases hq:zc4 cx E off o with
   |none=>exact absurd hq hi
   |some q=>exact List.mem_range.2 hk
  ·unfold Env.at
   rw[yg2,yg2,yh2 (by omega),yh2 (by omega)]
theorem zkn (hl:E.length=E2.length)(h:∀k,E.at k=E2.at k):E=E2:=by
 apply List.ext_getElem hl;intro i h1 h2;have:=h i
 rwa [jq (yt1 h1),jq (yt1 h2)] at this
theorem q7i {rc:Rc}(hn:zbp rc){o:Oper}{z:Zv}(hl:E.length=E2.length)(h:opK cx rc E off o some=some z)(hr:Agr E E2 (readsOf cx E off l o))(hw:Agr E E2 z.w):
 ∃e12,opK cx rc E2 off o some=some ⟨z.s,e12,z.w⟩/\e12.length=E2.length/\z.e.length=E.length/\(∀k∈z.w,e12.at k=z.e.at k)/\(∀k,k∉z.w->e12.at k=E2.at k/\z.e.at k=E.at k):=by
 obtain⟨h1,h2,h3⟩:=qab hl hr;unfold opK at h;split at h
 ·rename_i q hq
  have:E=E2:=zkn hl (h3 (by rw[hq];simp));subst this;obtain⟨k1,k2⟩:=q5g hn h;refine⟨z.e,?_,k2,k2,λ_ _=>rfl,λk hk=> ?_⟩
  ·unfold opK
   rw[hq];exact h
  ·rw[k1,List.mem_range] at hk
   have:z.e.at k=E.at k:=by
    unfold Env.at;rw[yg2,yg2,yh2 (by omega),yh2 (by omega)]
   exact⟨this,this⟩
 ·rename_i hq
  rw[zo1,yo2] at h;obtain⟨su,hsu,h⟩:=h;obtain rfl:=yl0 h;refine⟨appU E2 su.2,?_,zfb _ _,zfb _ _,λk hk=>(qdo hl (hw k hk)).symm,λk hk=> ?_⟩
  ·unfold opK
   rw[qaa h1,hq];simp only;rw[qz2 hl h1,zo1,hsu];rfl
  ·have:∀u∈su.2,k≠u.ix:=λu hu e=>hk (List.mem_map.2 ⟨u,hu,e.symm⟩)
   exact⟨zwb this,zwb this⟩
theorem qb7 {dst:Option Tmp}{z:Zv}:(putE off dst z).length=z.e.length:=by
 cases dst<;>simp[putE,zaq]
theorem qdr {o:Oper}{z:Zv}{k:Nat}(h:k∉zde off o z):(putE off o.dst z).at k=z.e.at k:=by
 unfold zde at h;rw[yu0,not_or] at h;cases hd:o.dst with
 |none=>rfl
 |some d=>
  rw[hd] at h;simp only[putE,zaq,at_set];rw[yw0 (λq=>h.1 (by simp[q.1]))]
theorem q7j {dst:Option Tmp}{s:Slot}{e e2:Env}{w:List Nat}{k:Nat}(hl:e.length=e2.length)(h:e.at k=e2.at k):(putE off dst ⟨s,e,w⟩).at k=(putE off dst ⟨s,e2,w⟩).at k:=by
 cases dst with
 |none=>exact h
 |some d=>
  simp only[putE,zaq,at_set,hl];split
  ·rename_i q
   rw[<-q.1,h]
  ·exact h
variable {rc : Rc}
theorem zwe (hn:zbp rc){i:Nat}{E1:Env}{rr ww:List Nat}(hl:E.length=E2.length)(h:opS cx rc off l E i=some (E1,rr,ww))(hr:Agr E E2 rr)(hw:Agr E E2 ww):
 ∃E21,opS cx rc off l E2 i=some (E21,rr,ww)/\E21.length=E2.length/\E1.length=E.length/\(∀k∈ww,E21.at k=E1.at k)/\(∀k,k∉ww->E21.at k=E2.at k/\E1.at k=E.at k):=by
 unfold opS at h;split at h
 ·cases h
 ·rename_i o ho
  have main:∀(z:Zv) (e12:Env),E1=putE off o.dst z->rr=readsOf cx E off l o->ww=zde off o z->e12.length=E2.length->z.e.length=E.length->(∀k∈ww,e12.at k=z.e.at k)->(∀k,k∉ww->e12.at k=E2.at k/\z.e.at k=E.at k)->
   (putE off o.dst ⟨z.s,e12,z.w⟩).length=E2.length/\E1.length=E.length/\(∀k∈ww,(putE off o.dst ⟨z.s,e12,z.w⟩).at k=E1.at k)/\(∀k,k∉ww->(putE off o.dst ⟨z.s,e12,z.w⟩).at k=E2.at k/\E1.at k=E.at k):=by
   rintro z e12 rfl rfl rfl g1 g2 g3 g4;refine⟨by rw[qb7];exact g1,by rw[qb7];exact g2,λk hk=>(q7j (by omega) (g3 k hk)),λk hk=>⟨?_,?_⟩⟩
   ·rw[qdr (z:=⟨z.s,e12,z.w⟩) hk];exact(g4 k hk).1
   ·rw[qdr hk];exact(g4 k hk).2
  obtain⟨_,hrd,_⟩:True/\(Agr E E2 (readsOf cx E off l o)->readsOf cx E2 off l o=readsOf cx E off l o)/\True:=⟨trivial,λq=>(qab hl q).2.1,trivial⟩;split at h
  ·cases h
  ·rename_i hg
   rw[yk2] at h;obtain⟨z,hz,he⟩:=h;simp only[ya1] at he;obtain⟨rfl,rfl,rfl⟩:=he;have hwz:Agr E E2 z.w:=λk hk=>hw k (by unfold zde;exact yq0 _ hk);obtain⟨e12,k1,k2,k3,k4,k5⟩:=q7i hn hl hz hr hwz;refine⟨putE off o.dst ⟨z.s,e12,z.w⟩,?_,main z e12 rfl rfl rfl k2 k3 (λk hk=> ?_) (λk hk=>k5 k λq=>hk (by unfold zde;exact yq0 _ q))⟩
   ·unfold opS
    rw[ho];simp only;rw[z5x hr,hg];simp only;rw[k1,hrd hr];rfl
   ·by_cases hkz:k∈z.w
    ·exact k4 k hkz
    ·rw[(k5 k hkz).1,(k5 k hkz).2,hw k hk]
  ·rename_i hg
   simp only[yn0,ya1] at h;obtain⟨rfl,rfl,rfl⟩:=h;refine⟨putE off o.dst (zc5 E2),?_,main (zc5 E) E2 rfl rfl rfl rfl rfl (λk hk=>(hw k hk).symm) (λk hk=>⟨rfl,rfl⟩)⟩;unfold opS;rw[ho];simp only;rw[z5x hr,hg,hrd hr];rfl
theorem qac (hn:zbp rc){i:Nat}{E1:Env}{rr ww:List Nat}(h:opS cx rc off l E i=some (E1,rr,ww)):E1.length=E.length/\∀k,k∉ww->E1.at k=E.at k:=by
 obtain⟨E21,h1,h2,h3,h4,h5⟩:=zwe hn (E2:=E) rfl h (λ_ _=>rfl) (λ_ _=>rfl);exact⟨h3,λk hk=>(h5 k hk).2⟩
theorem zvn:∀{l:List Nat} {k:Nat},memN l k=true↔k∈l
 |[],k=>by simp[memN]
 |j::l,k=>by
  simp only[memN,yg1];cases h:j==k with
  |true=>have:j=k:=by simpa using h
         simp[this]
  |false=>
   have:¬(k=j):=λe=>by simp[e] at h
   simp[this,zvn (l:=l)]
theorem q3a {a b:List Nat}:znt a b=true↔∀k∈a,k∉b:=by
 simp only[znt,ys2,yj1];constructor
 ·intro h k hk hb
  have:=h k hk;rw[zvn.2 hb] at this;cases this
 ·intro h k hk
  cases hm:memN b k with
  |false=>rfl
  |true=>exact absurd (zvn.1 hm) (h k hk)
def zb4 (cx:Cx)(rc:Rc)(off:Nat)(l:List Oper)(E:Env)(f:Ft)(E1:Env):Prop:=opS cx rc off l E f.i=some (E1,f.r,f.w)
def extS (E:Env)(off t a d:Nat):Option (Env×List Nat×List Nat):=
 match (E.at (off+t)).s with
 | .tup q=>
   match q[a]? with
   |some v=>bif v.t.isUnit then none else bif owns v.t v.o then some (zaq (U.app E (.cont (off+t) (.tup (q.set a ⟨.unit,.b,()⟩)))) (off+d) (.val v.t v.o v.x),[off+t],[off+d,off+t]) else some (zaq E (off+d) (.val v.t .b v.x),[off+t],[off+d])
   |none=>none
 |_=>none
theorem zqs {i t a d:Nat}{o:Oper}(ho:l[i]? =some o)(hx:zrm o=some (t,a,d)):opS cx rc off l E i=extS E off t a d:=by
 unfold zrm at hx;split at hx
 ·rename_i t' a' d' h1 h2 h3
  simp only[yn0,ya1] at hx;obtain⟨rfl,rfl,rfl⟩:=hx;have hg:gd E off l o=some true:=by unfold gd;rw[h3]
  have hin:zc4 cx E off o=none:=by unfold zc4;rw[h1]
  have hp:∀{R:Type} (K:SU->Option R),zdi cx E off o K=zc3 cx E off o K:=λK=>by unfold zdi;rw[h1]
  have hr:∀q,(E.at (off+t')).s=.tup q->readsOf cx E off l o=[off+t']:=λq hq=>by
   unfold readsOf zw1 opR;rw[h3,hin,h1];simp[Op.operands,rdX,hq,za1]
  unfold opS;rw[ho];simp only[hg];unfold opK;rw[hin];simp only[hp];unfold zc3 extS;rw[h1];simp only[opd];cases hq:(E.at (off+t')).s with
  |tup q=>
   simp only;cases hv:q[a']? with
   |none=>rfl
   |some v=>
    simp only;cases v.t.isUnit
    ·rw[yd0,yd0]
     cases owns v.t v.o
     ·rw[yd0,yd0,Option.map_some,hr q hq]
      simp[zde,putE,appU,h2]
     ·rw[yb0,yb0,Option.map_some,hr q hq]
      simp[zde,putE,appU,h2,U.ix]
    ·rfl
  |_=>rfl
 ·cases hx
theorem zjn (E:Env)(k j:Nat)(s:Slot):(U.app E (.cont k s)).at j=if j=k/\k<E.length then⟨(E.at k).iv,(E.at k).cv+1,s⟩ else E.at j:=at_set E k j _
theorem zd6 (E:Env)(k j:Nat)(s:Slot):(zaq E k s).at j=if j=k/\k<E.length then⟨(E.at k).iv+1,0,s⟩ else E.at j:=at_set E k j _
theorem zgd (E:Env)(k:Nat)(s:Slot):(zaq E k s).length=E.length:=by unfold zaq;simp
theorem zkj (E:Env)(k:Nat)(s:Slot):(U.app E (.cont k s)).length=E.length:=by simp[U.app]
theorem q9q {E:Env}{k:Nat}{q:List TV}(h:(E.at k).s=.tup q):k<E.length:=by
 by_cases hk:k<E.length
 ·exact hk
 ·unfold Env.at at h
  rw[yg2,yh2 (by omega)] at h;cases h
theorem q5h {off t a d b d':Nat}{E E1 E3:Env}{r1 w1 r2 w2:List Nat}(hab:a≠b)(hd:d≠d')(h1:d≠t)(h2:d'≠t)(hj:extS E off t a d=some (E1,r1,w1))(hf:extS E1 off t b d'=some (E3,r2,w2)):
 ∃E1',extS E off t b d'=some (E1',r2,w2)/\extS E1' off t a d=some (E3,r1,w1):=by
 unfold extS at hj;split at hj
 ·rename_i q hq
  have hlt:=q9q hq;split at hj
  ·rename_i v hv
   cases hu:v.t.isUnit with
   |true=>rw[hu] at hj;cases hj
   |false=>
    rw[hu,yd0] at hj;cases ho:owns v.t v.o with
    |false=>
     rw[ho,yd0] at hj;simp only[yn0,ya1] at hj;obtain⟨rfl,rfl,rfl⟩:=hj;have hq1:((zaq E (off+d) (.val v.t .b v.x)).at (off+t)).s=.tup q:=by rw[zd6,yw0 (by omega)];exact hq
     unfold extS at hf;rw[hq1] at hf;simp only at hf;split at hf
     ·rename_i v2 hv2
      cases hu2:v2.t.isUnit with
      |true=>rw[hu2] at hf;cases hf
      |false=>
       rw[hu2,yd0] at hf;cases ho2:owns v2.t v2.o with
       |false=>
        rw[ho2,yd0] at hf;simp only[yn0,ya1] at hf;obtain⟨rfl,rfl,rfl⟩:=hf;refine⟨zaq E (off+d') (.val v2.t .b v2.x),?_,?_⟩
        ·unfold extS;rw[hq];simp only[hv2,hu2,yd0,ho2]
        ·unfold extS
         rw[zd6,yw0 (by omega),hq];simp only[hv,hu,yd0,ho,yn0,ya1,and_true];refine zkn (by simp only[zgd]) λk=> ?_;simp only[zd6,zgd];by_cases e1:k=off+d
         ·subst e1;simp[show ¬(d=d') from hd]
         ·by_cases e2:k=off+d'
          ·subst e2;simp[show ¬(d'=d) from λh=>hd h.symm]
          ·simp[e1,e2]
       |true=>
        rw[ho2,yb0] at hf;simp only[yn0,ya1] at hf;obtain⟨rfl,rfl,rfl⟩:=hf;refine⟨zaq (U.app E (.cont (off+t) (.tup (q.set b ⟨.unit,.b,()⟩)))) (off+d') (.val v2.t v2.o v2.x),?_,?_⟩
        ·unfold extS;rw[hq];simp only[hv2,hu2,yd0,ho2,yb0]
        ·unfold extS
         rw[zd6,yw0 (by omega),zjn,yx0 ⟨rfl,hlt⟩];simp only[yj2 (Ne.symm hab),hv,hu,yd0,ho,yn0,ya1,and_true];refine zkn (by simp only[zgd,zkj]) λk=> ?_;simp only[zd6,zgd,zjn,zkj];by_cases e0:k=off+t
         ·subst e0;simp[show ¬(t=d) from Ne.symm h1,show ¬(t=d') from Ne.symm h2,hlt]
         ·by_cases e1:k=off+d
          ·subst e1;simp[show ¬(d=d') from hd,h1]
          ·by_cases e2:k=off+d'
           ·subst e2;simp[show ¬(d'=d) from λh=>hd h.symm,h2]
           ·simp[e0,e1,e2]
     ·cases hf
    |true=>
     rw[ho,yb0] at hj;simp only[yn0,ya1] at hj;obtain⟨rfl,rfl,rfl⟩:=hj
     have hq1:((zaq (U.app E (.cont (off+t) (.tup (q.set a ⟨.unit,.b,()⟩)))) (off+d) (.val v.t v.o v.x)).at (off+t)).s=.tup (q.set a ⟨.unit,.b,()⟩):=by
      rw[zd6,yw0 (by omega),zjn,yx0 ⟨rfl,hlt⟩]
     unfold extS at hf;rw[hq1] at hf;simp only[yj2 hab] at hf;split at hf
     ·rename_i v2 hv2
      cases hu2:v2.t.isUnit with
      |true=>rw[hu2] at hf;cases hf
      |false=>
       rw[hu2,yd0] at hf;cases ho2:owns v2.t v2.o with
       |false=>
        rw[ho2,yd0] at hf;simp only[yn0,ya1] at hf;obtain⟨rfl,rfl,rfl⟩:=hf;refine⟨zaq E (off+d') (.val v2.t .b v2.x),?_,?_⟩
        ·unfold extS;rw[hq];simp only[hv2,hu2,yd0,ho2]
        ·unfold extS
         rw[zd6,yw0 (by omega),hq];simp only[hv,hu,yd0,ho,yb0,yn0,ya1,and_true];refine zkn (by simp only[zgd,zkj]) λk=> ?_;simp only[zd6,zgd,zjn,zkj];by_cases e0:k=off+t
         ·subst e0;simp[show ¬(t=d) from Ne.symm h1,show ¬(t=d') from Ne.symm h2,hlt]
         ·by_cases e1:k=off+d
          ·subst e1;simp[show ¬(d=d') from hd,h1]
          ·by_cases e2:k=off+d'
           ·subst e2;simp[show ¬(d'=d) from λh=>hd h.symm,h2]
           ·simp[e0,e1,e2]
       |true=>
        rw[ho2,yb0] at hf;simp only[yn0,ya1] at hf;obtain⟨rfl,rfl,rfl⟩:=hf;refine⟨zaq (U.app E (.cont (off+t) (.tup (q.set b ⟨.unit,.b,()⟩)))) (off+d') (.val v2.t v2.o v2.x),?_,?_⟩
        ·unfold extS;rw[hq];simp only[hv2,hu2,yd0,ho2,yb0]
        ·unfold extS
         rw[zd6,yw0 (by omega),zjn,yx0 ⟨rfl,hlt⟩];simp only[yj2 (Ne.symm hab),hv,hu,yd0,ho,yb0,yn0,ya1,and_true];refine zkn (by simp only[zgd,zkj]) λk=> ?_;simp only[zd6,zgd,zjn,zkj];by_cases e0:k=off+t
         ·subst e0;simp[show ¬(t=d) from Ne.symm h1,show ¬(t=d') from Ne.symm h2,hlt,List.set_comm _ _ hab]
         ·by_cases e1:k=off+d
          ·subst e1;simp[show ¬(d=d') from hd,h1]
          ·by_cases e2:k=off+d'
           ·subst e2;simp[show ¬(d'=d) from λh=>hd h.symm,h2]
           ·simp[e0,e1,e2]
     ·cases hf
  ·cases hj
 ·cases hj
theorem q5i {j f:Ft}{E1 E3:Env}(hj:zb4 cx rc off l E j E1)(hf:zb4 cx rc off l E1 f E3)(hi:zxf l j.i f.i=true):
 ∃E1',zb4 cx rc off l E f E1'/\zb4 cx rc off l E1' j E3:=by
 unfold zxf at hi;split at hi
 ·rename_i t a d t' b d' hx hy
  simp only[yh0,yy0,bne_iff_ne] at hi;obtain⟨rfl,hab,hdd,h1,h2⟩:=hi;obtain⟨o,ho,hxo⟩:=yo2.1 hx;obtain⟨p,hp,hyp⟩:=yo2.1 hy;unfold zb4 at hj hf ⊢;rw[zqs ho hxo] at hj;rw[zqs hp hyp] at hf;obtain⟨E1',g1,g2⟩:=q5h hab hdd h1 h2 hj hf;exact⟨E1',by rw[zqs hp hyp];exact g1,by rw[zqs ho hxo];exact g2⟩
 ·cases hi
theorem qz3 (hn:zbp rc){j f:Ft}{E1 E3:Env}(hj:zb4 cx rc off l E j E1)(hf:zb4 cx rc off l E1 f E3)(hi:indep l j f=true):
 ∃E1',zb4 cx rc off l E f E1'/\zb4 cx rc off l E1' j E3:=by
 unfold indep at hi;rw[yq1] at hi;rcases hi with hi|hi
 case inr=>exact q5i hj hf hi
 simp only[yh0,q3a] at hi;obtain⟨i1,i2,i3⟩:=hi;obtain⟨lj,fj⟩:=qac hn hj;obtain⟨lf,ff⟩:=qac hn hf;have a1:Agr E1 E f.r:=λk hk=>fj k λhw=>i1 k hw hk;have a2:Agr E1 E f.w:=λk hk=>fj k λhw=>i2 k hw hk;obtain⟨E1',g1,g2,g3,g4,g5⟩:=zwe hn lj hf a1 a2;have b1:Agr E E1' j.r:=λk hk=>((g5 k λhw=>i3 k hw hk).1).symm;have b2:Agr E E1' j.w:=λk hk=>((g5 k λhw=>i2 k hk hw).1).symm;obtain⟨E3',k1,k2,k3,k4,k5⟩:=zwe hn g2.symm hj b1 b2
 have:E3'=E3:=by
  refine zkn (by omega) λk=> ?_;by_cases hk:k∈j.w
  ·rw[k4 k hk,ff k (i2 k hk)]
  ·rw[(k5 k hk).1]
   by_cases hk2:k∈f.w
   ·rw[g4 k hk2]
   ·rw[(g5 k hk2).1,ff k hk2,fj k hk]
 exact⟨E1',g1,by rw[<-this];exact k1⟩
def Run (cx:Cx)(rc:Rc)(off:Nat)(l:List Oper):Env->List Ft->Env->Prop
 |E,[],E'=>E=E'
 |E,f::fs,E'=>∃E1,zb4 cx rc off l E f E1/\Run cx rc off l E1 fs E'
theorem bubble (hn:zbp rc):∀{js:List Ft} {E E':Env} {f:Ft} {ks:List Ft},(∀j∈js,indep l j f=true)->Run cx rc off l E (js++f::ks) E'->Run cx rc off l E (f::(js++ks)) E'
 |[],_,_,_,_,_,h=>h
 |j::js,E,E',f,ks,hi,h=>by
  obtain⟨E1,h1,h2⟩:=h;obtain⟨E2,h3,h4⟩:=bubble hn (js:=js) (λj hj=>hi j (yg0 _ hj)) h2;obtain⟨E1',h5,h6⟩:=qz3 hn h1 h3 (hi j (yk0 ..));exact⟨E1',h5,E2,h6,h4⟩
def zgu (l:List Oper):List Ft->Prop
 |[]=>True
 |f::fs=>(∀p,f.anc.testBit p=true->∃o e,l[f.i]? =some o/\e∈o.after.toList/\Region.binds .any e=true/\(p=e.on\/∃g∈fs,g.i=e.on/\g.anc.testBit p=true))/\zgu l fs
theorem qad:∀{fs:List Ft} {i p:Nat},(zns fs i).testBit p=true->∃g∈fs,g.i=i/\g.anc.testBit p=true
 |[],_,_,h=>by simp[zns] at h
 |f::fs,i,p,h=>by
  simp only[zns] at h;cases hq:f.i==i with
  |true=>rw[hq] at h;exact⟨f,yk0 ..,by simpa using hq,h⟩
  |false=>
   rw[hq] at h;obtain⟨g,h1,h2⟩:=qad (fs:=fs) h;exact⟨g,yg0 _ h1,h2⟩
theorem zvo {fs:List Ft}:∀{es:List Edge} {p:Nat},(ancL fs es).testBit p=true->∃e∈es,Region.binds .any e=true/\(p=e.on\/∃g∈fs,g.i=e.on/\g.anc.testBit p=true)
 |[],p,h=>by simp[ancL] at h
 |e::es,p,h=>by
  simp only[ancL] at h;cases hb:Region.binds .any e with
  |false=>
   rw[hb] at h;obtain⟨e',h1,h2⟩:=zvo (es:=es) h;exact⟨e',yg0 _ h1,h2⟩
  |true=>
   rw[hb] at h;simp only[yb0,Nat.testBit_or,yq1] at h;rcases h with(h|h)|h
   ·rw[Nat.testBit_two_pow] at h
    exact⟨e,yk0 ..,hb,.inl (by have:=of_decide_eq_true h;exact this.symm)⟩
   ·exact⟨e,yk0 ..,hb,.inr (qad h)⟩
   ·obtain⟨e',h1,h2⟩:=zvo (es:=es) h
    exact⟨e',yg0 _ h1,h2⟩
def Apart (l:List Oper)(g f:Ft):Prop:=indep l g f=true\/f.anc.testBit g.i=true
theorem qb8:∀{fs:List Ft},okD l fs=true->fs.Pairwise (λf g=>Apart l g f)
 |[],_=>List.Pairwise.nil
 |f::fs,h=>by
  simp only[okD,yh0,ys2,yq1] at h;exact List.Pairwise.cons (λg hg=>h.1 g hg) (qb8 h.2)
theorem qb9 (hn:zbp rc){K:Env->Option R}{r:R}:∀(os:List Oper) (i:Nat) (E:Env) (fs:List Ft),l.drop i=os->zgu l fs->opsD cx rc off l os i E fs K=some r->
 ∃gs E',Run cx rc off l E gs E'/\K E'=some r/\okD l (gs.reverse++fs)=true/\zgu l (gs.reverse++fs)/\gs.map (·.i)=List.range' i os.length
 |[],i,E,fs,_,ha,h=>by
  simp only[opsD] at h;cases hk:okD l fs<;>rw[hk] at h
  ·cases h
  ·exact⟨[],E,rfl,h,hk,ha,rfl⟩
 |o::os,i,E,fs,hd,ha,h=>by
  have hi:l[i]? =some o:=by
   have:=congrArg (λl=>l[0]?) hd;simpa using this
  have hd':l.drop (i+1)=os:=by rw[<-List.tail_drop,hd];rfl
  simp only[opsD] at h;rw[zj2] at h
  have hanc:∀rr ww,zgu l (⟨i,rr,ww,ancL fs o.after.toList⟩::fs):=λrr ww=>⟨λp hp=>by
   obtain⟨e,h1,h2⟩:=zvo hp;exact⟨o,e,hi,h1,h2⟩,ha⟩
  have fin:∀(f:Ft) (E1:Env),f.i=i->zb4 cx rc off l E f E1->zgu l (f::fs)->opsD cx rc off l os (i+1) E1 (f::fs) K=some r->
   ∃gs E',Run cx rc off l E gs E'/\K E'=some r/\okD l (gs.reverse++fs)=true/\zgu l (gs.reverse++fs)/\gs.map (·.i)=List.range' i (o::os).length:=by
   intro f E1 hfi hs ha' h';obtain⟨gs,E',k1,k2,k3,k4,k5⟩:=qb9 hn os (i+1) E1 (f::fs) hd' ha' h';refine⟨f::gs,E',⟨E1,hs,k1⟩,k2,?_,?_,?_⟩
   ·simpa using k3
   ·simpa using k4
   ·simp[hfi,k5,List.range'_succ]
  cases hg:gd E off l o with
  |none=>rw[hg] at h;cases h
  |some b=>
   rw[hg] at h;cases b with
   |true=>
    simp only at h;rw[zmy hn,yo2] at h;obtain⟨z,hz,h⟩:=h;refine fin _ _ rfl ?_ (hanc _ _) h;unfold zb4 opS;rw[hi];simp only;rw[hg];simp only;rw[hz];rfl
   |false=>
    simp only at h;refine fin _ _ rfl ?_ (hanc _ _) h;unfold zb4 opS;rw[hi];simp only;rw[hg]
theorem qca:∀{os:List Oper} {i j:Nat} {o:Oper},zk4 os i=true->os[j]? =some o->∀e∈o.after.toList,Region.binds .any e=true->e.on<i+j
 |[],_,_,_,_,h=>by simp at h
 |o::os,i,j,o',hb,h=>by
  simp only[zk4,yh0,ys2] at hb;cases j with
  |zero=>
   simp only[ym2,yn0] at h;subst h;intro e he hbd;have:=hb.1 e he;rw[hbd] at this;simpa using this
  |succ j=>
   simp only[yn2] at h;intro e he hbd;have:=qca hb.2 h e he hbd;omega
def zrn (ops:Array Oper)(listed:Array Bool)(i:Nat):Prop:=∀o,ops[i]? =some o->∀e∈o.after.toList,Region.binds .any e=true->listed.getD e.on false=true
theorem zua {ops:Array Oper}{listed:Array Bool}(hc:∀i,listed.getD i false=true->zrn ops listed i):∀{fs:List Ft},zgu ops.toList fs->∀f∈fs,zrn ops listed f.i->∀p,f.anc.testBit p=true->listed.getD p false=true
 |[],_,_,hf,_,_,_=>by cases hf
 |g::fs,ha,f,hf,he,p,hp=>by
  obtain⟨h1,h2⟩:=ha;cases hf with
  |tail _ hf=>exact zua hc h2 f hf he p hp
  |head=>
   obtain⟨o,e,k1,k2,k3,k4⟩:=h1 p hp;rw[yl2] at k1;have:=he o k1 e k2 k3;rcases k4 with rfl|⟨g2,m1,m2,m3⟩
   ·exact this
   ·exact zua hc h2 g2 m1 (by rw[m2];exact hc _ this) p m3
section
variable {w0 : World} {Pr0 M : Nat → Prop} {outer : List Value} {ds : List Deferred} {P : Program}
theorem q5j (hok:Ok P cx rc w0 Pr0 M){ops:Array Oper}{Q:Exit->Act->World->Prop}{f:Ft}{E1:Env}{a:Act}{w:World}{K:Act->World->Prop}
 (hs:zb4 cx rc outer.length ops.toList E f E1)(hx:Sx w0 Pr0 M outer ds E a w)(hK:∀a w,Sx w0 Pr0 M outer ds E1 a w->K a w):wpOp P ops Q f.i K a w:=by
 unfold zb4 opS at hs;rw[yl2] at hs;unfold wpOp;split at hs
 ·cases hs
 ·rename_i o ho
  rw[ho];simp only;split at hs
  ·cases hs
  ·rename_i hg
   rw[zxg hx hg];rw[yk2] at hs;obtain⟨z,hz,he⟩:=hs;simp only[ya1] at he;refine .inl (zw2 hok hx hz _ _ λz' a' w' h1 hx'=>hK a' w' ?_);obtain rfl:=yl0 h1;rw[<-he.1];exact hx'
  ·rename_i hg
   rw[zxg hx hg];simp only[yn0,ya1] at hs;exact hK _ _ (by rw[<-hs.1];exact qb6 o.dst hx)
theorem qcb {α:Type}{S:α->α->Prop}{js ks:List α}{f:α}(h:(js++f::ks).Pairwise S):(∀j∈js,S j f)/\(js++ks).Pairwise S/\∀k∈ks,S f k:=by
 rw[List.pairwise_append] at h;obtain⟨h1,h2,h3⟩:=h;rw[List.pairwise_cons] at h2;refine⟨λj hj=>h3 j hj f (yk0 ..),?_,h2.1⟩;rw[List.pairwise_append];exact⟨h1,h2.2,λx hx y hy=>h3 x hx y (yg0 _ hy)⟩
theorem anyD (hok:Ok P cx rc w0 Pr0 M)(hn:zbp rc){ops:Array Oper}{Q:Exit->Act->World->Prop}{E':Env}(hQ:∀a w,Sx w0 Pr0 M outer ds E' a w->Q .normal a w)
 (hback:zk4 ops.toList 0=true){g0:List Ft}(hanc:zgu ops.toList g0):
 ∀(fuel:Nat) (gs:List Ft) (listed:Array Bool) (E:Env) (a:Act) (w:World),gs.length<=fuel->Run cx rc outer.length ops.toList E gs E'->gs.Pairwise (Apart ops.toList)->gs.Pairwise (λg f=>g.i<f.i)->(∀f∈gs,f∈g0)->
  (∀i,(∃f∈gs,f.i=i)↔i<ops.size/\listed.getD i true=false)->listed.size=ops.size->(∀i,listed.getD i false=true->zrn ops listed i)->Sx w0 Pr0 M outer ds E a w->wpAny P .any ops Q fuel listed a w:=by
 have rdy:∀(listed:Array Bool) (i:Nat),i∈Region.ready .any ops listed->(i<ops.size/\listed.getD i true=false)/\zrn ops listed i:=by
  intro listed i hi;obtain⟨h0,o,ho,hall⟩:=mem_ready.1 hi;refine⟨⟨(ys1.1 ho).1,h0⟩,λo' ho' e he hb=> ?_⟩;rw[ho] at ho';obtain rfl:=yl0 ho';exact hall e (by simpa using he) hb
 have done:∀(gs:List Ft) (listed:Array Bool) (E:Env) (a:Act) (w:World),Region.ready .any ops listed=[]->Run cx rc outer.length ops.toList E gs E'->gs.Pairwise (λg f=>g.i<f.i)->
  (∀i,(∃f∈gs,f.i=i)↔i<ops.size/\listed.getD i true=false)->listed.size=ops.size->Sx w0 Pr0 M outer ds E a w->Q .normal a w:=by
  intro gs listed E a w hr hrun hsort hiff hsz hx;cases gs with
  |nil=>obtain rfl:=hrun;exact hQ a w hx
  |cons g gs=>
   exfalso;obtain⟨hlt,hun⟩:=(hiff g.i).1 ⟨g,yk0 ..,rfl⟩
   have:g.i∈Region.ready .any ops listed:=by
    refine mem_ready.2 ⟨hun,ops[g.i],Array.getElem?_eq_getElem hlt,λe he hb=> ?_⟩;have hon:=qca hback (j:=g.i) (o:=ops[g.i]) (by rw[yl2];exact Array.getElem?_eq_getElem hlt) e (by simpa using he) hb;have hon':e.on<ops.size:=by omega
    have hnot:¬(listed.getD e.on true=false):=λq=>by
     obtain⟨f,hf,hfi⟩:=(hiff e.on).2 ⟨hon',q⟩;cases hf with
     |head=>omega
     |tail _ hf=>have:=(List.pairwise_cons.1 hsort).1 f hf;omega
    have hl:e.on<listed.size:=by omega
    simp only[Array.getD_eq_getD_getElem?,Array.getElem?_eq_getElem hl,Option.getD_some] at hnot ⊢;simpa using hnot
   rw[hr] at this;cases this
 intro fuel
 induction fuel with
 |zero=>
  intro gs listed E a w hlen hrun hap hsort hmem hiff hsz hcl hx;have:gs=[]:=List.length_eq_zero_iff.1 (by omega);subst this
  have hr:Region.ready .any ops listed=[]:=by
   cases h:Region.ready .any ops listed with
   |nil=>rfl
   |cons i is=>
    obtain⟨f,hf,_⟩:=(hiff i).2 (rdy listed i (by rw[h];exact yk0 ..)).1;cases hf
  exact⟨hr,done [] listed E a w hr hrun hsort hiff hsz hx⟩
 |succ fuel ih=>
  intro gs listed E a w hlen hrun hap hsort hmem hiff hsz hcl hx;refine⟨λhr=>done gs listed E a w hr hrun hsort hiff hsz hx,λi hi=> ?_⟩;obtain⟨hun,hed⟩:=rdy listed i hi;obtain⟨f,hf,rfl⟩:=(hiff i).2 hun;obtain⟨js,ks,rfl⟩:=List.append_of_mem hf;obtain⟨p1,p2,p3⟩:=qcb hap;obtain⟨s1,s2,s3⟩:=qcb hsort
  have hind:∀j∈js,indep ops.toList j f=true:=λj hj=>by
   rcases p1 j hj with h|h
   ·exact h
   ·exfalso
    have hl:=zua hcl hanc f (hmem f hf) hed j.i h;have hu:=((hiff j.i).1 ⟨j,yv0 _ hj,rfl⟩).2;rcases Nat.lt_or_ge j.i listed.size with h'|h'
    ·simp only[Array.getD_eq_getD_getElem?,Array.getElem?_eq_getElem h',Option.getD_some] at hl hu
     rw[hl] at hu;cases hu
    ·simp[Array.getElem?_eq_none h'] at hl
  obtain⟨E1,h1,h2⟩:=bubble hn hind hrun;refine q5j hok h1 hx λa' w' hx'=> ?_;refine ih (js++ks) (listed.setIfInBounds f.i true) E1 a' w' (by simp at hlen ⊢;omega) h2 p2 s2 (λg hg=>hmem g ?_) (λk=> ?_) (by simp[hsz]) (λk hk=> ?_) hx'
  ·rcases yu0.1 hg with hg|hg
   ·exact yv0 _ hg
   ·exact yq0 _ (yg0 _ hg)
  ·have hsplit:(∃g∈js++f::ks,g.i=k)↔((∃g∈js++ks,g.i=k)\/f.i=k):=by
    constructor
    ·rintro⟨g,hg,rfl⟩
     rcases yu0.1 hg with hg|hg
     ·exact .inl ⟨g,yv0 _ hg,rfl⟩
     ·cases hg with
      |head=>exact .inr rfl
      |tail _ hg=>exact .inl ⟨g,yq0 _ hg,rfl⟩
    ·rintro(⟨g,hg,rfl⟩|rfl)
     ·refine⟨g,?_,rfl⟩
      rcases yu0.1 hg with hg|hg
      ·exact yv0 _ hg
      ·exact yq0 _ (yg0 _ hg)
     ·exact⟨f,hf,rfl⟩
   have hne:∀g∈js++ks,g.i≠f.i:=λg hg=>by
    rcases yu0.1 hg with hg|hg
    ·have:=s1 g hg;omega
    ·have:=s3 g hg;omega
   by_cases hk:f.i=k
   ·constructor
    ·rintro⟨g,hg,he⟩;exact absurd (he.trans hk.symm) (hne g hg)
    ·rintro⟨h3,h4⟩
     have hlt:k<listed.size:=by omega
     rw[hk] at h4;simp[hlt] at h4
   ·rw[getD_set_ne true hk]
    have:=hiff k;rw[hsplit] at this;simp only[hk,or_false] at this;exact this
  ·intro o ho e he hb
   by_cases hk2:f.i=k
   ·exact getD_set_true (hed o (by rw[hk2];exact ho) e he hb)
   ·rw[getD_set_ne false hk2] at hk
    exact getD_set_true (hcl k hk o ho e he hb)
theorem z7s (hok:Ok P cx rc w0 Pr0 M)(hn:zbp rc){ops:Array Oper}{draw:Bool}{id:Nat}{Q:Exit->Act->World->Prop}{K:Env->Option R}{r:R}{a:Act}{w:World}
 (hs:zcl cx rc outer.length ops draw E K=some r)(hx:Sx w0 Pr0 M outer ds E a w)(hK:∀E a w,K E=some r->Sx w0 Pr0 M outer ds E a w->Q .normal a w):(Code.region id ops draw).wp P Q a w:=by
 cases draw with
 |false=>
  simp only[zcl] at hs;refine wp_region ?_;rw[List.range_eq_range',show ops.size=ops.toList.length from Array.length_toList.symm];exact zwd hok hK ops.toList 0 E a w rfl hs hx
 |true=>
  simp only[zcl] at hs;cases hb:zk4 ops.toList 0 with
  |false=>rw[hb] at hs;cases hs
  |true=>
   rw[hb] at hs;simp only[yb0] at hs;obtain⟨gs,E',h1,h2,h3,h4,h5⟩:=qb9 hn ops.toList 0 E [] rfl trivial hs;rw[yz0] at h3 h4;refine wp_region_any hok.mix ?_
   have hx':Sx w0 Pr0 M outer ds E a {w with drawn:=w.drawn+1}:=by
    obtain⟨⟨Pr,B,hst,hN⟩,hds⟩:=hx
    exact⟨⟨Pr,B,hst.hand (λ_ _=>rfl) (λk hk b hb=>by rw[hN k hk] at hb;cases hb) (λ_ h=>h) (λ_ h=>.inl h) (λk hk=>by rw[hN k hk];exact List.nodup_nil)
     (λj k hj _ _ b hb=>by rw[hN j hj] at hb;cases hb) (λ_ _ _=>rfl) rfl rfl rfl (ym0 _),hN⟩,hds⟩
   have hlen:gs.length=ops.size:=by
    have:=congrArg List.length h5;simpa using this
   have hmap:∀i,(∃f∈gs,f.i=i)↔i<ops.size:=λi=>by
    have:i∈gs.map (·.i)↔i∈List.range' 0 ops.toList.length:=by rw[h5]
    simpa using this
   refine anyD hok hn (λa w hx=>hK E' a w h2 hx) hb h4 ops.size gs (Array.replicate ops.size false) E a _ (by omega) h1 ?_ ?_ (λf hf=>by simpa using hf) (λi=> ?_) (by simp) (λi hi=> ?_) hx'
   ·have:=qb8 h3
    rw[List.pairwise_reverse] at this;exact this
   ·have:(gs.map (·.i)).Pairwise (· <·):=by rw[h5];exact List.pairwise_lt_range'
    rw[List.pairwise_map] at this;exact this
   ·rw[hmap]
    constructor
    ·intro h;exact⟨h,by simp[h]⟩
    ·exact λh=>h.1
   ·exfalso
    rcases Nat.lt_or_ge i ops.size with h'|h'
    ·simp[h'] at hi
    ·simp[h'] at hi
end
end
end Go.Dn
end

section
/- Code on pure values, and that it tells what the machine does. -/
namespace Go.Dn
set_option linter.constructorNameAsVariable false
def owEq:Ow->Ow->Bool
 | .b,.b=>true
 | .row a,.row b=>owEq a b
 | .pr a b,.pr c d=>owEq a c&&owEq b d
 |_,_=>false
theorem zm9:∀{a b:Ow},owEq a b=true->a=b
 | .b,.b,_=>rfl
 | .row a,.row b,h=>by rw[zm9 (a:=a) (b:=b) h]
 | .pr a b,.pr c d,h=>by
   simp only[owEq,yh0] at h;rw[zm9 h.1,zm9 h.2]
 | .b,.row _,h| .b,.pr _ _,h| .row _,.b,h| .row _,.pr _ _,h| .pr _ _,.b,h| .pr _ _,.row _,h=>by cases h
theorem zo2:∀{p q:List PE},zbz p q=true->p=q
 |[],[],_=>rfl
 | .l::p,.l::q,h=>by rw[zo2 (p:=p) (q:=q) h]
 | .r::p,.r::q,h=>by rw[zo2 (p:=p) (q:=q) h]
 | .ix n::p,.ix m::q,h=>by
   simp only[zbz,yh0,yy0] at h;rw[h.1,zo2 h.2]
 |[],_::_,h=>by simp[zbz] at h
 | .l::_,[],h| .r::_,[],h| .ix _::_,[],h=>by simp[zbz] at h
 | .l::_,.r::_,h| .l::_,.ix _::_,h| .r::_,.l::_,h| .r::_,.ix _::_,h| .ix _::_,.l::_,h| .ix _::_,.r::_,h=>by simp[zbz] at h
def alEq (a b:Al):Bool:=(a.j==b.j)&&(zbz a.p b.p&&((a.iv==b.iv)&&(a.cv==b.cv)))
theorem zqu {a b:Al}(h:alEq a b=true):a=b:=by
 simp only[alEq,yh0,yy0] at h;obtain⟨h1,h2,h3,h4⟩:=h;cases a;cases b;simp only at h1 h2 h3 h4;rw[h1,zo2 h2,h3,h4]
def zi1:List Al->List Al->Bool
 |[],[]=>true
 |a::az,b::bs=>alEq a b&&zi1 az bs
 |_,_=>false
theorem qcd:∀{a b:List Al},zi1 a b=true->a=b
 |[],[],_=>rfl
 |a::az,b::bs,h=>by
  simp only[zi1,yh0] at h;rw[zqu h.1,qcd h.2]
 |[],_::_,h=>by simp[zi1] at h
 |_::_,[],h=>by simp[zi1] at h
def je:(l:List Sh)->List Ent->Option (DS l)
 |[],[]=>some ()
 | .val t o::l,e::es=>
   match e with
   |⟨0,0,.val t' o' x⟩=>bif owEq o' o then(match zac t' t x,je l es with|some y,some d=>some (y,d)|_,_=>none) else none
   |_=>none
 | .var t o::l,e::es=>
   match e with
   |⟨0,0,.var t' o' x⟩=>bif owEq o' o then(match zac t' t x,je l es with|some y,some d=>some (y,d)|_,_=>none) else none
   |_=>none
 | .bad t::l,e::es=>
   match e with
   |⟨0,0,.bad t' x⟩=>(match zac t' t x,je l es with|some y,some d=>some (y,d)|_,_=>none)
   |_=>none
 | .view a t::l,e::es=>
   match e with
   |⟨0,0,.view a' t' x⟩=>bif alEq a' a then(match zac t' t x,je l es with|some y,some d=>some (y,d)|_,_=>none) else none
   |_=>none
 | .none::l,e::es=>
   match e with
   |⟨0,0,.none⟩=>je l es
   |_=>none
 | .undef::l,e::es=>
   match e with
   |⟨0,0,.tup []⟩=>je l es
   |_=>none
 | .sub a::l,e::es=>
   match e with
   |⟨0,0,.sub a'⟩=>bif alEq a' a then je l es else none
   |_=>none
 | .addr a::l,e::es=>
   match e with
   |⟨0,0,.addr a'⟩=>bif alEq a' a then je l es else none
   |_=>none
 | .fn f c::l,e::es=>
   match e with
   |⟨0,0,.fn f' c'⟩=>bif (f'==f)&&zi1 c' c then je l es else none
   |_=>none
 |_,_=>none
theorem zci:∀{l:List Sh} {es:List Ent} {d:DS l},je l es=some d->zav l d=es
 |[],[],_,_=>rfl
 |[],_::_,_,h=>by simp[je] at h
 |s::_,[],_,h=>by cases s<;>simp[je] at h
 | .val t o::l,e::es,d,h=>by
   simp only[je] at h;split at h
   ·rename_i t' o' x
    cases hc:owEq o' o with
    |false=>rw[hc] at h;cases h
    |true=>
     rw[hc] at h;simp only[yb0] at h;split at h
     ·rename_i y d' h1 h2
      obtain rfl:=yl0 h;obtain⟨rfl,rfl⟩:=zas h1;obtain rfl:=zm9 hc;simp only[zav];rw[zci h2]
     ·cases h
   ·cases h
 | .var t o::l,e::es,d,h=>by
   simp only[je] at h;split at h
   ·rename_i t' o' x
    cases hc:owEq o' o with
    |false=>rw[hc] at h;cases h
    |true=>
     rw[hc] at h;simp only[yb0] at h;split at h
     ·rename_i y d' h1 h2
      obtain rfl:=yl0 h;obtain⟨rfl,rfl⟩:=zas h1;obtain rfl:=zm9 hc;simp only[zav];rw[zci h2]
     ·cases h
   ·cases h
 | .bad t::l,e::es,d,h=>by
   simp only[je] at h;split at h
   ·split at h
    ·rename_i y d' h1 h2
     obtain rfl:=yl0 h;obtain⟨rfl,rfl⟩:=zas h1;simp only[zav];rw[zci h2]
    ·cases h
   ·cases h
 | .view a t::l,e::es,d,h=>by
   simp only[je] at h;split at h
   ·rename_i a' t' x
    cases hc:alEq a' a with
    |false=>rw[hc] at h;cases h
    |true=>
     rw[hc] at h;simp only[yb0] at h;split at h
     ·rename_i y d' h1 h2
      obtain rfl:=yl0 h;obtain⟨rfl,rfl⟩:=zas h1;obtain rfl:=zqu hc;simp only[zav];rw[zci h2]
     ·cases h
   ·cases h
 | .none::l,e::es,d,h=>by
   simp only[je] at h;split at h
   ·simp only[zav];rw[zci h]
   ·cases h
 | .undef::l,e::es,d,h=>by
   simp only[je] at h;split at h
   ·simp only[zav];rw[zci h]
   ·cases h
 | .sub a::l,e::es,d,h=>by
   simp only[je] at h;split at h
   ·rename_i a'
    cases hc:alEq a' a with
    |false=>rw[hc] at h;cases h
    |true=>rw[hc] at h;obtain rfl:=zqu hc;simp only[zav];rw[zci h]
   ·cases h
 | .addr a::l,e::es,d,h=>by
   simp only[je] at h;split at h
   ·rename_i a'
    cases hc:alEq a' a with
    |false=>rw[hc] at h;cases h
    |true=>rw[hc] at h;obtain rfl:=zqu hc;simp only[zav];rw[zci h]
   ·cases h
 | .fn f c::l,e::es,d,h=>by
   simp only[je] at h;split at h
   ·rename_i f' c'
    cases hc:(f'==f)&&zi1 c' c with
    |false=>rw[hc] at h;cases h
    |true=>
     rw[hc] at h;rw[yh0,yy0] at hc;obtain⟨rfl,hc⟩:=hc;obtain rfl:=qcd hc;simp only[zav];rw[zci h]
   ·cases h
def Xt.eqb:Xt->Xt->Bool
 | .normal,.normal=>true
 | .exit a,.exit b=>a==b
 | .ret,.ret=>true
 |_,_=>false
theorem Xt.qew {a b:Xt}(h:a.eqb b=true):a=b:=by
 cases a<;>cases b<;>simp[Xt.eqb] at h<;>first|rfl|rw[h]
def inj (off:Nat):(os:List Out)->Xt->Env->Option (Xo os)
 |[],_,_=>none
 |[o],t,E=>bif o.key.eqb t then je o.sh (o.cut.app off E) else none
 |o::o2::os,t,E=>bif o.key.eqb t then(match je o.sh (o.cut.app off E) with|some d=>some (.inl d)|none=>none) else(match inj off (o2::os) t E with|some y=>some (.inr y)|none=>none)
def elim {R:Type}:(os:List Out)->Xo os->(Xt->Env->Option R)->Option R
 |[],_,_=>none
 |[o],d,K=>K o.key (zav o.sh d)
 |o::o2::os,x,K=>match x with| .inl d=>K o.key (zav o.sh d)| .inr y=>elim (o2::os) y K
theorem zqf {off:Nat}{t:Xt}{E:Env}:∀{os:List Out} {x:Xo os},inj off os t E=some x->∃c:Cut,∀(R:Type) (K:Xt->Env->Option R),elim os x K=K t (c.app off E)
 |[],_,h=>by simp[inj] at h
 |[o],x,h=>by
  simp only[inj] at h;cases hk:o.key.eqb t with
  |false=>rw[hk] at h;cases h
  |true=>
   rw[hk] at h;exact⟨o.cut,λR K=>by simp only[elim];rw[Xt.qew hk,zci h]⟩
 |o::o2::os,x,h=>by
  simp only[inj] at h;cases hk:o.key.eqb t with
  |false=>
   rw[hk] at h;simp only[yd0] at h;split at h
   ·rename_i y hy
    obtain rfl:=yl0 h;obtain⟨c,hc⟩:=zqf (os:=o2::os) hy;exact⟨c,λR K=>hc R K⟩
   ·cases h
  |true=>
   rw[hk] at h;simp only[yb0] at h;split at h
   ·rename_i d hd
    obtain rfl:=yl0 h;exact⟨o.cut,λR K=>by simp only[elim];rw[Xt.qew hk,zci hd]⟩
   ·cases h
def zb2:Code->Nat
 | .region id _ _=>id
 | .seq a b=>bif zb2 a==1000000 then zb2 b else zb2 a
 | .cond _ a b=>bif zb2 a==1000000 then zb2 b else zb2 a
 | .block _ c=>zb2 c
 | .loop c=>zb2 c
 |_=>1000000
def znk (off:Nat)(lp:Lp)(t:Xt)(E:Env):Option (DS lp.sh⊕Xo lp.outs):=
 match t with
 | .normal=>match je lp.sh (lp.hd.app off E) with|some d=>some (.inl d)|none=>none
 | .exit id=>match inj off lp.outs (.exit id) E with|some x=>some (.inr x)|none=>none
 | .ret=>match inj off lp.outs .ret E with|some x=>some (.inr x)|none=>none
noncomputable def denK (cx:Cx)(rc:Rc)(pl:Plan)(off:Nat):Code->{R:Type}->Env->(Xt->Env->Option R)->Option R
 | .skip,_,E,K=>K .normal E
 | .label _,_,E,K=>K .normal E
 | .region _ ops draw,_,E,K=>zcl cx rc off ops draw E (K .normal)
 | .seq a b,_,E,K=>
   match lookup pl.seqs (zb2 b) with
   |none=>denK cx rc pl off a E λx E'=>match x with| .normal=>denK cx rc pl off b E' K| .exit id=>K (.exit id) E'| .ret=>K .ret E'
   |some os=>(denK cx rc pl off a (R:=Xo os) E λx E'=>inj off os x E').bind λx=>elim os x λx E'=>match x with| .normal=>denK cx rc pl off b E' K| .exit id=>K (.exit id) E'| .ret=>K .ret E'
 | .cond c a b,_,E,K=>
   match rd E (opd E off c).s with
   |some ⟨.bool,v⟩=>bif v then denK cx rc pl off a E K else denK cx rc pl off b E K
   |_=>none
 | .block id c,_,E,K=>denK cx rc pl off c E λx E'=>match x with| .normal=>K .normal E'| .exit id'=>bif id'==id then K .normal E' else K (.exit id') E'| .ret=>K .ret E'
 | .loop c,_,E,K=>
   match lookup pl.loops (zb2 c) with
   |none=>none
   |some lp=>
    match je lp.sh (lp.hd.app off E) with
    |none=>none
    |some d=>(fix lp.B d).bind λx=>elim lp.outs x K
 | .exit id,_,E,K=>K (.exit id) E
 | .ret,_,E,K=>K .ret E
 |_,_,_,_=>none
def LpOk (cx:Cx)(rc:Rc)(pl:Plan)(off:Nat)(c:Code)(lp:Lp):Prop:=∀d z,lp.B d=some z->denK cx rc pl off c (zav lp.sh d) (znk off lp)=some z
def zcc (cx:Cx)(rc:Rc)(pl:Plan)(off:Nat):Code->Prop
 | .seq a b=>zcc cx rc pl off a/\zcc cx rc pl off b
 | .cond _ a b=>zcc cx rc pl off a/\zcc cx rc pl off b
 | .block _ c=>zcc cx rc pl off c
 | .loop c=>zcc cx rc pl off c/\match lookup pl.loops (zb2 c) with|some lp=>LpOk cx rc pl off c lp|none=>True
 |_=>True
section
variable {w0 : World} {Pr0 M : Nat → Prop} {outer : List Value} {ds : List Deferred}
variable {P : Program} {cx : Cx} {pl : Plan} {rc : Rc}
theorem Sx.cut {E:Env}{a:Act}{w:World}{c:Cut}{off:Nat}(h:Sx w0 Pr0 M outer ds E a w):Sx w0 Pr0 M outer ds (c.app off E) a w:=⟨h.st.cut,h.ds⟩
theorem zqv (hok:Ok P cx rc w0 Pr0 M)(hn:zbp rc):∀(c:Code),zcc cx rc pl outer.length c->∀{R:Type} {r:R} {E:Env} {a:Act} {w:World} {K:Xt->Env->Option R} {Q:Exit->Act->World->Prop},
 denK cx rc pl outer.length c E K=some r->Sx w0 Pr0 M outer ds E a w->(∀x E' a' w',K x E'=some r->Sx w0 Pr0 M outer ds E' a' w'->Q x.to a' w')->c.wp P Q a w:=by
 intro c
 induction c with
 |skip=>intro hlo R r E a w K Q h hx hK;exact wp_skip (hK .normal E a w h hx)
 |label l=>intro hlo R r E a w K Q h hx hK;exact wp_label (hK .normal E a w h hx)
 |exit id=>intro hlo R r E a w K Q h hx hK;exact wp_exit (hK (.exit id) E a w h hx)
 |ret=>intro hlo R r E a w K Q h hx hK;exact wp_ret (hK .ret E a w h hx)
 |goto l=>intro hlo R r E a w K Q h hx hK;cases h
 |refuse s=>intro hlo R r E a w K Q h hx hK;cases h
 |rangeFunc f p a b iha ihb=>intro hlo R r E a w K Q h hx hK;cases h
 |scope c ih=>intro hlo R r E a w K Q h hx hK;cases h
 |region id ops draw=>intro hlo R r E a w K Q h hx hK;exact z7s hok hn h hx λE' a' w' hk hx'=>hK .normal E' a' w' hk hx'
 |seq x y ihx ihy=>
  intro hlo R r E a w K Q h hx hK;simp only[denK] at h;refine wp_seq ?_;split at h
  ·refine ihx hlo.1 h hx λt E' a' w' hk hx'=> ?_
   cases t with
   |normal=>exact ihy hlo.2 hk hx' hK
   |exit id=>exact hK (.exit id) E' a' w' hk hx'
   |ret=>exact hK .ret E' a' w' hk hx'
  ·rename_i os hc
   rw[yo2] at h;obtain⟨q,h1,h2⟩:=h;refine ihx hlo.1 h1 hx λt E' a' w' hk hx'=> ?_;obtain⟨c,hc⟩:=zqf hk;rw[hc] at h2;cases t with
   |normal=>exact ihy hlo.2 h2 hx'.cut hK
   |exit id=>exact hK (.exit id) _ a' w' h2 hx'.cut
   |ret=>exact hK .ret _ a' w' h2 hx'.cut
 |cond c x y ihx ihy=>
  intro hlo R r E a w K Q h hx hK;simp only[denK] at h;split at h
  ·rename_i v hr
   obtain⟨⟨Pr,B,hst,hN⟩,hds⟩:=id hx;have hv:=zm6 hst (qx hst hx.fr c) hr;cases v with
   |true=>exact wp_cond_true hv (ihx hlo.1 h hx hK)
   |false=>exact wp_cond_false hv (ihy hlo.2 h hx hK)
  ·cases h
 |block id c ih=>
  intro hlo R r E a w K Q h hx hK;simp only[denK] at h;refine wp_block (ih hlo h hx λt E' a' w' hk hx'=> ?_);cases t with
  |normal=>exact hK .normal E' a' w' hk hx'
  |ret=>exact hK .ret E' a' w' hk hx'
  |exit id'=>
   simp only[Xt.to,Exit.inBlock];cases hid:id'==id with
   |true=>
    simp only[hid,yb0] at hk;rw[yx0 (by simpa using hid)];exact hK .normal E' a' w' hk hx'
   |false=>
    simp only[hid,yd0] at hk;rw[yw0 (by simpa using hid)];exact hK (.exit id') E' a' w' hk hx'
 |loop c ih=>
  intro hlo R r E a w K Q h hx hK;simp only[denK] at h;split at h
  ·cases h
  ·rename_i lp hl
   obtain⟨hlo1,hlp⟩:=hlo;rw[hl] at hlp;simp only at hlp;split at h
   ·cases h
   ·rename_i d hd
    rw[yo2] at h;obtain⟨q,h1,h2⟩:=h;obtain⟨n,h1⟩:=zoy.1 h1
    have key:∀(n:Nat) (d:DS lp.sh) (a:Act) (w:World),iter lp.B n d=some q->
     Sx w0 Pr0 M outer ds (zav lp.sh d) a w->∀(b:Frame) (k:List Item) (cs:List Frame),∃e a' w',Q e a' w'/\Arrives P (lone (b.at a (.code c::.inLoop c::k)) cs w) b k cs e a' w':=by
     intro n
     induction n with
     |zero=>intro d a w hi;simp[iter] at hi
     |succ n ihn=>
      intro d a w hi hx b k cs;simp only[iter] at hi;cases hb:lp.B d with
      |none=>rw[hb] at hi;cases hi
      |some z=>
       rw[hb] at hi;have hden:=hlp d z hb
       have hwp:c.wp P (Exit.then (λa' w'=>∃d',iter lp.B n d'=some q/\Sx w0 Pr0 M outer ds (zav lp.sh d') a' w') Q) a w:=by
        refine ih hlo1 hden hx λt E' a' w' hk hx'=> ?_;cases t with
        |normal=>
         simp only[znk] at hk;split at hk
         ·rename_i d' hd'
          obtain rfl:=yl0 hk;exact⟨d',hi,by rw[zci hd'];exact hx'.cut⟩
         ·cases hk
        |exit id=>
         simp only[znk] at hk;split at hk
         ·rename_i x hx2
          obtain rfl:=yl0 hk;simp only[yn0] at hi;subst hi;obtain⟨c2,hc2⟩:=zqf hx2;rw[hc2] at h2;exact hK (.exit id) _ a' w' h2 hx'.cut
         ·cases hk
        |ret=>
         simp only[znk] at hk;split at hk
         ·rename_i x hx2
          obtain rfl:=yl0 hk;simp only[yn0] at hi;subst hi;obtain⟨c2,hc2⟩:=zqf hx2;rw[hc2] at h2;exact hK .ret _ a' w' h2 hx'.cut
         ·cases hk
       obtain⟨e,a₁,w₁,hq,harr⟩:=hwp b (.inLoop c::k) cs;cases e with
       |normal=>
        obtain⟨E',h3,h4⟩:=hq;obtain⟨e₂,a₂,w₂,hq₂,harr₂⟩:=ihn E' a₁ w₁ h3 h4 b k cs;exact⟨e₂,a₂,w₂,hq₂,.of_steps (Steps.trans harr (.one step_inLoop)) harr₂⟩
       |exit id=>exact⟨_,a₁,w₁,hq,.pass (x:=.inLoop c) rfl (λ_ _=>.inl (by simp)) harr⟩
       |goto l=>exact⟨_,a₁,w₁,hq,.pass (x:=.inLoop c) rfl (λ_ _=>.inl (by simp)) harr⟩
       |ret=>exact⟨_,a₁,w₁,hq,.pass (x:=.inLoop c) rfl (λ_ _=>.inl (by simp)) harr⟩
       |panic ch=>exact⟨_,a₁,w₁,hq,.pass (x:=.inLoop c) rfl (λ_ _=>.inl (by simp)) harr⟩
       |outgrown=>exact⟨_,a₁,w₁,hq,.pass (x:=.inLoop c) rfl (λ_ _=>.inl (by simp)) harr⟩
    intro b k cs;obtain⟨e,a',w',hq,harr⟩:=key n d a w h1 (by rw[zci hd];exact hx.cut) b k cs;exact⟨e,a',w',hq,.of_steps (.one step_loop) harr⟩
end
section
variable {cx : Cx} {pl : Plan} {rc : Rc} {off : Nat}
theorem zuw (hn:zbp rc){l:List Oper}{R:Type}{K:Env->Option R}:∀{os:List Oper} {E:Env},opsK cx rc off l os E K=(opsK cx rc off l os E some).bind K
 |[],E=>rfl
 |o::os,E=>by
  simp only[opsK];rw[zj2,zj2];cases gd E off l o with
  |none=>rfl
  |some b=>
   cases b with
   |true=>
    simp only;rw[zmy hn,zmy hn (K:=λz=>opsK cx rc off l os (putE off o.dst z) some),Option.bind_assoc];congr 1;funext z;exact zuw hn
   |false=>exact zuw hn
theorem zux (hn:zbp rc){l:List Oper}{R:Type}{K:Env->Option R}:∀{os:List Oper} {i:Nat} {E:Env} {fs:List Ft},opsD cx rc off l os i E fs K=(opsD cx rc off l os i E fs some).bind K
 |[],i,E,fs=>by
  simp only[opsD];rw[zb9];rfl
 |o::os,i,E,fs=>by
  simp only[opsD];rw[zj2,zj2];cases gd E off l o with
  |none=>rfl
  |some b=>
   cases b with
   |true=>
    simp only;rw[zmy hn,zmy hn (K:=λz=>opsD cx rc off l os (i+1) (putE off o.dst z) _ some),Option.bind_assoc];congr 1;funext z;exact zux hn
   |false=>exact zux hn
theorem z4a (hn:zbp rc){R:Type}{K:Env->Option R}{ops:Array Oper}{draw:Bool}{E:Env}:zcl cx rc off ops draw E K=(zcl cx rc off ops draw E some).bind K:=by
 cases draw with
 |false=>exact zuw hn
 |true=>
  simp only[zcl];rw[zb9];congr 1;exact zux hn
theorem zpy {R:Type}:∀{os:List Out} {x:Xo os} {K:Xt->Env->Option R},elim os x K=(elim os x λx E=>some (x,E)).bind λq=>K q.1 q.2
 |[],x,_=>rfl
 |[o],_,_=>rfl
 |o::o2::os,x,K=>by
  cases x with
  |inl d=>rfl
  |inr y=>exact zpy (os:=o2::os) (x:=y)
theorem q3d (hn:zbp rc):∀(c:Code) {R:Type} {E:Env} {K:Xt->Env->Option R},denK cx rc pl off c E K=(denK cx rc pl off c E λx E=>some (x,E)).bind λq=>K q.1 q.2:=by
 intro c
 induction c with
 |skip=>intro R E K;rfl
 |label l=>intro R E K;rfl
 |exit id=>intro R E K;rfl
 |ret=>intro R E K;rfl
 |goto l=>intro R E K;rfl
 |refuse s=>intro R E K;rfl
 |rangeFunc f p a b iha ihb=>intro R E K;rfl
 |scope c ih=>intro R E K;rfl
 |region id ops draw=>
  intro R E K;simp only[denK];rw[z4a hn,z4a hn (K:=λE=>some (Xt.normal,E)),Option.bind_assoc];rfl
 |seq x y ihx ihy=>
  intro R E K;simp only[denK];cases lookup pl.seqs (zb2 y) with
  |none=>
   simp only;rw[ihx,ihx (K:=λx E'=>match x with| .normal=>denK cx rc pl off y E' (λx E=>some (x,E))| .exit id=>some (.exit id,E')| .ret=>some (.ret,E')),Option.bind_assoc];congr 1;funext q;obtain⟨t,E'⟩:=q;cases t with
   |normal=>exact ihy
   |exit id=>rfl
   |ret=>rfl
  |some os=>
   simp only;rw[Option.bind_assoc];congr 1;funext x;rw[zpy (K:=λx E'=>match x with| .normal=>denK cx rc pl off y E' K| .exit id=>K (.exit id) E'| .ret=>K .ret E')];rw[zpy (K:=λx E'=>match x with| .normal=>denK cx rc pl off y E' (λx E=>some (x,E))| .exit id=>some (Xt.exit id,E')| .ret=>some (Xt.ret,E'))];rw[Option.bind_assoc];congr 1;funext q;obtain⟨t,E'⟩:=q;cases t with
   |normal=>exact ihy
   |exit id=>rfl
   |ret=>rfl
 |cond c x y ihx ihy=>
  intro R E K;simp only[denK];split
  ·rw[zb9,ihx,ihy]
  ·rfl
 |block id c ih=>
  intro R E K;simp only[denK];rw[ih,ih (R:=Xt×Env) (K:=λx E'=>match x with| .normal=>some (Xt.normal,E')| .exit id'=>bif id'==id then some (Xt.normal,E') else some (Xt.exit id',E')| .ret=>some (Xt.ret,E')),Option.bind_assoc];congr 1;funext q;obtain⟨t,E'⟩:=q;cases t with
  |normal=>rfl
  |exit id'=>simp only;rw[zb9];rfl
  |ret=>rfl
 |loop c ih=>
  intro R E K;simp only[denK];cases lookup pl.loops (zb2 c) with
  |none=>rfl
  |some lp=>
   simp only;cases je lp.sh (lp.hd.app off E) with
   |none=>rfl
   |some d=>
    simp only;rw[Option.bind_assoc];congr 1;funext x;exact zpy
end
noncomputable def rcN (cx:Cx):Nat->Rc
 |0=>⟨λ_ _ _ _ _ _=>none⟩
 |n+1=>⟨λR pl c off E K=>bif pl.lv==n then(bif pl.off==off then denK cx (rcN cx n) pl off c E K else none) else(rcN cx n).run R pl c off E K⟩
theorem zna (cx:Cx):∀n,zbp (rcN cx n)
 |0=>λ_ _ _ _ _ _=>rfl
 |n+1=>λR pl c off E K=>by
  simp only[rcN];cases pl.lv==n with
  |true=>
   simp only[yb0];rw[zb9];cases pl.off==off with
   |true=>exact q3d (zna cx n) c
   |false=>rfl
  |false=>exact zna cx n R pl c off E K
structure Ok0 (P:Program)(cx:Cx):Prop where
 tab:ji P cx.tab
 arr:zbi P cx
 cts:zk3 P cx
 fns:zwc P cx
 loops:∀k f pl c,InFn cx k (f,pl)->f.body=some c->zcc cx (rcN cx pl.lv) pl pl.off c
 mix:P.follows .mixedOrders=true
theorem zw3 {P:Program}{cx:Cx}(h:Ok0 P cx):∀n,RcOk P cx (rcN cx n)
 |0=>by
  intro w0 Pr0 M outer ds R pl c r E a w K Q _ _ hs;cases hs
 |n+1=>by
  intro w0 Pr0 M outer ds R pl c r E a w K Q hgl hf hs hx hK;simp only[rcN] at hs;cases hl:pl.lv==n with
  |true=>
   rw[hl] at hs;simp only[yb0] at hs;obtain⟨k,f,h1,h2⟩:=hf;have:=h.loops k f pl c h1 h2;cases ho:pl.off==outer.length with
   |false=>rw[ho] at hs;cases hs
   |true=>
    rw[ho] at hs;rw[show pl.lv=n by simpa using hl,show pl.off=outer.length by simpa using ho] at this;exact zqv ⟨h.tab,h.arr,h.cts,h.fns,zw3 h n,h.mix,hgl⟩ (zna cx n) c this hs hx hK
  |false=>
   rw[hl] at hs;exact zw3 h n w0 Pr0 M outer ds R pl c r E a w K Q hgl hf hs hx hK
theorem Ok0.ok {P:Program}{cx:Cx}(h:Ok0 P cx)(n:Nat){w0:World}{Pr0 M:Nat->Prop}(hgl:GlOk cx.gl w0 Pr0 M):Ok P cx (rcN cx n) w0 Pr0 M:=⟨h.tab,h.arr,h.cts,h.fns,zw3 h n,h.mix,hgl⟩
end Go.Dn
end

section
/- Functions: a contract out of the code. -/
namespace Go.Dn
def zco:(ps:List (Mode×Ty))->PVs (ps.map (·.2))->List Ent
 |[],_=>[]
 |(.bor,_)::ps,x=>zco ps x.2
 |(.own,_)::ps,x=>zco ps x.2
 |(.mut,t)::ps,x=>ent (.val t (top t) x.1)::zco ps x.2
 |(.ptr,t)::ps,x=>ent (.var t .b x.1)::zco ps x.2
def parE:(j:Nat)->(ps:List (Mode×Ty))->PVs (ps.map (·.2))->List Ent
 |_,[],_=>[]
 |j,(.bor,t)::ps,x=>ent (.val t .b x.1)::parE j ps x.2
 |j,(.own,t)::ps,x=>ent (.val t (top t) x.1)::parE j ps x.2
 |j,(.mut,_)::ps,x=>ent (.sub ⟨j,[],0,0⟩)::parE (j+1) ps x.2
 |j,(.ptr,_)::ps,x=>ent (.addr ⟨j,[],0,0⟩)::parE (j+1) ps x.2
def outN:List (Mode×Ty)->Nat
 |[]=>0
 |(m,_)::ps=>bif m.back then outN ps+1 else outN ps
def zbj (ps:List (Mode×Ty))(x:PVs (ps.map (·.2)))(n:Nat):Env:=zco ps x++(parE 0 ps x++List.replicate (n -ps.length) (ent .none))
def rvT:ResultVar->Nat
 | .tmp t=>t
 | .cell t _=>t
def wkR (off:Nat):List ResultVar->List (Ty×Ow)->List (Nat×Ow)
 |t::ts,(ty,own)::rs=>bif Ow.eqb own (top ty) then wkR off ts rs else(off+rvT t,own)::wkR off ts rs
 |_,_=>[]
def zxh (cx:Cx)(E:Env)(off:Nat):ResultVar->Option (TV×List U)
 | .tmp t=>take E (opd E off (.tmp t))
 | .cell t tid=>
   match lookup cx.tab tid,(E.at (off+t)).s with
   |some ty,.var t' o x=>bif t'==ty then some (⟨t',o,x⟩,[.new (off+t) .none]) else none
   |_,_=>none
def zi2 (cx:Cx)(off:Nat):Env->List ResultVar->(rs:List (Ty×Ow))->Option (PVs (rs.map (·.1))×Env)
 |E,[],[]=>some ((),E)
 |E,t::ts,(ty,own)::rs=>
  match zxh cx E off t with
  |some (v,us)=>
   match zac v.t ty v.x with
   |some y=>
    bif okO v.t v.o own then
     match zi2 cx off (appU E us) ts rs with
     |some (z,E')=>some ((y,z),E')
     |none=>none
    else none
   |none=>none
  |none=>none
 |_,_,_=>none
def zgk (E:Env):Nat->(ps:List (Mode×Ty))->Option (PVs (backs ps))
 |_,[]=>some ()
 |j,(.bor,_)::ps=>zgk E j ps
 |j,(.own,_)::ps=>zgk E j ps
 |j,(.mut,t)::ps=>
  match (E.at j).s with
  | .val t' o x=>
    match zac t' t x,zgk E (j+1) ps with
    |some y,some r=>bif full t' o then some (y,r) else none
    |_,_=>none
  |_=>none
 |j,(.ptr,t)::ps=>
  match (E.at j).s with
  | .var t' o x=>
    match zac t' t x,zgk E (j+1) ps with
    |some y,some r=>bif !owns t' o then some (y,r) else none
    |_,_=>none
  |_=>none
def zgl (cx:Cx)(off:Nat)(ts:List ResultVar)(ps:List (Mode×Ty))(rs:List (Ty×Ow))(E:Env):Option (PVs (rs.map (·.1))×PVs (backs ps)):=
 match zi2 cx off (wkE (wkR off ts rs) E) ts rs with
 |some (r,E')=>
  match zgk E' 0 ps with
  |some b=>some (r,b)
  |none=>none
 |none=>none
noncomputable def denF (cx:Cx)(dp:Nat)(pl:Plan)(n:Nat)(c:Code)(ts:List ResultVar)(ps:List (Mode×Ty))(rs:List (Ty×Ow))(x:PVs (ps.map (·.2))):Option (PVs (rs.map (·.1))×PVs (backs ps)):=
 denK cx (rcN cx dp) pl (outN ps) c (zbj ps x n) λt E=>
  match t with
  | .normal=>zgl cx (outN ps) ts ps rs E
  | .ret=>zgl cx (outN ps) ts ps rs E
  | .exit _=>none
def za3:List (Mode×Ty)->List Value->List Value
 |(m,_)::ps,v::vs=>bif m.back then v::za3 ps vs else za3 ps vs
 |_,_=>[]
def zcp:List (Mode×Ty)->List (List Nat)->List (List Nat)
 |(m,_)::ps,b::bs=>bif m.back then b::zcp ps bs else zcp ps bs
 |_,_=>[]
def parB:List (Mode×Ty)->List (List Nat)->List (List Nat)
 |(m,_)::ps,b::bs=>(bif m.back then[] else b)::parB ps bs
 |_,_=>[]
section
variable {w : World} {Pr : Nat → Prop}
def zqw (w:World)(Pr:Nat->Prop)(s:Slot)(v:Value)(bs:List Nat):Prop:=(∃t o x,s=.val t o x/\zx w Pr v t o x bs)\/(∃t o x,s=.var t o x/\vg w Pr v t o x bs)
theorem zqw.ok {s:Slot}{v:Value}{bs:List Nat}(h:zqw w Pr s v bs){E:Env}{V:List Value}{B:Nat->List Nat}{k:Nat}(hB:B k=bs):jd w Pr E V B k s v:=by
 subst hB;rcases h with⟨t,o,x,rfl,h⟩|⟨t,o,x,rfl,h⟩
 ·exact h
 ·exact h
theorem zqx:∀{ps:List (Mode×Ty)} {vs:List Value} {x:PVs (ps.map (·.2))} {bss:List (List Nat)},zai w Pr ps vs x bss->
 (zco ps x).length=outN ps/\(za3 ps vs).length=outN ps/\(zcp ps bss).length=outN ps/\vs.length=ps.length/\(parB ps bss).length=ps.length/\∀j,(parE j ps x).length=ps.length
 |[],[],_,[],_=>⟨rfl,rfl,rfl,rfl,rfl,λ_=>rfl⟩
 |(m,t)::ps,v::vs,x,b::bss,h=>by
  obtain⟨i1,i2,i3,i5,i6,i7⟩:=zqx h.2;cases m<;>exact⟨by simp[zco,outN,Mode.back,i1],by simp[za3,outN,Mode.back,i2],by simp[zcp,outN,Mode.back,i3],by simp[i5],by simp[parB,i6],λj=>by simp[parE,i7]⟩
 |[],[],_,_::_,h=>by simp[zai] at h
 |[],_::_,_,_,h=>by simp[zai] at h
 |_::_,[],_,_,h=>by simp[zai] at h
 |_::_,_::_,_,[],h=>by simp[zai] at h
theorem qce:∀{ps:List (Mode×Ty)} {vs:List Value} {x:PVs (ps.map (·.2))} {bss:List (List Nat)},zai w Pr ps vs x bss->
 ∀(j:Nat) (e:Ent) (v:Value),(zco ps x)[j]? =some e->(za3 ps vs)[j]? =some v->zqw w Pr e.s v ((zcp ps bss).getD j [])
 |[],[],_,[],_,j,e,v,he,_=>by simp[zco] at he
 |(m,t)::ps,v::vs,x,b::bss,h,j,e,v',he,hv=>by
  have ih:=qce h.2;cases m with
  |bor=>exact ih j e v' he hv
  |own=>exact ih j e v' he hv
  | «mut» =>
    cases j with
    |zero=>
     simp only[zco,ym2,yn0,za3,Mode.back,yb0] at he hv;subst he;subst hv;exact .inl ⟨t,_,_,rfl,h.1⟩
    |succ j=>exact ih j e v' he hv
  |ptr=>
   cases j with
   |zero=>
    simp only[zco,ym2,yn0,za3,Mode.back,yb0] at he hv;subst he;subst hv;exact .inr ⟨t,_,_,rfl,h.1⟩
   |succ j=>exact ih j e v' he hv
 |[],[],_,_::_,h,_,_,_,_,_=>by simp[zai] at h
 |[],_::_,_,_,h,_,_,_,_,_=>by simp[zai] at h
 |_::_,[],_,_,h,_,_,_,_,_=>by simp[zai] at h
 |_::_,_::_,_,[],h,_,_,_,_,_=>by simp[zai] at h
def zqy (w:World)(Pr:Nat->Prop)(Eo:List Ent)(Vo:List Value)(j0:Nat)(s:Slot)(v:Value)(bs:List Nat):Prop:=
 zqw w Pr s v bs\/(bs=[]/\∃j,Vo[j]? =some v/\((s=.sub ⟨j0+j,[],0,0⟩/\∃t o x,Eo[j]? =some (ent (.val t o x)))\/(s=.addr ⟨j0+j,[],0,0⟩/\∃t o x,Eo[j]? =some (ent (.var t o x)))))
theorem zqy.succ {Eo:List Ent}{Vo:List Value}{j0:Nat}{s:Slot}{v:Value}{bs:List Nat}{e0:Ent}{v0:Value}(h:zqy w Pr Eo Vo (j0+1) s v bs):zqy w Pr (e0::Eo) (v0::Vo) j0 s v bs:=by
 rcases h with h|⟨hb,j,hv,h⟩
 ·exact .inl h
 ·refine .inr ⟨hb,j+1,hv,?_⟩
  have:j0+1+j=j0+(j+1):=by omega
  rw[<-this];exact h
theorem znl:∀{ps:List (Mode×Ty)} {vs:List Value} {x:PVs (ps.map (·.2))} {bss:List (List Nat)} (j0:Nat),zai w Pr ps vs x bss->
 ∀(i:Nat) (e:Ent) (v:Value),(parE j0 ps x)[i]? =some e->vs[i]? =some v->zqy w Pr (zco ps x) (za3 ps vs) j0 e.s v ((parB ps bss).getD i [])
 |[],[],_,[],_,_,i,e,v,he,_=>by simp[parE] at he
 |(m,t)::ps,v::vs,x,b::bss,j0,h,i,e,v',he,hv=>by
  cases m with
  |bor=>
   cases i with
   |zero=>
    simp only[parE,ym2,yn0] at he hv;subst he;subst hv;obtain⟨⟨h1,rfl⟩,_⟩:=h;exact .inl (.inl ⟨t,_,_,rfl,h1⟩)
   |succ i=>exact znl j0 h.2 i e v' he hv
  |own=>
   cases i with
   |zero=>
    simp only[parE,ym2,yn0] at he hv;subst he;subst hv;exact .inl (.inl ⟨t,_,_,rfl,h.1⟩)
   |succ i=>exact znl j0 h.2 i e v' he hv
  | «mut» =>
    cases i with
    |zero=>
     simp only[parE,ym2,yn0] at he hv;subst he;subst hv;exact .inr ⟨rfl,0,rfl,.inl ⟨rfl,t,_,_,rfl⟩⟩
    |succ i=>exact(znl (j0+1) h.2 i e v' he hv).succ
  |ptr=>
   cases i with
   |zero=>
    simp only[parE,ym2,yn0] at he hv;subst he;subst hv;exact .inr ⟨rfl,0,rfl,.inr ⟨rfl,t,_,_,rfl⟩⟩
   |succ i=>exact(znl (j0+1) h.2 i e v' he hv).succ
 |[],[],_,_::_,_,h,_,_,_,_,_=>by simp[zai] at h
 |[],_::_,_,_,_,h,_,_,_,_,_=>by simp[zai] at h
 |_::_,[],_,_,_,h,_,_,_,_,_=>by simp[zai] at h
 |_::_,_::_,_,[],_,h,_,_,_,_,_=>by simp[zai] at h
theorem z5y:∀{ps:List (Mode×Ty)} {vs:List Value} {x:PVs (ps.map (·.2))} {bss:List (List Nat)},zai w Pr ps vs x bss->bss.flatten.Perm ((zcp ps bss).flatten++(parB ps bss).flatten)
 |[],[],_,[],_=>yh1 _
 |(m,t)::ps,v::vs,x,b::bss,h=>by
  have ih:=z5y h.2;cases m with
  |bor=>
   simp only[yd1,zcp,parB,Mode.back,yd0];refine(List.Perm.append_left b ih).trans ?_;rw[<-yj0,<-yj0];exact List.perm_append_comm.append_right _
  |own=>
   simp only[yd1,zcp,parB,Mode.back,yd0];refine(List.Perm.append_left b ih).trans ?_;rw[<-yj0,<-yj0];exact List.perm_append_comm.append_right _
  | «mut» =>
    simp only[yd1,zcp,parB,Mode.back,yb0,yp1,yj0];exact List.Perm.append_left b ih
  |ptr=>
   simp only[yd1,zcp,parB,Mode.back,yb0,yp1,yj0];exact List.Perm.append_left b ih
 |[],[],_,_::_,h=>by simp[zai] at h
 |[],_::_,_,_,h=>by simp[zai] at h
 |_::_,[],_,_,h=>by simp[zai] at h
 |_::_,_::_,_,[],h=>by simp[zai] at h
theorem getD_mem {l:List (List Nat)}{k b:Nat}(h:b∈l.getD k []):b∈l.flatten:=by
 rw[yg2] at h;cases hk:l[k]? with
 |none=>rw[hk] at h;simp at h
 |some x=>rw[hk] at h;exact List.mem_flatten.2 ⟨x,List.mem_of_getElem? hk,h⟩
theorem z7u:∀{l:List (List Nat)} {k:Nat},l.flatten.Nodup->(l.getD k []).Nodup
 |[],_,_=>by simp
 |x::l,0,h=>by simp only[yd1,yf1] at h;exact h.1
 |x::l,k+1,h=>by
  simp only[yd1,yf1] at h;exact z7u (l:=l) (k:=k) h.2.1
theorem qai:∀{l:List (List Nat)} {j k:Nat},l.flatten.Nodup->j≠k->∀b∈l.getD j [],b∉l.getD k []
 |[],_,_,_,_,b,hb=>by simp at hb
 |x::l,0,0,_,hne,_,_=>absurd rfl hne
 |x::l,0,k+1,h,_,b,hb=>by
  simp only[yd1,yf1] at h;exact λhk=>h.2.2 b hb b (getD_mem (l:=l) (k:=k) hk) rfl
 |x::l,j+1,0,h,_,b,hb=>by
  simp only[yd1,yf1] at h;exact λhk=>h.2.2 b hk b (getD_mem (l:=l) (k:=j) hb) rfl
 |x::l,j+1,k+1,h,hne,b,hb=>by
  simp only[yd1,yf1] at h;exact qai (l:=l) (j:=j) (k:=k) h.2.1 (by omega) b hb
theorem z4b {α:Type}{l1 l2:List α}{k:Nat}{x:α}(h:(l1++l2)[k]? =some x):(k<l1.length/\l1[k]? =some x)\/(l1.length<=k/\l2[k -l1.length]? =some x):=by
 by_cases hk:k<l1.length
 ·exact .inl ⟨hk,by rwa [yz1 hk] at h⟩
 ·exact .inr ⟨by omega,by rwa [ya2 (by omega)] at h⟩
theorem zvp {l1 l2:List (List Nat)}{k:Nat}:(l1++l2).getD k []=if k<l1.length then l1.getD k [] else l2.getD (k -l1.length) []:=by
 simp only[yg2];split
 ·rename_i h;rw[yz1 h]
 ·rename_i h;rw[ya2 (by omega)]
theorem qds {ps:List (Mode×Ty)}{vs:List Value}{x:PVs (ps.map (·.2))}{bss:List (List Nat)}{n:Nat}(hpl:∀b,Pr b->b<w.heap.size)(h:zai w Pr ps vs x bss)(hnd:bss.flatten.Nodup)
 (hfr:∀b∈bss.flatten,¬Pr b/\b<w.heap.size):St w Pr (λb=>b∈bss.flatten) (zbj ps x n) (za3 ps vs++(vs++List.replicate (n -ps.length) undef)) w:=by
 obtain⟨l1,l2,l3,l4,l5,l6⟩:=zqx h;have hp:=z5y h;have hnd2:(zcp ps bss++parB ps bss).flatten.Nodup:=by rw[yb3];exact hp.nodup_iff.1 hnd
 have hmem:∀k b,b∈(zcp ps bss++parB ps bss).getD k []->b∈bss.flatten:=λk b hb=>hp.mem_iff.2 (by rw[<-yb3];exact getD_mem hb);refine⟨Pr,λk=>(zcp ps bss++parB ps bss).getD k [],?_,λk hk=> ?_⟩
 ·refine {len:=by simp[zbj,l1,l2,l4,l6],pr0:=λ_ h=>h,prlt:=hpl,prnew:=λ_ h=>.inl h,slots:=λk e v he hv=> ?_,nodup:=λk=>z7u hnd2,disj:=λj k hne b hb=>qai hnd2 hne b hb,
          free:=λk b hb=>⟨.inr (hmem k b hb),hfr b (hmem k b hb)⟩,os:=rfl,tape:=rfl,output:=rfl,size:=ym0 _,frame:=λ_ _ _=>rfl}
  unfold zbj at he;rcases z4b he with⟨q1,q2⟩|⟨q1,q2⟩
  ·rw[yz1 (by omega)] at hv
   refine(qce h k e v q2 hv).ok ?_;rw[zvp,yx0 (by omega)]
  ·rw[ya2 (by omega),l2,<-l1] at hv
   rcases z4b q2 with⟨p1,p2⟩|⟨p1,p2⟩
   ·rw[yz1 (by rw[l6] at p1;omega)] at hv
    rcases znl 0 h _ e v p2 hv with hs|⟨hb,j,hvj,hs⟩
    ·refine hs.ok ?_
     rw[zvp,yw0 (by omega),l3,l1]
    ·have hj:j<(zco ps x).length:=by
      have:=(yf2.1 hvj).1;omega
     have hV:(za3 ps vs++(vs++List.replicate (n -ps.length) undef))[j]? =some v:=by rw[yz1 (by omega)];exact hvj
     rcases hs with⟨hs,t,o,y,hE⟩|⟨hs,t,o,y,hE⟩
     ·rw[hs,Nat.zero_add]
      refine⟨ent (.val t o y),v,⟨?_,ym0 _,λ_=>ym0 _⟩,hV,λ_=>⟨λ_ _=>rfl,λ_ hq=> ?_⟩⟩
      ·show(zbj ps x n)[j]? =_
       unfold zbj;rw[yz1 hj];exact hE
      ·rcases hq with hq|hq
       ·exact absurd rfl hq
       ·cases hq
     ·rw[hs,Nat.zero_add]
      refine⟨ent (.var t o y),v,⟨?_,ym0 _,λ_=>ym0 _⟩,hV,λ_=>⟨λ_=>rfl,λhq=>absurd rfl hq⟩⟩;show(zbj ps x n)[j]? =_
      unfold zbj;rw[yz1 hj];exact hE
   ·rw[List.getElem?_replicate] at p2
    split at p2
    ·obtain rfl:=yl0 p2;trivial
    ·cases p2
 ·simp only
  rw[zvp];simp only[zbj,ye0,List.length_replicate] at hk;rw[yw0 (by omega),yg2,yh2 (by rw[l6] at hk;omega)];rfl
section
variable {w0 : World} {Pr0 M : Nat → Prop} {outer : List Value} {E : Env} {V : List Value} {B : Nat → List Nat} {a : Act} {P : Program}
theorem qaj {s:Slot}{j:Nat}(h:(E.at j).s=s)(hs:s≠.none):E[j]? =some (E.at j):=by
 cases he:E[j]? with
 |none=>unfold Env.at at h;rw[yg2,he] at h;exact absurd h.symm hs
 |some e=>rw[jq he]
def ResV (P:Program)(a:Act)(w:World)(rv:ResultVar)(v:Value):Prop:=
 match rv with
 | .tmp t=>v=a.eval (.tmp t)
 | .cell t tid=>∃ad,a.eval (.tmp t)=.pointer (some ad)/\(loadVar tid ad).run P w=.ok v w
theorem q5l {cx:Cx}(htab:ji P cx.tab)(hf:Fr outer.length V a)(h:StB w0 Pr0 M E V w Pr B){N:Nat}(hN:E.length<=N)(hB:B N=[]){rv:ResultVar}{tv:TV}{us:List U}(ht:zxh cx E outer.length rv=some (tv,us)):
 ∃B1 v,StB w0 Pr0 M (appU E us) V w Pr B1/\ResV P a w rv v/\zx w Pr v tv.t tv.o tv.x (B1 N)/\(∀k,E.length<=k->k≠N->B1 k=B k)/\(appU E us).length=E.length:=by
 cases rv with
 |tmp t=>
  obtain⟨B1,g1,g2,g3,g4⟩:=zd4 h hN hB (qx h hf (.tmp t)) ht;exact⟨B1,_,g1,rfl,g2,g3,g4⟩
 |cell t tid=>
  simp only[zxh] at ht;split at ht
  ·rename_i ty t' o x hl hs
   cases hc:t'==ty with
   |false=>rw[hc] at ht;cases ht
   |true=>
    rw[hc] at ht;simp only[yb0,yn0,ya1] at ht;obtain⟨rfl,rfl⟩:=ht;have hty:t'=ty:=by simpa using hc
    subst hty;have he:=qaj (E:=E) (j:=outer.length+t) hs (by simp);have hk:=(yf2.1 he).1;have hv:=yt1 (l:=V) (i:=outer.length+t) (by rw[<-h.len];exact hk);have hso:=h.slots _ _ _ he hv;rw[hs] at hso;obtain⟨b,cs,bs0,h1,h2,h3,h4⟩:=hso;have hne:outer.length+t≠N:=by omega
    refine⟨swap B N (outer.length+t) bs0 [b],pack t' cs,?_,?_,?_,λk hk hne=>zgi hne (by omega),by simp[appU,U.app]⟩
    ·show StB w0 Pr0 M (E.set (outer.length+t) _) V w Pr _
     exact h.part hN hB he hv (h4.trans (List.perm_append_comm (l₁:=[b]))) (.inl (Nat.lt_succ_self _)) trivial
    ·refine⟨⟨b,0,none⟩,?_,zy7 (jr htab hl) (Cells.zvf h2) h3.length⟩
     rw[qbn hf hv,h1]
    ·rw[zgo]
     exact⟨cs,rfl,h3⟩
  ·cases ht
theorem zvq {cx:Cx}(htab:ji P cx.tab)(hf:Fr outer.length V a):∀{ts:List ResultVar} {rs:List (Ty×Ow)} {E:Env} {B:Nat->List Nat} {N:Nat} {z:PVs (rs.map (·.1))} {E':Env},StB w0 Pr0 M E V w Pr B->E.length<=N->(∀k,N<=k->B k=[])->
 zi2 cx outer.length E ts rs=some (z,E')->
 ∃B' bv rv,StB w0 Pr0 M E' V w Pr B'/\E'.length=E.length/\(∀k,E.length<=k->k<N->B' k=B k)/\AllL (ResV P a w) ts rv/\zat w Pr (zbe rs z) rv bv/\bv.Nodup/\∀b∈bv,∃k,N<=k/\b∈B' k
 |[],[],E,B,N,z,E',h,hN,hB,ht=>by
  simp only[zi2,yn0,ya1] at ht;obtain⟨_,rfl⟩:=ht;exact⟨B,[],[],h,rfl,λ_ _ _=>rfl,trivial,rfl,List.nodup_nil,λb hb=>by cases hb⟩
 |t::ts,(ty,own)::rs,E,B,N,z,E',h,hN,hB,ht=>by
  simp only[zi2] at ht;split at ht
  ·rename_i v us hv
   split at ht
   ·rename_i y hc
    cases hck:okO v.t v.o own with
    |false=>rw[hck] at ht;cases ht
    |true=>
     rw[hck] at ht;simp only[yb0] at ht;split at ht
     ·rename_i z' E2 ht'
      simp only[yn0,ya1] at ht;obtain⟨rfl,rfl⟩:=ht;obtain⟨B1,u,g1,g0,g2,g3,g4⟩:=q5l htab hf h hN (hB N (ym0 _)) hv;obtain⟨B',bv,rv,k1,k2,k3,k0,k4,k5,k6⟩:=zvq htab hf (N:=N+1) g1 (by omega) (λk hk=>by rw[g3 k (by omega) (by omega)];exact hB k (by omega)) ht';have hBN:B' N=B1 N:=k3 N (by omega) (by omega);obtain⟨T,O,X⟩:=v;obtain⟨hT,rfl⟩:=zas hc;simp only at hT hck g2;subst hT;refine⟨B',B1 N++bv,u::rv,k1,by omega,λk hk hlt=>by rw[k3 k (by omega) (by omega),g3 k hk (by omega)],⟨g0,k0⟩,⟨B1 N,bv,yh1 _,.inr ?_,k4⟩,?_,λb hb=> ?_⟩
      ·simp only[okO,yq1,yh0,yj1] at hck
       rcases hck with(hck|⟨hck,he⟩)|⟨hno,he⟩
       ·obtain rfl:=Ow.ziv hck
        exact g2
       ·obtain rfl:=Ow.ziv he
        exact zx.full hck g2
       ·obtain rfl:=Ow.ziv he
        have hb:B1 N=[]:=by obtain⟨cs,_,q2⟩:=g2;exact q2.zax hno
        show zx w Pr _ T .b _ (B1 N);rw[hb];exact zx.zax hno g2
      ·refine yf1.2 ⟨g1.nodup N,k5,λx hx y hy hxy=> ?_⟩
       subst hxy;obtain⟨k,hk,hb⟩:=k6 x hy;rw[<-hBN] at hx;exact k1.disj N k (by omega) x hx hb
      ·rcases yu0.1 hb with hb|hb
       ·exact⟨N,ym0 _,by rw[hBN];exact hb⟩
       ·obtain⟨k,hk,hb⟩:=k6 b hb
        exact⟨k,by omega,hb⟩
     ·cases ht
   ·cases ht
  ·cases ht
 |[],_::_,_,_,_,_,_,_,_,_,ht=>by simp[zi2] at ht
 |_::_,[],_,_,_,_,_,_,_,_,ht=>by simp[zi2] at ht
def zrp (a:Act):ResultVar->Sem Value
 | .tmp t=>pure (a.tmps.getD t undef)
 | .cell b t=>do loadVar t (<-asAddr (a.tmps.getD b undef))
theorem q5m {rv:ResultVar}{v:Value}(h:ResV P a w rv v):(zrp a rv).run P w=.ok v w:=by
 cases rv with
 |tmp t=>simp only[ResV,Act.eval] at h;subst h;rfl
 |cell b t=>
  obtain⟨ad,e1,e2⟩:=h;simp only[Act.eval] at e1;simp only[zrp,e1];simpa[asAddr] using e2
theorem z4c {fn:Func}{ts:List ResultVar}{vs:List Value}(h:fn.results=ts.toArray){a:Act}{w:World}(hv:AllL (ResV P a w) ts vs):(results fn a.tmps).run P w=.ok (zdd vs) w:=by
 have key:∀{ts:List ResultVar} {vs:List Value},AllL (ResV P a w) ts vs->(ts.mapM (zrp a)).run P w=.ok vs w:=by
  intro ts
  induction ts with
  |nil=>intro vs hv;cases vs with
   |nil=>rfl
   |cons=>exact hv.elim
  |cons t ts ih=>
   intro vs hv;cases vs with
   |nil=>exact hv.elim
   |cons v vs=>
    rw[List.mapM_cons,Sem.run_bind,q5m hv.1];simp only[Result.andThen];rw[Sem.run_bind,ih hv.2];rfl
 have e:results fn a.tmps=(ts.toArray.mapM (zrp a)>>= λvs=>pure (if h:vs.size=1 then vs[0] else .tuple vs)):=by
  unfold results;rw[h];rfl
 rw[e,List.mapM_toArray,Sem.run_bind,Sem.run_map,key hv];simp only[Result.andThen]
 match vs with
 |[]=>simp[zdd]
 |[v]=>simp[zdd]
 |_::_::_=>simp[zdd]
theorem zkk (h:StB w0 Pr0 M E V w Pr B):∀{ps:List (Mode×Ty)} {vs:List Value} {j:Nat} {r:PVs (backs ps)},vs.length=ps.length->(∀i v,(za3 ps vs)[i]? =some v->V[j+i]? =some v)->zgk E j ps=some r->
 ∃bms,zao w Pr ps vs r bms/\bms.flatten.Nodup/\∀b∈bms.flatten,∃k,j<=k/\k<j+outN ps/\b∈B k
 |[],[],_,r,_,_,_=>⟨[],trivial,List.nodup_nil,λb hb=>by cases hb⟩
 |(m,t)::ps,v::vs,j,r,hl,hV,hb=>by
  have hl':vs.length=ps.length:=by simpa using hl
  have root:∀{s:Slot},(E.at j).s=s->s≠.none->V[j]? =some v->jd w Pr E V B j s v:=by
   intro s hs hne hv;have:=h.slots j _ v (qaj hs hne) hv
   rwa [hs] at this
  have step:(∀i u,(v::za3 ps vs)[i]? =some u->V[j+i]? =some u)->V[j]? =some v/\∀i u,(za3 ps vs)[i]? =some u->V[j+1+i]? =some u:=by
   intro q;exact⟨q 0 v rfl,λi u hu=>by have:=q (i+1) u hu;rwa [show j+1+i=j+(i+1) by omega]⟩
  have comb:∀{bms:List (List Nat)},bms.flatten.Nodup->(∀b∈bms.flatten,∃k,j+1<=k/\k<j+1+outN ps/\b∈B k)->
   (B j::bms).flatten.Nodup/\∀b∈(B j::bms).flatten,∃k,j<=k/\k<j+(outN ps+1)/\b∈B k:=by
   intro bms h1 h2;constructor
   ·rw[yd1]
    refine yf1.2 ⟨h.nodup j,h1,λx hx y hy hxy=> ?_⟩;subst hxy;obtain⟨k,k1,k2,k3⟩:=h2 x hy;exact h.disj j k (by omega) x hx k3
   ·intro b hb
    rw[yd1] at hb;rcases yu0.1 hb with hb|hb
    ·exact⟨j,ym0 _,by omega,hb⟩
    ·obtain⟨k,k1,k2,k3⟩:=h2 b hb
     exact⟨k,by omega,by omega,k3⟩
  cases m with
  |bor=>
   obtain⟨bms,h1,h2,h3⟩:=zkk h hl' hV hb;exact⟨[]::bms,⟨rfl,h1⟩,by simpa using h2,by simpa[outN,Mode.back] using h3⟩
  |own=>
   obtain⟨bms,h1,h2,h3⟩:=zkk h hl' hV hb;exact⟨[]::bms,⟨rfl,h1⟩,by simpa using h2,by simpa[outN,Mode.back] using h3⟩
  | «mut» =>
    simp only[za3,Mode.back,yb0] at hV;obtain⟨hv,hV⟩:=step hV;simp only[zgk] at hb;split at hb
    ·rename_i t' o x hs
     split at hb
     ·rename_i y r' hc hb'
      cases hf:full t' o with
      |false=>rw[hf] at hb;cases hb
      |true=>
       rw[hf] at hb;simp only[yb0] at hb;obtain rfl:=yl0 hb;obtain⟨rfl,rfl⟩:=zas hc;obtain⟨bms,h1,h2,h3⟩:=zkk h hl' hV hb';have hso:=root hs (by simp) hv;exact⟨B j::bms,⟨zx.full hf hso,h1⟩,(comb h2 h3).1,by simpa[outN,Mode.back] using(comb h2 h3).2⟩
     ·cases hb
    ·cases hb
  |ptr=>
   simp only[za3,Mode.back,yb0] at hV;obtain⟨hv,hV⟩:=step hV;simp only[zgk] at hb;split at hb
   ·rename_i t' o x hs
    split at hb
    ·rename_i y r' hc hb'
     cases hf: !owns t' o with
     |false=>rw[hf] at hb;cases hb
     |true=>
      rw[hf] at hb;simp only[yb0] at hb;obtain rfl:=yl0 hb;obtain⟨rfl,rfl⟩:=zas hc;obtain⟨bms,h1,h2,h3⟩:=zkk h hl' hV hb';have hso:=root hs (by simp) hv;exact⟨B j::bms,⟨vg.zax (by simpa using hf) hso,h1⟩,(comb h2 h3).1,by simpa[outN,Mode.back] using(comb h2 h3).2⟩
    ·cases hb
   ·cases hb
 |[],_::_,_,_,hl,_,_=>by simp at hl
 |_::_,[],_,_,hl,_,_=>by simp at hl
theorem qw9 {cx:Cx}{pl:Plan}{k:FuncId}{fn:Func}{c:Code}{ts:List ResultVar}{ct:Ct}{dp:Nat}(hok:Ok0 P cx)
 (hf:P.funcs[k]? =some fn)(hb:fn.body=some c)(hn:(fn.name== "runtime.NumGoroutine")=false)(hres:fn.results=ts.toArray)(hunit:(ct.rets.all λq=> !q.1.isUnit)=true)
 (hlo:zcc cx (rcN cx dp) pl (outN ct.pars) c)(hF:∀xs r,ct.F xs=some r->denF cx dp pl fn.ntmps c ts ct.pars ct.rets xs=some r):FnOk cx.gl P k ct:=by
 refine⟨hunit,λw Pr vs xs bss r hpl hargs hnd hfr hgo hgd hr=>⟨⟨fn,hf,by rw[hb];rfl,hn⟩,?_⟩⟩;have hd:=hF xs r hr;obtain⟨l1,l2,l3,l4,l5,l6⟩:=zqx hargs;refine calls_of_wp hf hb ?_;have hst:=qds (n:=fn.ntmps) hpl hargs hnd hfr
 have hsx:Sx w Pr (λb=>b∈bss.flatten) (za3 ct.pars vs) [] (zbj ct.pars xs fn.ntmps) {tmps:=vs.toArray++Array.replicate (fn.ntmps -vs.toArray.size) undef,defers:=[]} w:=by
  refine⟨?_,rfl⟩;simp only[Array.toList_append,Array.toList_replicate,List.size_toArray,l4];exact hst
 unfold denF at hd;rw[<-l2] at hd
 have fin:∀(E':Env) (a':Act) (w':World),zgl cx (za3 ct.pars vs).length ts ct.pars ct.rets E'=some r->Sx w Pr (λb=>b∈bss.flatten) (za3 ct.pars vs) [] E' a' w'->
  a'.defers=[]/\∃v,(results fn a'.tmps).run P w'=.ok v w'/\∃(rv:List Value) (Pr':Nat->Prop) (bv:List Nat) (bms:List (List Nat)),Ending.returned v=.returned (zdd rv)/\zat w' Pr' (zbe ct.rets r.1) rv bv/\zao w' Pr' ct.pars vs r.2 bms/\
  (bv++bms.flatten).Nodup/\(∀b∈bv++bms.flatten,(b∈bss.flatten\/w.heap.size<=b)/\¬Pr' b/\b<w'.heap.size)/\(∀b,Pr b->Pr' b)/\
  (∀b,Pr' b->Pr b\/(b∈bss.flatten\/w.heap.size<=b)/\b<w'.heap.size)/\w'.os=w.os/\w'.tape=w.tape/\w'.output=w.output/\w.heap.size<=w'.heap.size/\
  (∀b,b<w.heap.size->b∉bss.flatten->w'.heap[b]? =w.heap[b]?):=by
  intro E' a' w' hfin hx;unfold zgl at hfin;split at hfin
  ·rename_i z E2 ht
   split at hfin
   ·rename_i bk hbk
    obtain rfl:=yl0 hfin;obtain⟨Pr2,B2,h2,hN2⟩:=(hx.st.wkE (l:=wkR (za3 ct.pars vs).length ts ct.rets));obtain⟨B3,bv,rv,k1,k2,k3,k0,k4,k5,k6⟩:=zvq hok.tab (hx.fr) h2 (ym0 _) hN2 ht
    obtain⟨bms,m1,m2,m3⟩:=zkk k1 (j:=0) l4 (λi v hv=>by
     rw[Nat.zero_add,yz1 (yf2.1 hv).1];exact hv) hbk
    have hlt:outN ct.pars<=E2.length:=by
     have:=k1.len;simp only[ye0] at this;omega
    have hmem:∀b∈bv++bms.flatten,∃k,b∈B3 k:=λb hb=>by
     rcases yu0.1 hb with hb|hb
     ·obtain⟨k,_,h⟩:=k6 b hb;exact⟨k,h⟩
     ·obtain⟨k,_,_,h⟩:=m3 b hb;exact⟨k,h⟩
    refine⟨hx.ds,_,z4c hres k0,rv,Pr2,bv,bms,rfl,k4,m1,?_,λb hb=> ?_,k1.pr0,λb hb=> ?_,k1.os,k1.tape,k1.output,k1.size,λb hb hnb=>k1.frame b hb hnb⟩
    ·refine yf1.2 ⟨k5,m2,λx hx y hy hxy=> ?_⟩
     subst hxy;obtain⟨k,q1,q2⟩:=k6 x hx;obtain⟨k',p1,p2,p3⟩:=m3 x hy;exact k1.disj k k' (by omega) x q2 p3
    ·obtain⟨k,hk⟩:=hmem b hb
     obtain⟨q1,q2,q3⟩:=k1.free k b hk;exact⟨q1.symm,q2,q3⟩
    ·rcases k1.prnew b hb with q|q|q
     ·exact .inl q
     ·exact .inr ⟨.inr q,k1.prlt b hb⟩
     ·exact .inr ⟨.inl q,k1.prlt b hb⟩
   ·cases hfin
  ·cases hfin
 refine zqv (hok.ok dp ⟨hgo,λb hb=>⟨hgd b hb,hpl b (hgd b hb),λhm=>(hfr b hm).1 (hgd b hb)⟩⟩) (zna cx dp) c (by rw[l2];exact hlo) hd hsx λx E' a' w' hk hx=> ?_;cases x with
 |normal=>exact fin E' a' w' hk hx
 |ret=>exact fin E' a' w' hk hx
 |exit id=>cases hk
end
end
end Go.Dn
end

section
/- What the printed texts lean on: loops by number, shapes by slots. -/
namespace Go.Dn
def zcq (f:Func):Code:=match f.body with|some c=>c|none=>.skip
noncomputable def zbt:Code->List Code
 | .seq a b=>zbt a++zbt b
 | .cond _ a b=>zbt a++zbt b
 | .block _ c=>zbt c
 | .loop c=>c::zbt c
 |_=>[]
def mkSh (n:Nat)(l:List (Nat×Sh)):List Sh:=(List.range n).map λk=>match lookup l k with|some s=>s|none=>.none
def LAll (cx:Cx)(rc:Rc)(pl:Plan)(off:Nat):List Code->Prop
 |[]=>True
 |c::l=>(match lookup pl.loops (zb2 c) with|some lp=>LpOk cx rc pl off c lp|none=>True)/\LAll cx rc pl off l
theorem LAll.append {cx:Cx}{rc:Rc}{pl:Plan}{off:Nat}:∀{a b:List Code},LAll cx rc pl off (a++b)->LAll cx rc pl off a/\LAll cx rc pl off b
 |[],_,h=>⟨trivial,h⟩
 |_::a,_,h=>⟨⟨h.1,(LAll.append (a:=a) h.2).1⟩,(LAll.append (a:=a) h.2).2⟩
theorem z7v {cx:Cx}{rc:Rc}{pl:Plan}{off:Nat}:∀{c:Code},LAll cx rc pl off (zbt c)->zcc cx rc pl off c:=by
 intro c
 induction c with
 |seq a b iha ihb=>intro h;have:=LAll.append h;exact⟨iha this.1,ihb this.2⟩
 |cond x a b iha ihb=>intro h;have:=LAll.append h;exact⟨iha this.1,ihb this.2⟩
 |block id c ih=>intro h;exact ih h
 |loop c ih=>intro h;exact⟨ih h.2,h.1⟩
 |_=>intro _;trivial
theorem fnOk {P:Program}{cx:Cx}{pl:Plan}{k:FuncId}{fn:Func}{ct:Ct}{dp:Nat}(hok:Ok0 P cx)(hf:P.funcs[k]? =some fn)(hb:fn.body.isSome=true)(hn:(fn.name== "runtime.NumGoroutine")=false)
 (hunit:(ct.rets.all λq=> !q.1.isUnit)=true)(hlo:LAll cx (rcN cx dp) pl (outN ct.pars) (zbt (zcq fn)))
 (hF:∀xs,denF cx dp pl fn.ntmps (zcq fn) fn.results.toList ct.pars ct.rets xs=ct.F xs):FnOk cx.gl P k ct:=by
 have hb':fn.body=some (zcq fn):=by
  unfold zcq;cases h:fn.body with
  |none=>rw[h] at hb;cases hb
  |some c=>rfl
 exact qw9 hok hf hb' hn (by rw[Array.toArray_toList]) hunit (z7v hlo) λxs r hr=>by rw[hF];exact hr
def znu (g:Glob)(P:Program):List (FuncId×Ct)->Prop
 |[]=>True
 |q::l=>FnOk g P q.1 q.2/\znu g P l
theorem q5n {P:Program}{cx:Cx}(h:znu cx.gl P cx.cts):zk3 P cx:=by
 intro k ct hl;have hm:=zdv hl
 have key:∀{l:List (FuncId×Ct)},znu cx.gl P l->(k,ct)∈l->FnOk cx.gl P k ct:=by
  intro l
  induction l with
  |nil=>intro _ hm;cases hm
  |cons q l ih=>
   intro h hm;cases hm with
   |head=>exact h.1
   |tail _ hm=>exact ih h.2 hm
 exact key h hm
def zfl (P:Program)(cx:Cx):List (FuncId×Func×Plan)->Prop
 |[]=>True
 |q::l=>(P.funcs[q.1]? =some q.2.1/\(q.2.1.name== "runtime.NumGoroutine")=false/\LAll cx (rcN cx q.2.2.lv) q.2.2 q.2.2.off (zbt (zcq q.2.1)))/\zfl P cx l
theorem zuy {P:Program}{cx:Cx}{q:FuncId×Func×Plan}:∀{l:List (FuncId×Func×Plan)},zfl P cx l->q∈l->P.funcs[q.1]? =some q.2.1/\(q.2.1.name== "runtime.NumGoroutine")=false/\LAll cx (rcN cx q.2.2.lv) q.2.2 q.2.2.off (zbt (zcq q.2.1))
 |[],_,hm=>by cases hm
 |_::l,h,hm=>by
  cases hm with
  |head=>exact h.1
  |tail _ hm=>exact zuy (l:=l) h.2 hm
theorem qz4 {P:Program}{cx:Cx}{d:Nat}{q:FuncId×Func×Plan}(h:zfl P cx (cx.sites.map (·.2)))(hl:lookup cx.sites d=some q):P.funcs[q.1]? =some q.2.1/\(q.2.1.name== "runtime.NumGoroutine")=false/\LAll cx (rcN cx q.2.2.lv) q.2.2 q.2.2.off (zbt (zcq q.2.1)):=
 zuy h (List.mem_map.2 ⟨_,zdv hl,rfl⟩)
theorem qcf {P:Program}{cx:Cx}{k:FuncId}{f:Func×Plan}(h:zfl P cx cx.funcs)(h2:zfl P cx (cx.sites.map (·.2)))(hl:InFn cx k f):P.funcs[k]? =some f.1/\(f.1.name== "runtime.NumGoroutine")=false/\LAll cx (rcN cx f.2.lv) f.2 f.2.off (zbt (zcq f.1)):=by
 rcases hl with hl|⟨d,hl⟩
 ·exact zuy h (zdv hl)
 ·exact qz4 h2 hl
theorem zw4 {P:Program}{cx:Cx}(htab:ji P cx.tab)(harr:zbi P cx)(hmix:P.follows .mixedOrders=true)(hct:znu cx.gl P cx.cts)(hfn:zfl P cx cx.funcs)(hsi:zfl P cx (cx.sites.map (·.2)):=by exact trivial):Ok0 P cx where
 tab:=htab
 arr:=harr
 cts:=q5n hct
 fns:=λk f hl=>by have:=qcf hfn hsi hl;exact⟨this.1,this.2.1⟩
 loops:=λk f pl c hl hb=>by
  have:=qcf hfn hsi hl;have hc:c=zcq f:=by unfold zcq;rw[hb]
  rw[hc];exact z7v this.2.2
 mix:=hmix
end Go.Dn
end

section
/- A law's row out of its contract: the arguments as they were, the answer true. -/
namespace Go.Dn
open Go.ChangeShapes Go.WideShapes Go.ChangeAt Go.RowKit
section
variable {H : Type} {enc : TypeId × Value → H} {P : Program}
theorem qak {W W':World}(hk:∀b,b<W.heap.size->W'.heap[b]? =W.heap[b]?){b off:Nat}(hb:b<W.heap.size):W'.cell? ⟨b,off,none⟩=W.cell? ⟨b,off,none⟩:=by
 simp only[World.cell?,hk b hb]
theorem qcg {W W':World}{base:Nat}{sp:Nat->Bool}{hd:Bool}(hk:∀b,b<W.heap.size->W'.heap[b]? =W.heap[b]?):∀{ts:List TypeId} {vs:List Value} {ds:List (DataW H)} {ps:List MemPlace},DataW.TrodAll enc P W base sp hd ts vs ds ps->(∀p∈ps,p.block<W.heap.size)->DataW.TrodAll enc P W' base sp hd ts vs ds ps
 |[],[],[],_,h,_=>h
 |_::_,_::_,_::_,_,⟨p,q,⟨n,h1⟩,h2,e⟩,hp=>⟨p,q,⟨n,DataW.trod_carry n _ _ _ h1 λx hx=>by
   have:=hp x (by rw[e];exact yv0 _ hx);cases x with
   |cell b off=>exact qak hk this
   |map b=>exact hk b this⟩,qcg hk h2 (λx hx=>hp x (by rw[e];exact yq0 _ hx)),e⟩
end
end Go.Dn
end

section
/- What a reading of an argument tells: a pure value that stands there. -/
namespace Go.Dn
open Go.ChangeShapes Go.WideShapes
def WfV:(t:Ty)->PV t->Prop
 | .int k,n=>k.min<=n/\n<=k.max
 | .bool,_=>True
 | .str,s=>s.length<=maxLen
 | .unit,_=>True
 | .pair a b,x=>WfV a x.1/\WfV b x.2
 | .slice _ t,xs=>List.length (α:=PV t) xs<=maxLen/\∀x∈(xs:List (PV t)),WfV t x
theorem zvr {α β:Type}{f:α->Option β}:∀{l:List α} {r:List β},l.mapM f=some r->r.length=l.length/\∀(i:Nat) (x:α),l[i]? =some x->∃y,f x=some y/\r[i]? =some y
 |[],r,h=>by
  simp at h;subst h;exact⟨rfl,λi x hx=>by simp at hx⟩
 |a::l,r,h=>by
  rw[List.mapM_cons] at h;simp only[Option.bind_eq_bind,yo2,Option.pure_def,yn0] at h;obtain⟨y,h1,ys,h2,rfl⟩:=h;obtain⟨g1,g2⟩:=zvr h2;refine⟨by simp[g1],λi x hx=> ?_⟩;cases i with
  |zero=>simp only[ym2,yn0] at hx;subst hx;exact⟨y,h1,rfl⟩
  |succ i=>simp only[yn2] at hx;obtain⟨z,q1,q2⟩:=g2 i x hx;exact⟨z,q1,by simpa using q2⟩
theorem qto {w:World}{base:Nat}{a:Addr}{n:Nat}{cs:List Value}(h:w.cells? base a n=some cs):cs.length=n/\Cells w a cs:=by
 unfold World.cells? at h;split at h
 ·obtain⟨h1,h2⟩:=zvr h
  rw[List.length_range] at h1;refine⟨h1,λj u hu=> ?_⟩;have hj:=(yf2.1 hu).1;obtain⟨y,q1,q2⟩:=h2 j j (by rw[List.getElem?_range (by omega)]);rw[hu] at q2;obtain rfl:=yl0 q2;exact q1
 ·cases h
theorem cell_lt {w:World}{a:Addr}{v:Value}(h:w.cell? a=some v):a.block<w.heap.size:=by
 rcases Nat.lt_or_ge a.block w.heap.size with hlt|hge
 ·exact hlt
 ·unfold World.cell? at h
  rw[Array.getElem?_eq_none hge] at h;simp at h
section
variable {H : Type} {enc : TypeId × Value → H} {P : Program} {tab : List (TypeId × Ty)} {w : World} {base : Nat} {sp : Nat → Bool} {hd : Bool}
abbrev Old (w:World):Nat->Prop:=λb=>b<w.heap.size
def zxi (tab:List (TypeId×Ty))(w:World)(t:TypeId)(cs:List Value):Prop:=∀T,lookup tab t=some T->∃pv:PV T,Rep w (Old w) T .b cs pv []/\WfV T pv
theorem cellsOf_size {tid:TypeId}{t:Ty}(h:TyFact P tab tid t):P.cellsOf tid=t.size:=by
 obtain⟨i,z,h1,h2,_⟩:=h.info;unfold Program.cellsOf;rw[h1];exact h2
theorem z5z {cs:List Value}(htab:ji P tab):∀{fs:List Field} {o:Nat} {T:Ty},zbs tab fs o T=true->(∀f∈fs,zxi tab w f.type ((cs.drop f.offset).take (P.cellsOf f.type)))->cs.length=o+T.size->
 ∃pv:PV T,Rep w (Old w) T .b (cs.drop o) pv []/\WfV T pv
 |[],o,.unit,_,_,hl=>⟨(),⟨by rw[yr2 (by simp[Ty.size] at hl;omega)],rfl⟩,trivial⟩
 |f::fs,o,.pair a b,h,ht,hl=>by
  simp only[zbs,yh0,yy0] at h;obtain⟨⟨⟨h1,h2⟩,h3⟩,h4⟩:=h;have hsz:=cellsOf_size (jr htab h1);obtain⟨x,r1,q1⟩:=ht f (yk0 ..) a h1;rw[hsz,h2] at r1;have hl':cs.length=(o+a.size)+b.size:=by simp only[Ty.size] at hl;omega
  obtain⟨y,r2,q2⟩:=z5z htab h4 (λg hg=>ht g (yg0 _ hg)) hl';refine⟨(x,y),⟨(cs.drop o).take a.size,cs.drop (o+a.size),[],[],?_,by simp,r1,r2⟩,q1,q2⟩;rw[<-List.drop_drop,yp2]
 |[],o,.int _,h,_,_|[],o,.bool,h,_,_|[],o,.str,h,_,_|[],o,.pair _ _,h,_,_|[],o,.slice _ _,h,_,_=>by simp[zbs] at h
 |_::_,o,.int _,h,_,_|_::_,o,.bool,h,_,_|_::_,o,.str,h,_,_|_::_,o,.unit,h,_,_|_::_,o,.slice _ _,h,_,_=>by simp[zbs] at h
theorem qdt {t:Ty}:∀{l:List (List Value)},(∀c∈l,∃pv:PV t,Rep w (Old w) t .b c pv []/\WfV t pv)->∃xs:List (PV t),xs.length=l.length/\RepL (Rep w (Old w) t .b) l.flatten xs []/\∀x∈xs,WfV t x
 |[],_=>⟨[],rfl,⟨rfl,rfl⟩,λx hx=>by cases hx⟩
 |c::l,h=>by
  obtain⟨x,h1,h2⟩:=h c (yk0 ..);obtain⟨xs,g1,g2,g3⟩:=qdt (l:=l) λd hd=>h d (yg0 _ hd);refine⟨x::xs,by simp[g1],⟨c,l.flatten,[],[],by simp,by simp,h1,g2⟩,λy hy=> ?_⟩;cases hy with
  |head=>exact h2
  |tail _ hy=>exact g3 y hy
theorem qch {a:Ty}{n:Nat}{cs:List Value}:∀{m:Nat} {T:Ty} {o:Nat},vk a m T=true->(∀i,o<=i->i<o+m->∃pv:PV a,Rep w (Old w) a .b ((cs.drop (i*a.size)).take a.size) pv []/\WfV a pv)->cs.length=(o+m)*a.size->
 ∃pv:PV T,Rep w (Old w) T .b (cs.drop (o*a.size)) pv []/\WfV T pv
 |0,.unit,o,_,_,hl=>⟨(),⟨by rw[yr2 (by rw[hl,Nat.add_zero];exact ym0 _)],rfl⟩,trivial⟩
 |m+1,.pair b c,o,h,ht,hl=>by
  simp only[vk,yh0,yy0] at h;obtain⟨rfl,h4⟩:=h;obtain⟨x,r1,q1⟩:=ht o (by omega) (by omega);have hl':cs.length=((o+1)+m)*b.size:=by rw[hl];congr 1;omega
  obtain⟨y,r2,q2⟩:=qch (n:=n) (o:=o+1) h4 (λi h1 h2=>ht i (by omega) (by omega)) hl';refine⟨(x,y),⟨(cs.drop (o*b.size)).take b.size,cs.drop ((o+1)*b.size),[],[],?_,by simp,r1,r2⟩,q1,q2⟩;rw[Nat.add_mul,Nat.one_mul,<-List.drop_drop,yp2]
 |0,.int _,_,h,_,_|0,.bool,_,h,_,_|0,.str,_,h,_,_|0,.pair _ _,_,h,_,_|0,.slice _ _,_,h,_,_=>by simp[vk] at h
 |_+1,.int _,_,h,_,_|_+1,.bool,_,h,_,_|_+1,.str,_,h,_,_|_+1,.unit,_,h,_,_|_+1,.slice _ _,_,h,_,_=>by simp[vk] at h
theorem qz5 {α:Type}{f:Nat->Option α}{n:Nat}{r:List α}(h:(List.range n).mapM f=some r):∀i,i<n->∃y,f i=some y:=by
 intro i hi;obtain⟨_,h2⟩:=zvr h;obtain⟨y,q1,_⟩:=h2 i i (by rw[List.getElem?_range hi]);exact⟨y,q1⟩
theorem z6a {α:Type}{Q:Nat->α->Prop}:∀{n:Nat},(∀i,i<n->∃c,Q i c)->∃l:List α,l.length=n/\∀(i:Nat) (c:α),l[i]? =some c->Q i c
 |0,_=>⟨[],rfl,λi c hc=>by simp at hc⟩
 |n+1,h=>by
  obtain⟨l,h1,h2⟩:=z6a (n:=n) λi hi=>h i (by omega);obtain⟨c,hc⟩:=h n (by omega);refine⟨l++[c],by simp[h1],λi d hd=> ?_⟩;rcases Nat.lt_trichotomy i n with hlt|rfl|hgt
  ·rw[yz1 (by omega)] at hd;exact h2 i d hd
  ·rw[ya2 (by omega),h1,Nat.sub_self] at hd;simp at hd;subst hd;exact hc
  ·rw[yh2 (by simp;omega)] at hd;cases hd
theorem z6b {s:Nat}(hs:0<s):∀{l:List (List Value)} {j:Nat} {u:Value},(∀c∈l,c.length=s)->l.flatten[j]? =some u->∃c,l[j/s]? =some c/\c[j%s]? =some u
 |[],j,u,_,h=>by simp at h
 |c::l,j,u,hc,h=>by
  have h0:=hc c (yk0 ..);rw[yd1] at h;rcases Nat.lt_or_ge j s with hlt|hge
  ·rw[yz1 (by omega)] at h
   rw[Nat.div_eq_of_lt hlt,Nat.mod_eq_of_lt hlt];exact⟨c,rfl,h⟩
  ·rw[ya2 (by omega),h0] at h
   obtain⟨d,h1,h2⟩:=z6b hs (λx hx=>hc x (yg0 _ hx)) h;have e1:j=(j -s)+s:=by omega
   refine⟨d,?_,?_⟩
   ·rw[e1,Nat.add_div_right _ hs];simpa using h1
   ·rw[e1,Nat.add_mod_right];exact h2
theorem qqq {a:Addr}{s:Nat}(hs:0<s){l:List (List Value)}(hc:∀c∈l,c.length=s)(h:∀(i:Nat) (c:List Value),l[i]? =some c->Cells w (a.add (i*s)) c):Cells w a l.flatten:=by
 intro j u hu;obtain⟨c,h1,h2⟩:=z6b hs hc hu;have:=h _ _ h1 _ _ h2
 have e:(a.add (j/s*s)).add (j%s)=a.add j:=by
  rw[Addr.add_add,Nat.div_add_mod' j s]
 rw[e] at this;exact this
theorem trod_int {k:IntKind}{n:Nat}{t:TypeId}{cs:List Value}{x:DataW H×List MemPlace}(hu:P.underlying t=some (.int k))(h:DataW.trod enc P w base sp hd (n+1) t cs=some x):∃m,cs=[.int k m]/\(Lit.int k m).wf=true:=by
 unfold DataW.trod at h;rw[hu] at h;split at h<;>(try (simp only[yn0,reduceCtorEq,TypeDesc.int.injEq] at*;done));rename_i k0 k' m e;simp only[yn0,TypeDesc.int.injEq] at e;subst e;split at h
 ·rename_i hh;obtain⟨rfl,hh⟩:=hh;exact⟨_,rfl,hh⟩
 ·cases h
theorem trod_bool {n:Nat}{t:TypeId}{cs:List Value}{x:DataW H×List MemPlace}(hu:P.underlying t=some .bool)(h:DataW.trod enc P w base sp hd (n+1) t cs=some x):∃m,cs=[.bool m]:=by
 unfold DataW.trod at h;rw[hu] at h;split at h<;>(try (simp only[yn0,reduceCtorEq] at*;done));exact⟨_,rfl⟩
theorem q5o {n:Nat}{t:TypeId}{cs:List Value}{x:DataW H×List MemPlace}(hu:P.underlying t=some .string)(h:DataW.trod enc P w base sp hd (n+1) t cs=some x):∃s,cs=[strV s]/\s.length<=maxLen:=by
 unfold DataW.trod at h;rw[hu] at h;split at h<;>(try (simp only[yn0,reduceCtorEq] at*;done));rename_i s e;split at h
 ·rename_i hh
  refine⟨s.data.toList,rfl,?_⟩;rw[Array.length_toList];exact hh
 ·cases h
theorem trod_struct {fs:Array Field}{n:Nat}{t:TypeId}{cs:List Value}{x:DataW H×List MemPlace}(hu:P.underlying t=some (.struct fs))(h:DataW.trod enc P w base sp hd (n+1) t cs=some x):
 cs.length=P.cellsOf t/\∀f∈fs.toList,∃y,DataW.trod enc P w base sp hd n f.type ((cs.drop f.offset).take (P.cellsOf f.type))=some y:=by
 obtain⟨xs,m,e,_,h1,h2,h3⟩:=DataW.trod_struct hu h;obtain rfl:m=n:=by omega
 refine⟨h1,λf hf=> ?_⟩;obtain⟨i,hi⟩:=List.getElem?_of_mem hf;rw[yl2] at hi;have hl:=(ys1.1 hi).1;exact⟨_,(h3 i f hi).trans (yt1 (by omega))⟩
theorem trod_array {e:TypeId}{m n:Nat}{t:TypeId}{cs:List Value}{x:DataW H×List MemPlace}(hu:P.underlying t=some (.array m e))(h:DataW.trod enc P w base sp hd (n+1) t cs=some x):
 cs.length=P.cellsOf t/\∀i,i<m->∃y,DataW.trod enc P w base sp hd n e ((cs.drop (i*P.cellsOf e)).take (P.cellsOf e))=some y:=by
 obtain⟨xs,q,e,_,h1,h2,h3⟩:=DataW.trod_array hu h;obtain rfl:q=n:=by omega
 exact⟨h1,λi hi=>⟨_,(h3 i hi).trans (yt1 (by omega))⟩⟩
theorem trod_slice {e:TypeId}{n:Nat}{t:TypeId}{cs:List Value}{x:DataW H×List MemPlace}(hu:P.underlying t=some (.slice e))(h:DataW.trod enc P w base sp hd (n+1) t cs=some x):
 cs=[.slice none 0 0]\/∃a len cap,cs=[.slice (some a) len cap]/\len<=cap/\cap<=maxLen/\∀i,i<len->∃c y,w.cells? base (a.add (i*P.cellsOf e)) (P.cellsOf e)=some c/\DataW.trod enc P w base sp hd n e c=some y:=by
 unfold DataW.trod at h;rw[hu] at h;split at h<;>(try (simp only[yn0,reduceCtorEq,TypeDesc.slice.injEq] at*;done))
 ·exact .inl rfl
 ·rename_i e' a len cap ee
  simp only[yn0,TypeDesc.slice.injEq] at ee;subst ee;dsimp only at h;split at h
  ·rename_i hh
   refine .inr ⟨a,len,cap,rfl,hh.2.1,hh.2.2,λi hi=> ?_⟩;rw[yo2] at h;obtain⟨l,h1,_⟩:=h;obtain⟨y,h2⟩:=qz5 h1 i hi;rw[yo2] at h2;obtain⟨c,h3,h4⟩:=h2;exact⟨c,y,h3,h4⟩
  ·cases h
theorem q3e (htab:ji P tab):∀(n:Nat) (t:TypeId) (cs:List Value) (x:DataW H×List MemPlace),DataW.trod enc P w base sp hd n t cs=some x->zxi tab w t cs:=by
 intro n
 induction n with
 |zero=>intro t cs x h;simp[DataW.trod] at h
 |succ n ih=>
  intro t cs x h T hT;have hf:=jr htab hT;obtain⟨d,hu,hfit⟩:=hf.und;have hsz:=cellsOf_size hf;cases d with
  |int k=>
   cases T<;>simp only[fits,yy0,Bool.false_eq_true] at hfit;subst hfit;obtain⟨m,rfl,h2⟩:=trod_int hu h;simp only[Lit.wf,yh0,yr0] at h2;exact⟨m,⟨rfl,rfl⟩,h2⟩
  |bool=>
   cases T<;>simp only[fits,Bool.false_eq_true] at hfit;obtain⟨m,rfl⟩:=trod_bool hu h;exact⟨m,⟨rfl,rfl⟩,trivial⟩
  |string=>
   cases T<;>simp only[fits,Bool.false_eq_true] at hfit;obtain⟨s,rfl,h2⟩:=q5o hu h;exact⟨s,⟨rfl,rfl⟩,h2⟩
  |slice e=>
   cases T with
   |slice e' t'=>
    simp only[fits,yh0,yy0,yj1,yo0,ne_eq] at hfit;obtain⟨⟨rfl,h2⟩,h3⟩:=hfit;have hse:=cellsOf_size (jr htab h2);rcases trod_slice hu h with rfl|⟨a,len,cap,rfl,q1,q2,q3⟩
    ·exact⟨([]:List (PV t')),(za0 (t:=t') (xs:=[])).2 ⟨rfl,none,0,rfl,ym0 _,.inl rfl⟩,ye1 _,λy hy=>by cases hy⟩
    ·rw[hse] at q3
     obtain⟨l,l1,l2⟩:=z6a q3
     have l3:∀(i:Nat) (c:List Value),l[i]? =some c->c.length=t'.size/\Cells w (a.add (i*t'.size)) c:=λi c hc=>by
      obtain⟨y,h4,h5⟩:=l2 i c hc;exact qto h4
     have l4:∀c∈l,∃pv:PV t',Rep w (Old w) t' .b c pv []/\WfV t' pv:=λc hc=>by
      obtain⟨i,hi⟩:=List.getElem?_of_mem hc;obtain⟨y,h4,h5⟩:=l2 i c hi;exact ih _ _ _ h5 _ h2
     obtain⟨xs,g1,g2,g3⟩:=qdt l4;have hlen:xs.length=len:=by rw[g1,l1]
     have hcl:=qqq (w:=w) (a:=a) (Nat.pos_of_ne_zero h3) (λc hc=>by
      obtain⟨i,hi⟩:=List.getElem?_of_mem hc;exact(l3 i c hi).1) (λi c hc=>(l3 i c hc).2)
     refine⟨xs,(za0 (t:=t') (xs:=xs)).2 ⟨rfl,some a,cap,by rw[hlen],by rw[hlen];exact q1,?_⟩,by rw[hlen];exact yo1 q1 q2,g3⟩;cases l with
     |nil=>exact .inl (yt0 (by simpa using g1))
     |cons c l=>
      refine .inr ⟨a,_,rfl,?_,hcl,g2⟩;obtain⟨h4,h5⟩:=l3 0 c rfl;cases c with
      |nil=>exact absurd h4.symm h3
      |cons u c=>
       have:=cell_lt (h5 0 u rfl)
       rwa [add_block,add_block] at this
   |int _=>simp[fits] at hfit
   |bool=>simp[fits] at hfit
   |str=>simp[fits] at hfit
   |unit=>simp[fits] at hfit
   |pair _ _=>simp[fits] at hfit
  |struct fs=>
   simp only[fits,yh0] at hfit;obtain⟨h1,h2⟩:=trod_struct hu h
   have:=z5z (w:=w) (cs:=cs) htab hfit.2 (λf hf=>by
    obtain⟨y,hy⟩:=h2 f hf;exact ih _ _ _ hy) (by rw[h1,hsz,Nat.zero_add])
   simpa using this
  |array m e=>
   simp only[fits,yh0] at hfit;obtain⟨_,hfit⟩:=hfit;split at hfit
   ·rename_i a ha
    simp only[yh0] at hfit;have hse:=cellsOf_size (jr htab ha);obtain⟨h1,h2⟩:=trod_array hu h;rw[hse] at h2
    have hm:∀{m:Nat} {T:Ty},vk a m T=true->T.size=m*a.size:=by
     intro m
     induction m with
     |zero=>intro T hT;cases T<;>simp_all[vk,Ty.size]
     |succ m ihm=>
      intro T hT;cases T with
      |pair b c=>
       simp only[vk,yh0,yy0] at hT;obtain⟨rfl,hT⟩:=hT;simp only[Ty.size];rw[ihm hT,Nat.add_mul,Nat.one_mul,Nat.add_comm]
      |int _=>simp[vk] at hT
      |bool=>simp[vk] at hT
      |str=>simp[vk] at hT
      |unit=>simp[vk] at hT
      |slice _ _=>simp[vk] at hT
    have:=qch (w:=w) (cs:=cs) (n:=0) (o:=0) hfit.2 (λi _ hi=>by
     obtain⟨y,hy⟩:=h2 i (by omega);exact ih _ _ _ hy _ ha) (by rw[h1,hsz,hm hfit.2,Nat.zero_add])
    simpa using this
   ·cases hfit
  |_=>simp[fits] at hfit
inductive TellsAll (tab:List (TypeId×Ty)) (w:World):List TypeId->List Value->Prop
 |nil:TellsAll tab w [] []
 |cons {t:TypeId} {v:Value} {ts:List TypeId} {vs:List Value}:zxi tab w t v.cells.toList->TellsAll tab w ts vs->TellsAll tab w (t::ts) (v::vs)
theorem z4d (htab:ji P tab):∀{ts:List TypeId} {vs:List Value} {ds:List (DataW H)} {ps:List MemPlace},DataW.TrodAll enc P w base sp hd ts vs ds ps->TellsAll tab w ts vs
 |[],[],[],_,_=>.nil
 |_::_,_::_,_::_,_,⟨_,_,⟨n,h1⟩,h2,_⟩=>.cons (q3e htab n _ _ _ h1) (z4d htab h2)
end
end Go.Dn
end

section
/- The call of a law by its contract: every argument as it was, the answer true. -/
namespace Go.Dn
open Go.ChangeShapes Go.WideShapes Go.ChangeAt Go.RowKit
section
variable {H : Type} {enc : TypeId × Value → H} {P : Program} {tab : List (TypeId × Ty)} {w : World} {base : Nat} {r : Reach}
theorem q3f {t:TypeId}{T:Ty}{v:Value}(hf:TyFact P tab t T)(hv:Value.okWide P w r base t v):v=pack T v.cells.toList:=by
 obtain⟨d,hu,hfit⟩:=hf.und;cases d with
 |int k=>
  cases T<;>simp only[fits,Bool.false_eq_true] at hfit;obtain⟨n,rfl⟩:=okWide_int hu hv;rfl
 |bool=>
  cases T<;>simp only[fits,Bool.false_eq_true] at hfit;obtain⟨n,rfl⟩:=okWide_bool hu hv;rfl
 |string=>
  cases T<;>simp only[fits,Bool.false_eq_true] at hfit;obtain⟨n,rfl⟩:=okWide_string hu hv;rfl
 |slice e=>
  cases T<;>(try (simp[fits] at hfit;done));obtain⟨a,l,c,rfl⟩:=okWide_slice hu hv;rfl
 |struct fs=>
  simp only[fits,yh0] at hfit;obtain⟨cs,rfl,_⟩:=okWide_struct hu hv;simp[pack,hfit.1,Value.cells]
 |array n e=>
  simp only[fits,yh0] at hfit;unfold Value.okWide at hv;rw[hu] at hv;obtain⟨cs,rfl,_⟩:=hv;simp[pack,hfit.1,Value.cells]
 |_=>simp[fits] at hfit
def WfVs:(ts:List Ty)->PVs ts->Prop
 |[],_=>True
 |t::ts,x=>WfV t x.1/\WfVs ts x.2
def zfm (tab:List (TypeId×Ty)):List TypeId->List (Mode×Ty)->Bool
 |[],[]=>true
 |t::ts,(m,T)::ps=>(m==.bor)&&(lookup tab t==some T)&&zfm tab ts ps
 |_,_=>false
def nils {α:Type}(ps:List α):List (List Nat):=ps.map λ_=>[]
theorem zpz {α:Type}:∀{ps:List α},(nils ps).flatten=[]
 |[]=>rfl
 |_::ps=>zpz (ps:=ps)
theorem qdu (htab:ji P tab):∀{ts:List TypeId} {vs:List Value} {ps:List (Mode×Ty)},TellsAll tab w ts vs->(∀(j:Nat) t v,ts[j]? =some t->vs[j]? =some v->Value.okWide P w r base t v)->zfm tab ts ps=true->
 ∃x:PVs (ps.map (·.2)),zai w (Old w) ps vs x (nils ps)/\WfVs (ps.map (·.2)) x
 |[],[],[],_,_,_=>⟨(),trivial,trivial⟩
 |t::ts,v::vs,(m,T)::ps,.cons h1 h2,hv,hp=>by
  simp only[zfm,yh0,yy0] at hp;obtain⟨⟨rfl,hl⟩,hp⟩:=hp;obtain⟨pv,r1,q1⟩:=h1 T hl;obtain⟨x,r2,q2⟩:=qdu htab h2 (λj t v a b=>hv (j+1) t v (by simpa using a) (by simpa using b)) hp;exact⟨(pv,x),⟨⟨⟨_,q3f (jr htab hl) (hv 0 t v rfl rfl),r1⟩,rfl⟩,r2⟩,q1,q2⟩
 |[],[],_::_,_,_,h=>by cases h
 |_::_,_::_,[],_,_,h=>by cases h
theorem q5p {k:FuncId}{pars:List (Mode×Ty)}{F:PVs (pars.map (·.2))->Option (PVs [.bool]×PVs (backs pars))}{g:Glob}(hk:FnOk g P k ⟨pars,[(.bool,.b)],F⟩)(hgo:g.ok w)(hgd:∀b,g.dom b->b<w.heap.size)(htab:ji P tab){ts:List TypeId}{args:Array Value}
 (hp:zfm tab ts pars=true)(hF:∀x,WfVs (pars.map (·.2)) x->∃bk,F x=some ((true,()),bk))(ht:TellsAll tab w ts args.toList)(hv:∀(j:Nat) t v,ts[j]? =some t->args.toList[j]? =some v->Value.okWide P w r base t v):
 Calls P k args w λe w'=>e=.returned (.bool true)/\w'.os=w.os/\w'.output=w.output/\∀b,b<w.heap.size->w'.heap[b]? =w.heap[b]? :=by
 obtain⟨x,h1,h2⟩:=qdu htab ht hv hp;obtain⟨bk,hr⟩:=hF x h2;obtain⟨_,hc⟩:=hk.2 w (Old w) args.toList x (nils pars) _ (λb h=>h) h1 (by simp only[zpz];exact List.nodup_nil) (by simp only[zpz];intro b hb;cases hb) hgo hgd hr;refine hc.mono λe w' ⟨rv,Pr',bv,bms,e1,e2,_,_,_,_,_,e3,_,e4,_,e5⟩=> ?_;refine⟨?_,e3,e4,λb hb=>e5 b hb (by simp only[zpz];intro h;cases h)⟩;subst e1
 obtain⟨v,rfl,hv⟩:∃v,rv=[v]/\v=.bool true:=by
  cases rv with
  |nil=>exact e2.elim
  |cons v vs=>
   obtain⟨b1,b2,_,q1,q2⟩:=e2;cases vs with
   |cons _ _=>exact q2.elim
   |nil=>
    rcases q1 with q1|⟨cs,rfl,rfl,_⟩
    ·cases q1
    ·exact⟨_,rfl,rfl⟩
 rw[hv];rfl
end
end Go.Dn
namespace Go.Dn
open Go.ChangeShapes Go.WideShapes Go.ChangeAt Go.RowKit
end Go.Dn
end

section
/- Functions of Go's library, by the library's own contracts, as contracts of this text's form. -/
namespace Go.Dn
open Go.Shelf Go.Proofs
section
variable {P : Program} {g : Glob}
theorem qal {k:FuncId}{pars:List (Mode×Ty)}{rets:List (Ty×Ow)}{F:PVs (pars.map (·.2))->Option (PVs (rets.map (·.1))×PVs (backs pars))}
 (hfn:∃fn,P.funcs[k]? =some fn/\fn.body.isSome=true/\(fn.name== "runtime.NumGoroutine")=false)(hunit:(rets.all λq=> !q.1.isUnit)=true)
 (hbor:∀{w:World} {Pr:Nat->Prop} {vs:List Value} {xs:PVs (pars.map (·.2))} {bss:List (List Nat)},zai w Pr pars vs xs bss->bss.flatten=[]/\∀(r:PVs (backs pars)),zao w Pr pars vs r (bss.map λ_=>[]))
 (h:∀(w:World) (Pr:Nat->Prop) (vs:List Value) (xs:PVs (pars.map (·.2))) (bss:List (List Nat)) r,zai w Pr pars vs xs bss->F xs=some r->
   Calls P k vs.toArray w λe w'=>(∃rv:List Value,e=.returned (zdd rv)/\zat w Pr (zbe rets r.1) rv [])/\w'=w):FnOk g P k ⟨pars,rets,F⟩:=by
 refine⟨hunit,λw Pr vs xs bss r hpl hargs hnd hfr _ _ hr=>⟨hfn,?_⟩⟩;obtain⟨b1,b2⟩:=hbor hargs;refine(h w Pr vs xs bss r hargs hr).mono λe w' ⟨⟨rv,e1,e2⟩,ew⟩=> ?_;subst ew
 have hz:(bss.map λ_=>([]:List Nat)).flatten=[]:=by
  clear hargs hnd hfr b1 b2
  induction bss with
  |nil=>rfl
  |cons _ _ ih=>simp[ih]
 refine⟨rv,Pr,[],bss.map λ_=>[],e1,e2,b2 r.2,by rw[hz];exact List.nodup_nil,λb hb=>absurd (hz▸hb) (by simp),λb hb=>hb,λb hb=>.inl hb,rfl,rfl,rfl,ym0 _,λb _ _=>rfl⟩
theorem bor2 {t1 t2:Ty}{w:World}{Pr:Nat->Prop}{vs:List Value}{xs:PVs [t1,t2]}{bss:List (List Nat)}(h:zai w Pr [(.bor,t1),(.bor,t2)] vs xs bss):
 ∃v1 v2,vs=[v1,v2]/\bss=[[],[]]/\zx w Pr v1 t1 .b xs.1 []/\zx w Pr v2 t2 .b xs.2.1 []:=by
 match vs,bss,h with
 |[v1,v2],[b1,b2],⟨⟨h1,h2⟩,⟨h3,h4⟩,_⟩=>
  cases h2;cases h4;exact⟨v1,v2,rfl,rfl,h1,h3⟩
 |[],[],h=>exact h.elim
 |[],_::_,h=>exact h.elim
 |_::_,[],h=>exact h.elim
 |[_],[_],h=>exact h.2.elim
 |[_],_::_::_,h=>exact h.2.elim
 |_::_::_,[_],h=>exact h.2.elim
 |_::_::_::_,[_,_],h=>exact h.2.2.elim
 |[_,_],_::_::_::_,h=>exact h.2.2.elim
 |_::_::_::_,_::_::_::_,h=>exact h.2.2.elim
theorem zgm {w:World}{Pr:Nat->Prop}{v:Value}{s:List UInt8}{bs:List Nat}(h:zx w Pr v .str .b s bs):v=strV s:=by
 obtain⟨cs,rfl,h,_⟩:=h;rw[h];rfl
def zp0 (s sub:List UInt8):Option (PVs [.bool]×PVs []):=
 match sub with
 |[c]=>some ((s.contains c,()),())
 |_=>none
theorem qxa {ρ:Ren}(L:Lays.n144 P ρ):FnOk g P (ρ.f 144) ⟨[(.bor,.str),(.bor,.str)],[(.bool,.b)],λx=>zp0 x.1 x.2.1⟩:=by
 refine qal ⟨_,L.f144,rfl,by rfl⟩ rfl (λh=> ?_) λw Pr vs xs bss r h hF=> ?_
 ·obtain⟨v1,v2,rfl,rfl,_,_⟩:=bor2 h
  exact⟨rfl,λr=>⟨rfl,rfl,trivial⟩⟩
 ·obtain⟨v1,v2,rfl,rfl,h1,h2⟩:=bor2 h
  obtain rfl:=zgm h1;obtain rfl:=zgm h2;obtain⟨s,sub,_⟩:=xs;dsimp only at hF;unfold zp0 at hF;split at hF
  ·rename_i c
   obtain rfl:=yl0 hF;refine(Any.strings_Contains_one L ⟨⟨s⟩⟩ c w).mono λe w' ⟨e1,e2⟩=>⟨⟨[.bool (s.contains c)],by rw[e1,Lib.contains_iff_indexByte];rfl,⟨[],[],yh1 _,.inr ⟨[.bool (s.contains c)],rfl,rfl,rfl⟩,rfl⟩⟩,e2⟩
  ·cases hF
end
end Go.Dn
end

section
/- A function that asks whether a slice is nil: both answers lead to the same. -/
namespace Go.Dn
section
variable {P : Program}
def finX (cx:Cx)(off:Nat)(ts:List ResultVar)(ps:List (Mode×Ty))(rs:List (Ty×Ow))(t:Xt)(E:Env):Option (PVs (rs.map (·.1))×PVs (backs ps)):=
 match t with
 | .normal=>zgl cx off ts ps rs E
 | .ret=>zgl cx off ts ps rs E
 | .exit _=>none
theorem qz6 {cx:Cx}{k:FuncId}{fn:Func}{c:Code}{ts:List ResultVar}{ct:Ct}(hok:Ok0 P cx)
 (hf:P.funcs[k]? =some fn)(hb:fn.body=some c)(hn:(fn.name== "runtime.NumGoroutine")=false)(hres:fn.results=ts.toArray)(hunit:(ct.rets.all λq=> !q.1.isUnit)=true)
 (hwp:∀{w0:World} {Pr M:Nat->Prop} {outer:List Value} {a:Act} {w:World} {xs:PVs (ct.pars.map (·.2))} {r:PVs (ct.rets.map (·.1))×PVs (backs ct.pars)} {Q:Exit->Act->World->Prop},
   GlOk cx.gl w0 Pr M->ct.F xs=some r->outer.length=outN ct.pars->Sx w0 Pr M outer [] (zbj ct.pars xs fn.ntmps) a w->(∀x E' a' w',finX cx (outN ct.pars) ts ct.pars ct.rets x E'=some r->Sx w0 Pr M outer [] E' a' w'->Q x.to a' w')->c.wp P Q a w):FnOk cx.gl P k ct:=by
 refine⟨hunit,λw Pr vs xs bss r hpl hargs hnd hfr hgo hgd hr=>⟨⟨fn,hf,by rw[hb];rfl,hn⟩,?_⟩⟩;obtain⟨l1,l2,l3,l4,l5,l6⟩:=zqx hargs;refine calls_of_wp hf hb ?_;have hst:=qds (n:=fn.ntmps) hpl hargs hnd hfr
 have hsx:Sx w Pr (λb=>b∈bss.flatten) (za3 ct.pars vs) [] (zbj ct.pars xs fn.ntmps) {tmps:=vs.toArray++Array.replicate (fn.ntmps -vs.toArray.size) undef,defers:=[]} w:=by
  refine⟨?_,rfl⟩;simp only[Array.toList_append,Array.toList_replicate,List.size_toArray,l4];exact hst
 have fin:∀(E':Env) (a':Act) (w':World),zgl cx (za3 ct.pars vs).length ts ct.pars ct.rets E'=some r->Sx w Pr (λb=>b∈bss.flatten) (za3 ct.pars vs) [] E' a' w'->
  a'.defers=[]/\∃v,(results fn a'.tmps).run P w'=.ok v w'/\∃(rv:List Value) (Pr':Nat->Prop) (bv:List Nat) (bms:List (List Nat)),Ending.returned v=.returned (zdd rv)/\zat w' Pr' (zbe ct.rets r.1) rv bv/\zao w' Pr' ct.pars vs r.2 bms/\
  (bv++bms.flatten).Nodup/\(∀b∈bv++bms.flatten,(b∈bss.flatten\/w.heap.size<=b)/\¬Pr' b/\b<w'.heap.size)/\(∀b,Pr b->Pr' b)/\
  (∀b,Pr' b->Pr b\/(b∈bss.flatten\/w.heap.size<=b)/\b<w'.heap.size)/\w'.os=w.os/\w'.tape=w.tape/\w'.output=w.output/\w.heap.size<=w'.heap.size/\
  (∀b,b<w.heap.size->b∉bss.flatten->w'.heap[b]? =w.heap[b]?):=by
  intro E' a' w' hfin hx;unfold zgl at hfin;split at hfin
  ·rename_i z E2 ht
   split at hfin
   ·rename_i bk hbk
    obtain rfl:=yl0 hfin;obtain⟨Pr2,B2,h2,hN2⟩:=(hx.st.wkE (l:=wkR (za3 ct.pars vs).length ts ct.rets));obtain⟨B3,bv,rv,k1,k2,k3,k0,k4,k5,k6⟩:=zvq hok.tab (hx.fr) h2 (ym0 _) hN2 ht
    obtain⟨bms,m1,m2,m3⟩:=zkk k1 (j:=0) l4 (λi v hv=>by
     rw[Nat.zero_add,yz1 (yf2.1 hv).1];exact hv) hbk
    have hlt:outN ct.pars<=E2.length:=by
     have:=k1.len;simp only[ye0] at this;omega
    have hmem:∀b∈bv++bms.flatten,∃k,b∈B3 k:=λb hb=>by
     rcases yu0.1 hb with hb|hb
     ·obtain⟨k,_,h⟩:=k6 b hb;exact⟨k,h⟩
     ·obtain⟨k,_,_,h⟩:=m3 b hb;exact⟨k,h⟩
    refine⟨hx.ds,_,z4c hres k0,rv,Pr2,bv,bms,rfl,k4,m1,?_,λb hb=> ?_,k1.pr0,λb hb=> ?_,k1.os,k1.tape,k1.output,k1.size,λb hb hnb=>k1.frame b hb hnb⟩
    ·refine yf1.2 ⟨k5,m2,λx hx y hy hxy=> ?_⟩
     subst hxy;obtain⟨k,q1,q2⟩:=k6 x hx;obtain⟨k',p1,p2,p3⟩:=m3 x hy;exact k1.disj k k' (by omega) x q2 p3
    ·obtain⟨k,hk⟩:=hmem b hb
     obtain⟨q1,q2,q3⟩:=k1.free k b hk;exact⟨q1.symm,q2,q3⟩
    ·rcases k1.prnew b hb with q|q|q
     ·exact .inl q
     ·exact .inr ⟨.inr q,k1.prlt b hb⟩
     ·exact .inr ⟨.inl q,k1.prlt b hb⟩
   ·cases hfin
  ·cases hfin
 refine hwp ⟨hgo,λb hb=>⟨hgd b hb,hpl b (hgd b hb),λhm=>(hfr b hm).1 (hgd b hb)⟩⟩ hr l2 hsx λx E' a' w' hk hx=> ?_;cases x with
 |normal=>exact fin E' a' w' (l2▸hk) hx
 |ret=>exact fin E' a' w' (l2▸hk) hx
 |exit id=>cases hk
theorem q3g {w0:World}{Pr0 M:Nat->Prop}{outer:List Value}{ds:List Deferred}{E:Env}{a:Act}{w:World}{o:Oper}{t3 t4:Tmp}{ts e:TypeId}{A:Option Addr}{l c:Nat}(hx:Sx w0 Pr0 M outer ds E a w)
 (hop:o.op=.binOp .eql ts (.tmp t3) (.const (.slice none 0 0)) ts)(hd:o.dst=some t4)(hts:P.underlying ts=some (.slice e))(hv:a.eval (.tmp t3)=.slice A l c)(next:Act->World->Prop)(Q:Exit->Act->World->Prop)
 (hn:∀a' w',Sx w0 Pr0 M outer ds (putE outer.length (some t4) ⟨.val .bool .b A.isNone,E,[]⟩) a' w'->next a' w'):o.wp P a w next Q:=by
 obtain⟨⟨Pr,B,hst,hN⟩,hds⟩:=hx;have hf:Fr outer.length (outer++a.tmps.toList) a:=⟨outer,rfl,rfl⟩
 have hr:(execOp a.eval o).run P w=.ok (.value (.bool A.isNone)) w:=by
  have hb:(binOp .eql ts (.slice A l c) (.slice none 0 0)).run P w=.ok (.bool A.isNone) w:=by
   simp only[binOp,Sem.run_bind,run_equal_slice_nil w ts e A l c hts,Result.andThen_ok];rfl
  have hg:(eqGuard .eql ts (.tmp t3) (.const (.slice none 0 0)) (.slice A l c) (.slice none 0 0)).run P w=.ok () w:=by rw[eqGuard_at_slice];rfl
  have hc:a.eval (.const (.slice none 0 0))=.slice none 0 0:=rfl;simp[execOp,hop,hv,hc,hg,hb]
 have hg:=(zcf (P:=P) (o:=o) hst hN (s:=.val .bool .b A.isNone) (v:=.bool A.isNone) (.bool _) hr).does;refine Oper.wp_mono ?_ (hg Q);rintro a' w' ⟨v,rfl,hlen,hh⟩;have:=Hand.putZ (dst:=some t4) (z:=⟨.val .bool .b A.isNone,appU E [],[].map U.ix⟩) hh;exact hn _ _ ⟨by rw[hd];exact this,by rw[put_defers,hds]⟩
theorem q7k {cx:Cx}{rc:Rc}{w0:World}{Pr0 M:Nat->Prop}{outer:List Value}{ds:List Deferred}{E:Env}{a:Act}{w:World}{o:Oper}{z:Zv}(hok:Ok P cx rc w0 Pr0 M)(hx:Sx w0 Pr0 M outer ds E a w)
 (h:opK cx rc E outer.length o some=some z)(next:Act->World->Prop)(Q:Exit->Act->World->Prop)(hn:∀a' w',Sx w0 Pr0 M outer ds (putE outer.length o.dst z) a' w'->next a' w'):o.wp P a w next Q:=
 zw2 hok hx h next Q λz' a' w' hz hx'=>by
  obtain rfl:=yl0 hz;exact hn a' w' hx'
theorem q5q {cx:Cx}{pl:Plan}{dp:Nat}{k:FuncId}{fn:Func}{i0 i1:Nat}{o0 o1 o2:Oper}{X Y:Code}{t3 t4:Tmp}{ts te:TypeId}{T:Ty}{rets:List (Ty×Ow)}{rvs:List ResultVar}{F:PV (.slice te T)->Option (PVs (rets.map (·.1))×PVs [])}
 {E1:PV (.slice te T)->Env}{z1:PV (.slice te T)->Zv}(hok:Ok0 P cx)(hf:P.funcs[k]? =some fn)
 (hb:fn.body=some (.seq (.region i0 #[o0] false) (.seq (.seq (.region i1 #[o1,o2] false) (.cond (.tmp t4) X .skip)) Y)))
 (hnm:(fn.name== "runtime.NumGoroutine")=false)(hres:fn.results=rvs.toArray)(hunit:(rets.all λq=> !q.1.isUnit)=true)
 (hg1:o1.guard=none)(hg2:o2.guard=none)(hop:o2.op=.binOp .eql ts (.tmp t3) (.const (.slice none 0 0)) ts)(hd:o2.dst=some t4)(hts:P.underlying ts=some (.slice te))
 (hlo:zcc cx (rcN cx dp) pl 0 (.cond (.tmp t4) X .skip)/\zcc cx (rcN cx dp) pl 0 Y)
 (h0:∀x,zcl cx (rcN cx dp) 0 #[o0] false (zbj [(.bor,.slice te T)] (x,()) fn.ntmps) some=some (E1 x))
 (h1:∀x,opK cx (rcN cx dp) (E1 x) 0 o1 some=some (z1 x))
 (h3:∀x,((putE 0 o1.dst (z1 x)).at t3).s=.val (.slice te T) .b x)
 (hff:∀x,denK cx (rcN cx dp) pl 0 (.cond (.tmp t4) X .skip) (putE 0 (some t4) ⟨.val .bool .b false,putE 0 o1.dst (z1 x),[]⟩) (λt E=>match t with
   | .normal=>denK cx (rcN cx dp) pl 0 Y E (finX cx 0 rvs [(.bor,.slice te T)] rets)
   |t=>finX cx 0 rvs [(.bor,.slice te T)] rets t E)=F x)
 (hft:denK cx (rcN cx dp) pl 0 (.cond (.tmp t4) X .skip) (putE 0 (some t4) ⟨.val .bool .b true,putE 0 o1.dst (z1 ([]:List (PV T))),[]⟩) (λt E=>match t with
   | .normal=>denK cx (rcN cx dp) pl 0 Y E (finX cx 0 rvs [(.bor,.slice te T)] rets)
   |t=>finX cx 0 rvs [(.bor,.slice te T)] rets t E)=F ([]:List (PV T))):FnOk cx.gl P k ⟨[(.bor,.slice te T)],rets,λx=>F x.1⟩:=by
 have hnat:=zna cx dp;refine qz6 (cx:=cx) hok hf hb hnm hres hunit ?_;intro w0 Pr M outer a w xs r Q hgl hF hlen hx hfin;have hk:=hok.ok dp hgl;obtain rfl:outer=[]:=yt0 hlen;obtain⟨x,u⟩:=xs;cases u;refine wp_seq (z7s (outer:=[]) hk hnat (h0 x) hx λE a1 w1 hE hx1=> ?_);obtain rfl:=yl0 hE;refine wp_seq (wp_seq (wp_region ?_));rw[show(List.range (#[o1,o2]:Array Oper).size)=List.range' 0 2 from by rw[<-List.range_eq_range'];rfl];simp only[List.range'_succ,List.range'_zero];rw[wpOps_cons];unfold wpOp;rw[show(#[o1,o2]:Array Oper)[0]? =some o1 from rfl];simp only;rw[show Region.wanted o1 (yielded #[o1,o2] a1.tmps)=true from by unfold Region.wanted;rw[hg1]];refine .inl (q7k (outer:=[]) hk hx1 (h1 x) _ _ λa2 w2 hx2=> ?_);rw[wpOps_cons];unfold wpOp;rw[show(#[o1,o2]:Array Oper)[0+1]? =some o2 from rfl];simp only;rw[show Region.wanted o2 (yielded #[o1,o2] a2.tmps)=true from by unfold Region.wanted;rw[hg2]]
 have hval:∃A c,a2.eval (.tmp t3)=.slice A (List.length (α:=PV T) x) c/\(A=none->x=([]:List (PV T))):=by
  obtain⟨⟨Pr',B,hst,hN⟩,hds⟩:=id hx2;have hso:=zcy hst (qx hst hx2.fr (.tmp t3)) (k:=0+t3) rfl;have hso:jd w2 Pr' _ _ B (0+t3) ((putE 0 o1.dst (z1 x)).at (0+t3)).s (a2.eval (.tmp t3)):=hso;rw[Nat.zero_add,h3 x] at hso;obtain⟨cs,q1,q2⟩:=hso;obtain⟨q3,A,c,rfl,q4,q5⟩:=za0.1 q2;refine⟨A,c,by rw[q1];rfl,λhA=> ?_⟩;rcases q5 with q5|⟨a,ys,q5,_⟩
  ·exact q5
  ·rw[hA] at q5;cases q5
 obtain⟨A,c,hv,hA⟩:=hval;refine .inl (q3g (outer:=[]) hx2 hop hd hts hv _ _ λa3 w3 hx3=> ?_)
 have hden:denK cx (rcN cx dp) pl 0 (.cond (.tmp t4) X .skip) (putE 0 (some t4) ⟨.val .bool .b A.isNone,putE 0 o1.dst (z1 x),[]⟩) (λt E=>match t with
  | .normal=>denK cx (rcN cx dp) pl 0 Y E (finX cx 0 rvs [(.bor,.slice te T)] rets)
  |t=>finX cx 0 rvs [(.bor,.slice te T)] rets t E)=some r:=by
  cases A with
  |some a=>exact(hff x).trans hF
  |none=>
   obtain rfl:=hA rfl;exact hft.trans hF
 show(Code.cond (.tmp t4) X .skip).wp P _ a3 w3;refine zqv (outer:=[]) hk hnat _ hlo.1 hden hx3 λt E' a' w' hkk hx'=> ?_;cases t with
 |normal=>exact zqv (outer:=[]) hk hnat Y hlo.2 hkk hx' λt E' a' w' hk' hx''=>hfin t E' a' w' hk' hx''
 |ret=>exact hfin .ret E' a' w' hkk hx'
 |exit id=>exact hfin (.exit id) E' a' w' hkk hx'
noncomputable def nilE (cx:Cx)(dp n:Nat)(te:TypeId)(T:Ty)(o0 o1:Oper)(x:PV (.slice te T)):Env:=
 putE 0 o1.dst ((opK cx (rcN cx dp) ((zcl cx (rcN cx dp) 0 #[o0] false (zbj [(.bor,.slice te T)] (x,()) n) some).getD []) 0 o1 some).getD (zc5 []))
noncomputable def nilD (cx:Cx)(pl:Plan)(dp n:Nat)(te:TypeId)(T:Ty)(rets:List (Ty×Ow))(rvs:List ResultVar)(o0 o1:Oper)(X Y:Code)(t4:Tmp)(b:Bool)(x:PV (.slice te T)):Option (PVs (rets.map (·.1))×PVs []):=
 denK cx (rcN cx dp) pl 0 (.cond (.tmp t4) X .skip) (putE 0 (some t4) ⟨.val .bool .b b,nilE cx dp n te T o0 o1 x,[]⟩) (λt E=>match t with
  | .normal=>denK cx (rcN cx dp) pl 0 Y E (finX cx 0 rvs [(.bor,.slice te T)] rets)
  |t=>finX cx 0 rvs [(.bor,.slice te T)] rets t E)
theorem q3h {cx:Cx}{pl:Plan}{dp:Nat}{k:FuncId}{fn:Func}{i0 i1:Nat}{o0 o1 o2:Oper}{X Y:Code}{t3 t4:Tmp}{ts te:TypeId}{T:Ty}{rets:List (Ty×Ow)}{rvs:List ResultVar}{F:PV (.slice te T)->Option (PVs (rets.map (·.1))×PVs [])}
 (hok:Ok0 P cx)(hf:P.funcs[k]? =some fn)
 (hb:fn.body=some (.seq (.region i0 #[o0] false) (.seq (.seq (.region i1 #[o1,o2] false) (.cond (.tmp t4) X .skip)) Y)))
 (hnm:(fn.name== "runtime.NumGoroutine")=false)(hres:fn.results=rvs.toArray)(hunit:(rets.all λq=> !q.1.isUnit)=true)
 (hg1:o1.guard=none)(hg2:o2.guard=none)(hop:o2.op=.binOp .eql ts (.tmp t3) (.const (.slice none 0 0)) ts)(hd:o2.dst=some t4)(hts:P.underlying ts=some (.slice te))
 (hlo:zcc cx (rcN cx dp) pl 0 (.cond (.tmp t4) X .skip)/\zcc cx (rcN cx dp) pl 0 Y)
 (h0:∀x:PV (.slice te T),(zcl cx (rcN cx dp) 0 #[o0] false (zbj [(.bor,.slice te T)] (x,()) fn.ntmps) some).isSome=true)
 (h1:∀x:PV (.slice te T),(opK cx (rcN cx dp) ((zcl cx (rcN cx dp) 0 #[o0] false (zbj [(.bor,.slice te T)] (x,()) fn.ntmps) some).getD []) 0 o1 some).isSome=true)
 (h3:∀x,((nilE cx dp fn.ntmps te T o0 o1 x).at t3).s=.val (.slice te T) .b x)
 (hff:∀x,nilD cx pl dp fn.ntmps te T rets rvs o0 o1 X Y t4 false x=F x)
 (hft:nilD cx pl dp fn.ntmps te T rets rvs o0 o1 X Y t4 true ([]:List (PV T))=F ([]:List (PV T))):FnOk cx.gl P k ⟨[(.bor,.slice te T)],rets,λx=>F x.1⟩:=
 q5q (E1:=λx=>(zcl cx (rcN cx dp) 0 #[o0] false (zbj [(.bor,.slice te T)] (x,()) fn.ntmps) some).getD [])
  (z1:=λx=>(opK cx (rcN cx dp) ((zcl cx (rcN cx dp) 0 #[o0] false (zbj [(.bor,.slice te T)] (x,()) fn.ntmps) some).getD []) 0 o1 some).getD (zc5 []))
  hok hf hb hnm hres hunit hg1 hg2 hop hd hts hlo (λx=>by
  obtain⟨y,hy⟩:=Option.isSome_iff_exists.1 (h0 x);rw[hy];rfl) (λx=>by
  obtain⟨y,hy⟩:=Option.isSome_iff_exists.1 (h1 x);rw[hy];rfl) h3 hff hft
end
end Go.Dn
end

section
/- Numbers as texts: strconv.Itoa by the library's own contract; functions that call themselves. -/
namespace Go.Dn
open Go.Shelf Go.Proofs
section
variable {P : Program} {g : Glob}
theorem q3i {k:FuncId}{pars:List (Mode×Ty)}{rets:List (Ty×Ow)}{Fs:Nat->PVs (pars.map (·.2))->Option (PVs (rets.map (·.1))×PVs (backs pars))}{N:PVs (pars.map (·.2))->Nat}
 (h:∀n,FnOk g P k ⟨pars,rets,Fs n⟩):FnOk g P k ⟨pars,rets,λx=>Fs (N x) x⟩:=
 ⟨(h 0).1,λw Pr vs xs bss r a1 a2 a3 a4 a5 a6 hr=>(h (N xs)).2 w Pr vs xs bss r a1 a2 a3 a4 a5 a6 hr⟩
theorem q3j {k:FuncId}{pars:List (Mode×Ty)}{rets:List (Ty×Ow)}(h:(rets.all λq=> !q.1.isUnit)=true):FnOk g P k ⟨pars,rets,λ_=>none⟩:=
 ⟨h,λ_ _ _ _ _ _ _ _ _ _ _ _ hr=>by cases hr⟩
theorem bor1 {t1:Ty}{w:World}{Pr:Nat->Prop}{vs:List Value}{xs:PVs [t1]}{bss:List (List Nat)}(h:zai w Pr [(.bor,t1)] vs xs bss):
 ∃v1,vs=[v1]/\bss=[[]]/\zx w Pr v1 t1 .b xs.1 []:=by
 match vs,bss,h with
 |[v1],[b1],⟨⟨h1,h2⟩,_⟩=>
  cases h2;exact⟨v1,rfl,rfl,h1⟩
 |[],[],h=>exact h.elim
 |[],_::_,h=>exact h.elim
 |_::_,[],h=>exact h.elim
 |[_],_::_::_,h=>exact h.2.elim
 |_::_::_,[_],h=>exact h.2.elim
 |_::_::_,_::_::_,h=>exact h.2.elim
theorem zqz {w:World}{Pr:Nat->Prop}{k:IntKind}{v:Value}{n:Int}{bs:List Nat}(h:zx w Pr v (.int k) .b n bs):v=.int k n:=by
 obtain⟨cs,rfl,h,_⟩:=h;rw[h];rfl
def znb (P:Program)(G:Nat):Glob where
 dom b:=b=G
 ok w:=P.globalNamed "internal/strconv.uint64pow10"=some G/\Lib.TabIs P w "internal/strconv.uint64pow10" .u64 Lib.pow10Tab
 stable w w' h hb:=⟨h.1,by
  have e:=hb G rfl;have h2:=h.2;unfold Lib.TabIs World.var? at h2 ⊢;rw[h.1] at h2 ⊢;simp only[ya0] at h2 ⊢;rw[e];exact h2⟩
 strs:=[]
 strs_ok _ _ _ h:=by cases h
theorem qxb {G:Nat}{w:World}(h:(znb P G).ok w):∀b,(znb P G).dom b->b<w.heap.size:=by
 rintro b rfl;have h2:=h.2;unfold Lib.TabIs World.var? at h2;rw[h.1] at h2;simp only[ya0] at h2;split at h2
 ·rename_i hq
  exact(ys1.1 hq).1
 ·cases h2
theorem qxc {G:Nat}:∀w,(znb P G).ok w->Lib.TabIs P w "internal/strconv.uint64pow10" .u64 Lib.pow10Tab:=λ_ h=>h.2
def zrq (n:Int):Option (PVs [.str]×PVs []):=bif decide (-9223372036854775808<=n)&&decide (n<=9223372036854775807) then some ((Lib.itoa n,()),()) else none
theorem q7l (hg:∀w,g.ok w->Lib.TabIs P w "internal/strconv.uint64pow10" .u64 Lib.pow10Tab){ρ:Ren}(L:LaysM.n171 P ρ):FnOk g P (ρ.f 171) ⟨[(.bor,.int .i64)],[(.str,.b)],λx=>zrq x.1⟩:=by
 refine⟨rfl,λw Pr vs xs bss r hpl hargs hnd hfr hgo hgd hr=>⟨⟨_,L.f171,rfl,by rfl⟩,?_⟩⟩;obtain⟨v1,rfl,rfl,h1⟩:=bor1 hargs;obtain rfl:=zqz h1;obtain⟨n,_⟩:=xs;dsimp only at hr;unfold zrq at hr;simp only[Bool.cond_eq_ite,yh0,yr0] at hr;split at hr
 ·rename_i hc
  obtain rfl:=yl0 hr;refine(Any.strconv_Itoa L n hc.1 hc.2 w (hg w hgo)).mono λe w' ⟨e1,k,os,e2⟩=> ?_;subst e2;refine⟨[.string ⟨(Lib.itoa n).toArray⟩],Pr,[],[[]],by rw[e1];rfl,⟨[],[],yh1 _,.inr ⟨[.string ⟨(Lib.itoa n).toArray⟩],rfl,rfl,rfl⟩,rfl⟩,⟨rfl,trivial⟩,by simp,λb hb=>by simp at hb,λb hb=>hb,λb hb=>.inl hb,rfl,rfl,rfl,?_,λb hb _=> ?_⟩
  ·show w.heap.size<=(w.heap++os).size
   simp
  ·show(w.heap++os)[b]? =_
   rw[Array.getElem?_append_left hb]
 ·cases hr
end
end Go.Dn
end

section
/- strings.Join and slices.Grow, by the library's own contracts. -/
namespace Go.Dn
open Go.Shelf Go.Proofs Go.RowKit
section
variable {P : Program} {g : Glob}
theorem cell_below {w:World}{a:Addr}{v:Value}(h:w.cell? a=some v):a.block<w.heap.size:=World.block_lt_of_cell? _ _ h
end
end Go.Dn
end
