/- Parts of the proof: Fk Fl Fm Fn Fo Fq Fr Fs Ga Gb Gc Gd Ge Gf Gh. -/
import Derived.Test.YtljgmcbpjakecaaGreatDoorL2
import Derived.Shelf.Strings.SplitCore
import Derived.Shelf.Strings.Count
import Derived.Shelf.Strings.Search3
import Derived.Lib.SplitLaws
import Derived.MakeChecks
import Derived.LaidMore
import Derived.LaidLaws
import Derived.LaidHandle
import Derived.Stop.Joined
import Derived.OpenShut
import Derived.ChangeArms
import Derived.Shelf.Strconv.ErrVarAll
import Derived.Shelf.Vars
import Derived.Lib.SmallJoins
import Derived.WalkKit
import Derived.Deep.LoopGhost
import Derived.Deep.RegionLaw
import Derived.Deep.DeepCutAuto
import Derived.Deep.DeepFit
import Derived.Laws.CopyOwn
import Derived.Shelf.Spec.SlicesInsert
import Derived.Shelf.Strings.IndexAnyAll
import Derived.Shelf.Small.Utf8
import Derived.Shelf.RegionOpenPlain
import Derived.Lib.OthersKept
import Derived.Laws.Runes
import Derived.Laws.RangeAny
import Derived.Lib.ItoaMem
set_option linter.unusedVariables false
section
/- Go's library, more of it: pieces of a text, places in a text. -/
namespace Go.Dn
open Go.Shelf Go.Proofs Go.RowKit
def Glob.both (a b:Glob):Glob where
 dom x:=a.dom x\/b.dom x
 ok w:=a.ok w/\b.ok w
 stable w w' h hb:=⟨a.stable w w' h.1 λx hx=>hb x (.inl hx),b.stable w w' h.2 λx hx=>hb x (.inr hx)⟩
 strs:=a.strs++b.strs
 strs_ok w h q hq:=by
  rcases yu0.1 hq with hq|hq
  ·obtain⟨h1,h2⟩:=a.strs_ok w h.1 q hq;exact⟨.inl h1,h2⟩
  ·obtain⟨h1,h2⟩:=b.strs_ok w h.2 q hq;exact⟨.inr h1,h2⟩
def zq0 (G:Nat):Glob where
 dom b:=b=G
 ok w:=∃m,w.cell? ⟨G,0,none⟩=some (.int .i64 m)
 stable w w' h hb:=by
  obtain⟨m,hm⟩:=h;refine⟨m,?_⟩;unfold World.cell? at hm ⊢;rw[show(⟨G,0,none⟩:Addr).block=G from rfl] at hm ⊢;rw[hb G rfl];exact hm
 strs:=[]
 strs_ok _ _ _ h:=by cases h
theorem qxd {G:Nat}{w:World}(h:(zq0 G).ok w):∀b,(zq0 G).dom b->b<w.heap.size:=by
 rintro b rfl;obtain⟨m,hm⟩:=h;exact cell_below hm
def zin (P:Program)(name:String)(G:Nat):Glob where
 dom b:=b=G
 ok w:=P.globalNamed name=some G/\∃tp p,w.var? P name=some #[.iface tp p]
 stable w w' h hb:=⟨h.1,by
  obtain⟨tp,p,h2⟩:=h.2;refine⟨tp,p,?_⟩;unfold World.var? at h2 ⊢;rw[h.1] at h2 ⊢;simp only[ya0] at h2 ⊢;rw[hb G rfl];exact h2⟩
 strs:=[]
 strs_ok _ _ _ h:=by cases h
theorem z6c {P:Program}{name:String}{G:Nat}{w:World}(h:(zin P name G).ok w):∀b,(zin P name G).dom b->b<w.heap.size:=by
 rintro b rfl;obtain⟨h1,tp,p,h2⟩:=h;unfold World.var? at h2;rw[h1] at h2;simp only[ya0] at h2;split at h2
 ·rename_i hq
  exact(ys1.1 hq).1
 ·cases h2
section
variable {P : Program} {g : Glob}
def zkx (s sub:List UInt8):Option (PVs [.int .i64]×PVs []):=
 match sub with
 |[c]=>some ((Lib.indexByte s c,()),())
 |_=>bif decide (s.length<4294967281) then some ((Lib.index s sub,()),()) else none
theorem qdv {w:World}{Pr:Nat->Prop}{k:IntKind}(n:Int):zat w Pr (zbe [(.int k,.b)] (n,())) [.int k n] []:=
 ⟨[],[],yh1 _,.inr ⟨[.int k n],rfl,rfl,rfl⟩,rfl⟩
theorem qtp {ρ:Ren}(hg:∀w,g.ok w->∃m,w.cell? ⟨ρ.g 1,0,none⟩=some (.int .i64 m))(L:Lays.n219 P ρ):FnOk g P (ρ.f 219) ⟨[(.bor,.str),(.bor,.str)],[(.int .i64,.b)],λx=>zkx x.1 x.2.1⟩:=by
 refine⟨rfl,λw Pr vs xs bss r hpl hargs hnd hfr hgo hgd hr=>⟨⟨_,L.f219,rfl,by rfl⟩,?_⟩⟩;obtain⟨v1,v2,rfl,rfl,h1,h2⟩:=bor2 hargs;obtain rfl:=zgm h1;obtain rfl:=zgm h2;obtain⟨s,sub,u⟩:=xs;dsimp only at hr
 have fin:∀(n:Int) (e:Ending) (w':World),(e=.returned (.int .i64 n)/\w'=w)->∃(rv:List Value) (Pr':Nat->Prop) (bv:List Nat) (bms:List (List Nat)),e=.returned (zdd rv)/\zat w' Pr' (zbe [(.int .i64,.b)] (n,())) rv bv/\zao w' Pr' [(.bor,.str),(.bor,.str)] [strV s,strV sub] () bms/\
  (bv++bms.flatten).Nodup/\(∀b∈bv++bms.flatten,(b∈([[],[]]:List (List Nat)).flatten\/w.heap.size<=b)/\¬Pr' b/\b<w'.heap.size)/\(∀b,Pr b->Pr' b)/\
  (∀b,Pr' b->Pr b\/(b∈([[],[]]:List (List Nat)).flatten\/w.heap.size<=b)/\b<w'.heap.size)/\w'.os=w.os/\w'.tape=w.tape/\w'.output=w.output/\w.heap.size<=w'.heap.size/\
  (∀b,b<w.heap.size->b∉([[],[]]:List (List Nat)).flatten->w'.heap[b]? =w.heap[b]?):=by
  rintro n e w' ⟨rfl,rfl⟩;exact⟨[.int .i64 n],Pr,[],[[],[]],rfl,qdv n,⟨rfl,rfl,trivial⟩,by simp,λb hb=>by simp at hb,λb hb=>hb,λb hb=>.inl hb,rfl,rfl,rfl,ym0 _,λb _ _=>rfl⟩
 unfold zkx at hr;split at hr
 ·rename_i c
  obtain rfl:=yl0 hr;exact(Any.stringslite_Index_one L ⟨⟨s⟩⟩ c w).mono λe w' h=>fin _ e w' h
 ·simp only[Bool.cond_eq_ite,yr0] at hr
  split at hr
  ·rename_i hc
   obtain rfl:=yl0 hr;obtain⟨m,hm⟩:=hg w hgo;exact(Any.stringslite_Index L ⟨⟨s⟩⟩ ⟨⟨sub⟩⟩ m w hc hm).mono λe w' h=>fin _ e w' h
  ·cases hr
def zph (s:List UInt8)(c:Int):Option (PVs [.int .i64]×PVs []):=some ((Lib.indexByte s c.toNat.toUInt8,()),())
theorem qtq {ρ:Ren}(L:Lays.n217 P ρ):FnOk g P (ρ.f 217) ⟨[(.bor,.str),(.bor,.int .u8)],[(.int .i64,.b)],λx=>zph x.1 x.2.1⟩:=by
 refine qal ⟨_,L.f217,rfl,by rfl⟩ rfl (λh=> ?_) λw Pr vs xs bss r h hF=> ?_
 ·obtain⟨v1,v2,rfl,rfl,_,_⟩:=bor2 h
  exact⟨rfl,λr=>⟨rfl,rfl,trivial⟩⟩
 ·obtain⟨v1,v2,rfl,rfl,h1,h2⟩:=bor2 h
  obtain rfl:=zgm h1;obtain rfl:=zqz h2;obtain⟨s,c,_⟩:=xs;dsimp only at hF;unfold zph at hF;obtain rfl:=yl0 hF;exact(Any.stringslite_IndexByte L ⟨⟨s⟩⟩ c w).mono λe w' ⟨e1,e2⟩=>⟨⟨[.int .i64 (Lib.indexByte s c.toNat.toUInt8)],by rw[e1];rfl,qdv _⟩,e2⟩
def zre (te:TypeId)(s sep:List UInt8)(sv n:Int):Option (PVs [.slice te .str]×PVs []):=
 match sep with
 |[c]=>bif (sv==1)&&((n==-1)&&decide (s.length<=1073741824)) then some ((Lib.splitK [c] 1 (s.count c) s,()),()) else none
 |_=>none
theorem bor4 {t1 t2 t3 t4:Ty}{w:World}{Pr:Nat->Prop}{vs:List Value}{xs:PVs [t1,t2,t3,t4]}{bss:List (List Nat)}(h:zai w Pr [(.bor,t1),(.bor,t2),(.bor,t3),(.bor,t4)] vs xs bss):
 ∃v1 v2 v3 v4,vs=[v1,v2,v3,v4]/\bss=[[],[],[],[]]/\zx w Pr v1 t1 .b xs.1 []/\zx w Pr v2 t2 .b xs.2.1 []/\zx w Pr v3 t3 .b xs.2.2.1 []/\zx w Pr v4 t4 .b xs.2.2.2.1 []:=by
 cases vs with
 |nil=>cases bss<;>exact h.elim
 |cons v1 vs=>
  cases bss with
  |nil=>exact h.elim
  |cons b1 bss=>
   obtain⟨⟨h1,e1⟩,h⟩:=h;cases vs with
   |nil=>cases bss<;>exact h.elim
   |cons v2 vs=>
    cases bss with
    |nil=>exact h.elim
    |cons b2 bss=>
     obtain⟨⟨h2,e2⟩,h⟩:=h;cases vs with
     |nil=>cases bss<;>exact h.elim
     |cons v3 vs=>
      cases bss with
      |nil=>exact h.elim
      |cons b3 bss=>
       obtain⟨⟨h3,e3⟩,h⟩:=h;cases vs with
       |nil=>cases bss<;>exact h.elim
       |cons v4 vs=>
        cases bss with
        |nil=>exact h.elim
        |cons b4 bss=>
         obtain⟨⟨h4,e4⟩,h⟩:=h;cases vs with
         |cons _ _=>cases bss<;>exact h.elim
         |nil=>
          cases bss with
          |cons _ _=>exact h.elim
          |nil=>
           cases e1;cases e2;cases e3;cases e4;exact⟨v1,v2,v3,v4,rfl,rfl,h1,h2,h3,h4⟩
theorem z4e {w:World}{Pr:Nat->Prop}{o:Ow}:∀(l:List (List UInt8)),RepL (Rep w Pr .str o) (l.map strV) l []
 |[]=>⟨rfl,rfl⟩
 |x::l=>⟨[strV x],l.map strV,[],[],rfl,yh1 _,⟨rfl,rfl⟩,z4e l⟩
theorem split_ok {ρ:Ren}{te:TypeId}(hte:ρ.t 9=te)(L:Lays.n221 P ρ)(hi:(P.info? te).map (λi=>(i.zero,i.size,i.bytes))=some (some (.string ByteArray.empty),1,16)):
 FnOk g P (ρ.f 221) ⟨[(.bor,.str),(.bor,.str),(.bor,.int .i64),(.bor,.int .i64)],[(.slice te .str,.row .b)],λx=>zre te x.1 x.2.1 x.2.2.1 x.2.2.2.1⟩:=by
 subst hte;refine⟨rfl,λw Pr vs xs bss r hpl hargs hnd hfr hgo hgd hr=>⟨⟨_,L.f221,rfl,by rfl⟩,?_⟩⟩;obtain⟨v1,v2,v3,v4,rfl,rfl,h1,h2,h3,h4⟩:=bor4 hargs;obtain rfl:=zgm h1;obtain rfl:=zgm h2;obtain rfl:=zqz h3;obtain rfl:=zqz h4;obtain⟨s,sep,sv,n,u⟩:=xs;dsimp only at hr;unfold zre at hr;split at hr
 ·rename_i c
  simp only[Bool.cond_eq_ite,yh0,yy0,yr0] at hr;split at hr
  ·rename_i hc
   obtain⟨rfl,rfl,hlen⟩:=hc;obtain rfl:=yl0 hr;have hcount:s.count c<=s.length:=List.count_le_length;have hcB:Lib.countB ⟨⟨s⟩⟩ ⟨⟨[c]⟩⟩=s.count c:=Lib.count_one c s;have hall:=Lib.splitB_all (⟨⟨[c]⟩⟩:ByteArray) (by show 1<=1;omega) 1 _ (⟨⟨s⟩⟩:ByteArray) hcB;have hdat:=Lib.splitB_data (⟨⟨[c]⟩⟩:ByteArray) 1 (s.count c) (⟨⟨s⟩⟩:ByteArray);have hsz:(⟨⟨s⟩⟩:ByteArray).size=s.length:=rfl
   refine(Any.strings_genSplit_core L hi ⟨⟨s⟩⟩ ⟨⟨[c]⟩⟩ 1 (-1) (s.count c+1) w (by rw[hsz];omega) (by show 1<=1;omega) (by show 1<=1;omega)
    (λx cs hx=>by
      have:=Any.strings_Index_one {L with} x c (w.alloc (.cells cs (ρ.t 9)));rw[<-Lib.index_one] at this;exact this)
    (by
      have:=Any.strings_Count_one {L with} ⟨⟨s⟩⟩ c w;rw[hcB];exact this) (by decide) (by decide) (by rw[yx0 (by decide),hcB,hsz];omega)).mono λe w' ⟨e1,e2⟩=> ?_
   rw[Nat.add_sub_cancel] at e1 e2
   have hpl2:(Lib.splitK [c] 1 (s.count c) s).length=s.count c+1:=by
    have:=congrArg List.length hdat;rw[yu1,hall] at this;exact this.symm
   have hcells:Lib.cellsOf (Lib.splitB ⟨⟨[c]⟩⟩ 1 (s.count c) ⟨⟨s⟩⟩) (s.count c+1)=((Lib.splitK [c] 1 (s.count c) s).map strV).toArray:=by
    rw[<-hall,Lib.cellsOf_full];congr 1;have e3:Lib.splitK [c] 1 (s.count c) s=(Lib.splitB ⟨⟨[c]⟩⟩ 1 (s.count c) ⟨⟨s⟩⟩).map (·.data.toList):=hdat.symm;rw[e3,List.map_map];rfl
   rw[hcells] at e2;rw[hall] at e1;subst e2;have hnew:(w.alloc (.cells ((Lib.splitK [c] 1 (s.count c) s).map strV).toArray (ρ.t 9))).heap[w.heap.size]? =some (.cells ((Lib.splitK [c] 1 (s.count c) s).map strV).toArray (ρ.t 9) (0,0)):=heap_alloc_new w _
   have hlt:w.heap.size<(w.alloc (.cells ((Lib.splitK [c] 1 (s.count c) s).map strV).toArray (ρ.t 9))).heap.size:=(ys1.1 hnew).1;refine⟨[.slice (some ⟨w.heap.size,0,none⟩) (s.count c+1) (s.count c+1)],Pr,[w.heap.size],[[],[],[],[]],e1,⟨[w.heap.size],[],by simp,.inr ⟨_,rfl,jy.2 ⟨_,(Lib.splitK [c] 1 (s.count c) s).map strV,[],rfl,?_,by simp[Value.ownBlock],z4e _⟩⟩,rfl⟩,⟨rfl,rfl,rfl,rfl,trivial⟩,by simp,λb hb=> ?_,λb hb=>hb,λb hb=>.inl hb,rfl,rfl,rfl,by omega,λb hb _=>zje w _ _ hb⟩
   ·refine⟨by simp[Ty.size],.inr ⟨w.heap.size,s.count c+1,_,by rw[hpl2],ye1 _,hnew,by rw[hpl2];exact ym0 _,by simp only[maxLen];omega,by simp[hpl2,Ty.size],?_⟩⟩
    rw[List.toList_toArray];exact yv2 (by simp[Ty.size])
   ·obtain rfl:b=w.heap.size:=by simpa using hb
    exact⟨.inr (ym0 _),λhp=>absurd (hpl _ hp) (by omega),hlt⟩
  ·cases hr
 ·cases hr
end
end Go.Dn
end

section
/- A law's row: package-level variables that are laid or named, and what a world's shape tells. -/
namespace Go.Dn
open Go.ChangeShapes Go.WideShapes Go.ChangeAt Go.RowKit
section
variable {P : Program} {W : World}
theorem zvs:∀{l:List (String×DataW Unit)} {ps:List MemPlace} {n:String} {D:DataW Unit},DataW.LaidVars P W l ps->(n,D)∈l->
 ∃g t cs fuel p,P.globalNamed n=some g/\(P.globals[g]?).map (·.type)=some t/\W.var? P n=some cs/\DataW.trod (λ_=>()) P W 0 (λ_=>true) false fuel t cs.toList=some (D,p)/\∀x∈MemPlace.row ⟨g,0,none⟩ cs.size,x∈ps
 |(m,d)::r,ps,n,D,⟨g,t,cs,fuel,p,q,h1,h2,h3,h4,h5,e⟩,hm=>by
  rcases yg1.1 hm with hm|hm
  ·obtain⟨rfl,rfl⟩:=yk1 hm
   exact⟨g,t,cs,fuel,p,h1,h2,h3,h4,λx hx=>by rw[e];simp[hx]⟩
  ·obtain⟨g',t',cs',fuel',p',k1,k2,k3,k4,k5⟩:=zvs h5 hm
   exact⟨g',t',cs',fuel',p',k1,k2,k3,k4,λx hx=>by rw[e];simp[k5 x hx]⟩
theorem q5r {l:List (String×DataW Unit)}{name:String}{k:IntKind}{zs:List Int}{G:Nat}{t e:TypeId}{n:Nat}(h:laidMet P l W)(hm:(name,Lib.tabData k zs)∈l)
 (hg:P.globalNamed name=some G)(hty:(P.globals[G]?).map (·.type)=some t)(ht:P.underlying t=some (.array n e))(he:P.underlying e=some (.int k))(hce:P.cellsOf e=1)(hct:P.cellsOf t=n):Lib.TabIs P W name k zs:=by
 obtain⟨ps,hl,_,_⟩:=h;obtain⟨g,t',cs,fuel,p,k1,k2,k3,k4,_⟩:=zvs hl hm;obtain rfl:=yl0 (hg.symm.trans k1);obtain rfl:=yl0 (hty.symm.trans k2);unfold Lib.TabIs;rw[k3,<-Lib.cells_of_tab ht he hce hct k4]
theorem qci {l:List (String×DataW Unit)}{name nm:String}{D:DataW Unit}{G:Nat}{t:TypeId}{ms:Array (String×TypeId)}(h:laidMet P l W)(hm:(name,.iface nm D)∈l)
 (hg:P.globalNamed name=some G)(hty:(P.globals[G]?).map (·.type)=some t)(ht:P.underlying t=some (.interface ms)):(zin P name G).ok W:=by
 obtain⟨ps,hl,_,_⟩:=h;obtain⟨g,t',cs,fuel,p,k1,k2,k3,k4,_⟩:=zvs hl hm;obtain rfl:=yl0 (hg.symm.trans k1);obtain rfl:=yl0 (hty.symm.trans k2);obtain⟨_,u,v,e,_,_⟩:=iface_of_trod ht k4;refine⟨hg,u,v,?_⟩;rw[k3];obtain⟨c⟩:=cs;simp only at e;rw[e]
variable {H : Type} {enc : TypeId × Value → H}
theorem qam {T:TypeId->Prop}(K:Kids P T)(hz:∀t e,T t->P.underlying t=some (.slice e)->0<P.cellsOf e){W W':World}(hk:∀b,b<W.heap.size->W'.heap[b]? =W.heap[b]?){sp':Nat->Bool}:
 ∀{ns:List String} {ds:List (DataW H)} {ps:List MemPlace},(∀n∈ns,∀g t,P.globalNamed n=some g->(P.globals[g]?).map (·.type)=some t->T t)->DataW.TrodVars enc P W (λ_=>true) ns ds ps->(∀p∈ps,p.block<W.heap.size)->(∀p∈ps,sp' p.block=true)->DataW.TrodVars enc P W' sp' ns ds ps
 |[],[],_,_,h,_,_=>h
 |[],_::_,_,_,h,_,_=>h.elim
 |_::_,[],_,_,h,_,_=>h.elim
 |n::ns,d::ds,ps,hT,h,hp,hs=>by
  obtain⟨g,t,cs,fuel,p,q,h1,h2,h3,h4,h5,e⟩:=h;have hp2:∀x∈p,x.block<W.heap.size:=λx hx=>hp x (by rw[e];simp[hx]);refine⟨g,t,cs,fuel,p,q,h1,h2,?_,DataW.trod_carry fuel _ _ _ (DataW.trod_respare K hz fuel _ _ _ (hT n (yk0 ..) g t h1 h2) h4 λx hx=>hs x (by rw[e];simp at hx ⊢;exact .inr (.inl hx))) (λx hx=> ?_),qam K hz hk (λm hm=>hT m (yg0 _ hm)) h5 (λx hx=>hp x (by rw[e];simp[hx])) (λx hx=>hs x (by rw[e];simp[hx])),e⟩
  ·unfold World.var? at h3 ⊢
   rw[h1] at h3 ⊢;simp only[ya0] at h3 ⊢
   have hg:g<W.heap.size:=by
    cases hh:W.heap[g]? with
    |none=>rw[hh] at h3;cases h3
    |some o=>exact(ys1.1 hh).1
   rw[hk g hg];exact h3
  ·have:=hp2 x hx
   cases x with
   |cell b off=>exact qak hk this
   |map b=>exact hk b this
theorem q3k {T:TypeId->Prop}(K:Kids P T)(hz:∀t e,T t->P.underlying t=some (.slice e)->0<P.cellsOf e){f:Func}{s:ChangeSpec}(hT:∀t∈f.params.toList,T t)(hTv:∀n∈s.vars,∀g t,P.globalNamed n=some g->(P.globals[g]?).map (·.type)=some t->T t){W W':World}{args:Array Value}{ds gs:List (DataW H)}{before:List MemPlace}
 (hW:DataW.Whole enc P f.params.toList s.vars false W args.toList ds gs before)(hk:∀b,b<W.heap.size->W'.heap[b]? =W.heap[b]?)(hos:W'.os=W.os)(hout:W'.output=W.output)
 (hs1:(s.fn H (ds++gs)).results=[.lit (.bool true)])(hs2:(s.fn H (ds++gs)).args=ds)(hs3:(s.fn H (ds++gs)).vars=gs){tb:TypeId}(hrt:f.resultTypes= #[tb])(hb:P.underlying tb=some .bool):s.post enc P f false true false false W args (.bool true) W':=by
 have hlt:=hW.lt;obtain⟨p,q,h1,h2,h3,h4,h5⟩:=id hW;have hlp:∀x∈p,x.block<W.heap.size:=λx hx=>hlt x (by rw[h3];exact yv0 _ hx);have hlq:∀x∈q,x.block<W.heap.size:=λx hx=>hlt x (by rw[h3];exact yq0 _ hx);refine⟨ds,gs,before,[],p,q,hW,?_,?_,?_,⟨hos,hout,λi hi=> ?_⟩,λh=>by cases h⟩
 ·rw[hs1,hrt]
  exact trodAll_cons_mk (shut_bool hb _) trodAll_mk0
 ·rw[hs2]
  exact qcg hk (h1.respare K hz hT λx hx=>by simpa using hlp x hx) hlp
 ·rw[hs3]
  exact qam K hz hk hTv h2 hlq (λx hx=>by simpa using hlq x hx)
 ·rw[hk i hi]
  cases h:W.heap[i]? with
  |none=>rfl
  |some o=>cases o<;>simp
end
theorem qtr {C:Checked}{tab:List (TypeId×Ty)}{os:Os}{k:FuncId}{fn:Func}{s:ChangeSpec}{conds:List PathCond}{H:Type}{enc:TypeId×Value->H}{tb:TypeId}
 {pars:List (Mode×Ty)}{F:PVs (pars.map (·.2))->Option (PVs [.bool]×PVs (backs pars))}{laid:List (String×DataW Unit)}{g:Glob}{nv:Nat}
 (own:ownKnob C.prog.godebug=none)(started:os.Started)(noInit:C.prog.inits.idxOf? k=none)(hfn:C.prog.funcs[k]? =some fn)
 (witness:∃(w:World) (tape:Tape) (i:Input),w.os=os/\(w.forCall tape i).Shaped C.prog/\i.vars=[]/\Input.okWide C.prog (w.forCall tape i) .any w.heap.size k i/\
   ((s.pre enc C.prog fn conds false (w.forCall tape i).memory i.args/\laidMetH C.prog laid (w.forCall tape i).memory)/\sizedMet enc C.prog fn (OpenSpec.ofChange s) false (w.forCall tape i).memory i.args)/\({}:Assume).holds C.prog (lone (Frame.enter C.prog k i.args .normal) [] (w.forCall tape i)))
 (hlaid:laidOutB C.prog=true)(hmaps:mapsRowed C.prog=true)
 (hslices:((List.range C.prog.types.size).all λt=>match C.prog.underlying t with|some (.slice e)=>decide (0<C.prog.cellsOf e)|_=>true)=true)
 (hps:fn.params.toList.all (λt=>decide (t<C.prog.types.size))=true)
 (hvs:(s.vars.all λn=>match C.prog.globalNamed n with|some g=>(match (C.prog.globals[g]?).map (·.type) with|some t=>decide (t<C.prog.types.size)|none=>true)|none=>true)=true)
 (hnv:s.vars.length=nv)(hrt:fn.resultTypes= #[tb])(hb:C.prog.underlying tb=some .bool)
 (hspec:∀ds gs:List (DataW H),ds.length=pars.length->gs.length=nv->(s.fn H (ds++gs)).results=[.lit (.bool true)]/\(s.fn H (ds++gs)).args=ds/\(s.fn H (ds++gs)).vars=gs)
 (htab:ji C.prog tab)(hk:FnOk g C.prog k ⟨pars,[(.bool,.b)],F⟩)(hp:zfm tab fn.params.toList pars=true)
 (hF:∀x,WfVs (pars.map (·.2)) x->∃bk,F x=some ((true,()),bk))
 (hgl:∀W:World,laidMetH C.prog laid W->W.ShapedOpen C.prog->g.ok W/\∀b,g.dom b->b<W.heap.size):
 ReturnsInHanded {} C os k .any (λw args=>(s.pre enc C.prog fn conds false w args/\laidMetH C.prog laid w)/\sizedMet enc C.prog fn (OpenSpec.ofChange s) false w args) (s.post enc C.prog fn false true false false):=by
 refine returnsInHanded_of_calls own started noInit witness ?_;intro w tape i _ hshape _ hok hpre hholds;obtain⟨_,_,_,fn',hfn',_,_,_,_,hval⟩:=hok;have e:fn'=fn:=yl0 (hfn'.symm.trans hfn);subst e;obtain⟨⟨⟨ds,gs,before,hw,_⟩,hx⟩,_⟩:=hpre;have hW:=DataW.Whole.of_heap (w':=w.forCall tape i) (by rfl) hw;have hL:laidMetH C.prog laid (w.forCall tape i):=laidMetH.of_heap (by rfl) hx;obtain⟨p,q,hA,hV,_,_,_⟩:=id hW;have hT:∀t∈fn'.params.toList,t<C.prog.types.size:=λt ht=>by simpa using ys2.1 hps t ht
 have hlen:ds.length=pars.length:=by
  have h1:∀{ts:List TypeId} {vs:List Value} {ds:List (DataW H)} {ps:List MemPlace},DataW.TrodAll enc C.prog (w.forCall tape i) 0 (λ_=>true) true ts vs ds ps->ds.length=ts.length:=by
   intro ts
   induction ts with
   |nil=>intro vs ds ps h;cases vs<;>cases ds<;>simp_all[DataW.TrodAll]
   |cons t ts ih=>
    intro vs ds ps h;cases vs with
    |nil=>exact h.elim
    |cons v vs=>
     cases ds with
     |nil=>exact h.elim
     |cons d ds=>
      obtain⟨_,_,_,h,_⟩:=h;simp[ih h]
  have h2:∀{ts:List TypeId} {ps:List (Mode×Ty)},zfm tab ts ps=true->ts.length=ps.length:=by
   intro ts
   induction ts with
   |nil=>intro ps h;cases ps<;>simp_all[zfm]
   |cons t ts ih=>
    intro ps h;cases ps with
    |nil=>simp[zfm] at h
    |cons p ps=>
     obtain⟨m,T⟩:=p;simp only[zfm,yh0] at h;simp[ih h.2]
  rw[h1 hA,h2 hp]
 have hgs:gs.length=nv:=by
  have h1:∀{ns:List String} {gs:List (DataW H)} {ps:List MemPlace},DataW.TrodVars enc C.prog (w.forCall tape i) (λ_=>true) ns gs ps->gs.length=ns.length:=by
   intro ns
   induction ns with
   |nil=>
    intro gs ps h;cases gs with
    |nil=>rfl
    |cons=>exact h.elim
   |cons n ns ih=>
    intro gs ps h;cases gs with
    |nil=>exact h.elim
    |cons d gs=>
     obtain⟨_,_,_,_,_,_,_,_,_,_,h,_⟩:=h;simp[ih h]
  rw[h1 hV,hnv]
 have hTv:∀n∈s.vars,∀g t,C.prog.globalNamed n=some g->(C.prog.globals[g]?).map (·.type)=some t->t<C.prog.types.size:=λn hn g t h1 h2=>by
  have:=ys2.1 hvs n hn;rw[h1] at this;simp only[h2] at this;simpa using this
 obtain⟨s1,s2,s3⟩:=hspec ds gs hlen hgs;obtain⟨g1,g2⟩:=hgl _ hL hshape;refine(q5p hk g1 g2 htab hp hF (z4d htab hA) (λj t v h1 h2=>hval j t v (by rw[<-yl2];exact h1) (by rw[<-yl2];exact h2))).mono λe W' ⟨he,h1,h2,h3⟩=> ?_;subst he;exact ChangeSpec.post_blind (q3k (kids_rows hlaid hmaps) (slices_full_of _ hslices) hT hTv hW h3 h1 h2 s1 s2 s3 hrt hb)
end Go.Dn
end

section
/- Numbers read out of texts, as a contract of this text's form. -/
namespace Go.Dn
open Go.Shelf Go.Proofs Go.RowKit
def numV (s:List UInt8):Int:=match Lib.atoiAll s with
 | .ok v=>v
 | .range=>Lib.atoiSat s
 |_=>0
def numB (s:List UInt8):Bool:=match Lib.atoiAll s with
 | .ok v=>decide (0<=v)&&(decide (s.length<=4)&&(Lib.itoa v==s))
 |_=>false
def numF (s:List UInt8):Option (PVs [.int .i64,.bool]×PVs []):=bif decide (s.length<=1000000) then some ((numV s,numB s,()),()) else none
theorem atoi_bound {s:List UInt8}{v:Int}(h:Lib.atoiAll s=.ok v): -9223372036854775808<=v/\v<=9223372036854775807:=by
 unfold Lib.atoiAll at h;split at h
 ·cases h
 ·dsimp only at h
  split at h
  ·cases h
  ·cases h
  ·split at h
   ·cases h
   ·split at h
    ·cases h
    ·rename_i h1 h2
     injection h with h;split at h
     ·rename_i hn
      have:¬(9223372036854775808<_):=λhh=>h2 ⟨hn,hh⟩;omega
     ·rename_i hn
      have:¬(9223372036854775808<=_):=λhh=>h1 ⟨hn,hh⟩;omega
section
variable {P : Program} {g : Glob}
theorem var_below {w w':World}{n:String}{cs:Array Value}(h:w.var? P n=some cs)(hb:Below w.heap.size w w'):w'.var? P n=some cs:=by
 unfold World.var? at h ⊢;cases hg:P.globalNamed n with
 |none=>rw[hg] at h;cases h
 |some G=>
  rw[hg] at h;simp only[ya0] at h ⊢
  have hlt:G<w.heap.size:=by
   cases hh:w.heap[G]? with
   |none=>rw[hh] at h;cases h
   |some o=>exact(ys1.1 hh).1
  rw[hb.block G hlt];exact h
theorem tab_below {w w':World}{n:String}{k:IntKind}{zs:List Int}(h:Lib.TabIs P w n k zs)(hb:Below w.heap.size w w'):Lib.TabIs P w' n k zs:=var_below h hb
theorem qxe {k:FuncId}(hfn:∃fn,P.funcs[k]? =some fn/\fn.body.isSome=true/\(fn.name== "runtime.NumGoroutine")=false)
 (h:∀(s:ByteArray) (w:World),s.size<=1000000->g.ok w->Calls P k #[.string s] w λe w'=>e=.returned (.tuple #[.int .i64 (numV s.data.toList),.bool (numB s.data.toList)])/\Below w.heap.size w w'):
 FnOk g P k ⟨[(.bor,.str)],[(.int .i64,.b),(.bool,.b)],λx=>numF x.1⟩:=by
 refine⟨rfl,λw Pr vs xs bss r hpl hargs hnd hfr hgo hgd hr=>⟨hfn,?_⟩⟩;obtain⟨v1,rfl,rfl,h1⟩:=bor1 hargs;obtain rfl:=zgm h1;obtain⟨s,u⟩:=xs;dsimp only at hr;unfold numF at hr;simp only[Bool.cond_eq_ite,yr0] at hr;split at hr
 ·rename_i hc
  obtain rfl:=yl0 hr;refine(h ⟨⟨s⟩⟩ w hc hgo).mono λe w' ⟨e1,hb⟩=> ?_;subst e1;exact⟨[.int .i64 (numV s),.bool (numB s)],Pr,[],[[]],rfl,⟨[],[],yh1 _,.inr ⟨[.int .i64 (numV s)],rfl,rfl,rfl⟩,⟨[],[],yh1 _,.inr ⟨[.bool (numB s)],rfl,rfl,rfl⟩,rfl⟩⟩,⟨rfl,trivial⟩,by simp,λb hb=>by simp at hb,λb hb=>hb,λb hb=>.inl hb,hb.os,hb.tape,hb.output,hb.size,λb h _=>hb.block b h⟩
 ·cases hr
end
end Go.Dn
end

section
/- Rows of hunks, copied whole: each hunk with a row of texts of its own. -/
namespace Go.Dn
open Go.Shelf Go.Proofs Go.RowKit
section
variable {P : Program} {g : Glob} {eH eS : TypeId}
theorem q5s {w':World}{Pr':Nat->Prop}{t:Ty}{v:Value}{r:PVs []}:∀{bms:List (List Nat)},zao w' Pr' [(.bor,t)] [v] r bms->bms=[[]]
 |[],h=>h.elim
 |[_],⟨h,_⟩=>by rw[h]
 |_::_::_,h=>h.2.elim
theorem one_row {w':World}{Pr':Nat->Prop}{eT:TypeId}{t:Ty}{oe:Ow}{x:PV (.slice eT t)}{rv:List Value}{bv:List Nat}
 (h:zat w' Pr' (zbe [(.slice eT t,.row oe)] (x,())) rv bv):∃v,rv=[v]/\Rep w' Pr' (.slice eT t) (.row oe) [v] x bv:=by
 match rv,h with
 |[],h=>exact h.elim
 |v::vs,⟨b1,b2,e,h1,h2⟩=>
  cases vs with
  |cons _ _=>exact h2.elim
  |nil=>
   obtain rfl:b2=[]:=h2;rcases h1 with h1|⟨cs,h1,h3⟩
   ·cases h1
   ·obtain⟨v',ys,b',rfl,k⟩:=jy.1 h3
    obtain rfl:v=v':=h1;exact⟨v,rfl,h3.perm (by simpa using e.symm)⟩
end
end Go.Dn
end

section
/- slices.Replace: one element in the place of two: as a contract of this text's form. -/
namespace Go.Dn
open Go.Shelf Go.Proofs Go.RowKit
def qfn (a b:World):Prop:=a.heap=b.heap/\a.os=b.os/\a.tape=b.tape/\a.output=b.output
theorem qfn.refl (a:World):qfn a a:=⟨rfl,rfl,rfl,rfl⟩
theorem qz7 {α:Type}(L:List α)(o:Nat)(v:α)(r:List α)(h:o<L.length):splice (L.set o v) (o+1) r=splice L o (v::r):=by
 unfold splice;rw[List.take_set,List.drop_set_of_lt (by omega),yf0,show o+(r.length+1)=o+1+r.length by omega,List.take_succ_eq_append_getElem h,List.set_append_right _ _ (by rw[yr1];omega),yr1,Nat.min_eq_left (by omega),Nat.sub_self];simp
theorem z2g (b:Nat)(t:TypeId):∀(vs:List Value) (o:Nat) (w:World) (cur:Array Value),w.heap[b]? =some (.cells cur t (0,0))->o+vs.length<=cur.size->
 ∃cur2:Array Value,(w.setCells b o vs).heap[b]? =some (.cells cur2 t (0,0))/\cur2.toList=splice cur.toList o vs
 |[],o,w,cur,h,_=>⟨cur,h,by simp[splice]⟩
 |v::r,o,w,cur,h,hl=>by
  rw[yf0] at hl;obtain⟨cur2,h1,h2⟩:=z2g b t r (o+1) (w.setCell ⟨b,o,none⟩ v) _ (heap_setCell_same w b o cur t v h) (by simp;omega);refine⟨cur2,h1,?_⟩;rw[h2,Array.toList_setIfInBounds];exact qz7 _ _ _ _ (by simp;omega)
theorem heap_setCells_other (b:Nat):∀(vs:List Value) (o:Nat) (w:World) (k:Nat),k≠b->(w.setCells b o vs).heap[k]? =w.heap[k]?
 |[],_,_,_,_=>rfl
 |v::r,o,w,k,h=>(heap_setCells_other b r (o+1) _ k h).trans (heap_setCell_other w _ k v h)
theorem size_setCells (b:Nat):∀(vs:List Value) (o:Nat) (w:World),(w.setCells b o vs).heap.size=w.heap.size
 |[],_,_=>rfl
 |v::r,o,w=>(size_setCells b r (o+1) _).trans (by simp)
theorem z2h (b:Nat):∀(vs:List Value) (o:Nat) (w:World),(w.setCells b o vs).os=w.os/\(w.setCells b o vs).tape=w.tape/\(w.setCells b o vs).output=w.output
 |[],_,_=>⟨rfl,rfl,rfl⟩
 |v::r,o,w=>z2h b r (o+1) (w.setCell ⟨b,o,none⟩ v)
section
variable {P : Program} {g : Glob} {e1 : TypeId} {T : Ty}
end
end Go.Dn
end

section
/- Rows that are kept: slices.DeleteFunc on a row of pairs of a number and a text, as a contract of this text's form. -/
namespace Go.Dn
open Go.Shelf Go.Proofs Go.RowKit
def zRow (n:Nat):List Value:=(Builtin.zeroCells #[.int .i64 0,strV []] n).toList
theorem zqg (n:Nat):(zRow n).length=n*2:=by simp[zRow,Builtin.zeroCells]
theorem q5t (n:Nat):∀v∈zRow n,v.oneCell'=true:=by
 intro v hv;simp only[zRow,Builtin.zeroCells,Array.toList_map,List.mem_map] at hv;obtain⟨i,_,rfl⟩:=hv;have:i%2=0\/i%2=1:=by omega
 show(#[Value.int .i64 0,strV []][i%2]!).oneCell'=true;rcases this with h|h<;>rw[h]<;>rfl
theorem qqr {P:Program}(w:World)(t e ty:TypeId)(ht:P.underlying t=some (.slice e))(hv:∀w,(zeroValue e).run P w=.ok (.agg #[.int .i64 0,strV []]) w)(b o n c:Nat)(hn:0<n)
 (hc:∀j,j<n*2->(w.cell? ⟨b,o+j,none⟩).isSome=true)(hf:∀j,j<n*2->w.frozen? ⟨b,o+j,none⟩=false):
 (Builtin.clear_ #[t] ty #[.slice (some ⟨b,o,none⟩) n c]).run P w=.ok (.tuple #[]) (w.setCells b o (zRow n)):=by
 have hst:=run_storeCells_cells (P:=P) b o (zRow n) 0 w (by simpa[zqg] using hc) (by simpa[zqg] using hf) (q5t n);simp only[Nat.add_zero] at hst;obtain⟨m,rfl⟩:∃m,n=m+1:=⟨n -1,by omega⟩;unfold zRow at hst;simp[Builtin.clear_,run_underlying ht,hv,Value.cells,hst,zRow]
@[reducible] def zaa:Ty:=.pair (.int .i64) (.pair .str .unit)
def rowC (x:PV zaa):List Value:=[.int .i64 x.1,strV x.2.1]
def cellsOf (L:List (PV zaa)):List Value:=L.flatMap rowC
theorem zo3:∀(L:List (PV zaa)),(cellsOf L).length=L.length*2
 |[]=>rfl
 |x::L=>by
  show(rowC x++cellsOf L).length=_;rw[ye0,zo3 L,yf0];show 2+_=_;omega
theorem ztc (x:PV zaa)(L:List (PV zaa)):cellsOf (x::L)=.int .i64 x.1::strV x.2.1::cellsOf L:=rfl
theorem qol (A B:List (PV zaa)):cellsOf (A++B)=cellsOf A++cellsOf B:=by unfold cellsOf;rw[List.flatMap_append]
theorem z6d:∀(L:List (PV zaa)) (j:Nat) (h:j<L.length),(cellsOf L)[j*2]? =some (.int .i64 L[j].1)/\(cellsOf L)[j*2+1]? =some (strV L[j].2.1)
 |x::L,0,_=>⟨rfl,rfl⟩
 |x::L,j+1,h=>by
  have:=z6d L j (by simpa using h);rw[ztc,show(j+1)*2=j*2+1+1 by omega,show j*2+1+1+1=(j*2+1)+1+1 by omega];simp only[yn2,List.getElem_cons_succ];exact this
theorem cellsOf_set:∀(L:List (PV zaa)) (i:Nat) (x:PV zaa),i<L.length->((cellsOf L).set (i*2) (.int .i64 x.1)).set (i*2+1) (strV x.2.1)=cellsOf (L.set i x)
 |y::L,0,x,_=>rfl
 |y::L,i+1,x,h=>by
  have:=cellsOf_set L i x (by simpa using h);rw[List.set_cons_succ,ztc,ztc,<-this,show(i+1)*2=i*2+1+1 by omega,show i*2+1+1+1=(i*2+1)+1+1 by omega];rfl
theorem row_of {w:World}{Pr:Nat->Prop}{o:Ow}{cs:List Value}{x:PV zaa}{bs:List Nat}(h:Rep w Pr zaa o cs x bs):cs=rowC x/\bs=[]:=by
 obtain⟨c1,c2,b1,b2,rfl,e2,h1,c3,c4,b3,b4,rfl,e4,h3,h4⟩:=h;obtain⟨rfl,rfl⟩:=h1;obtain⟨rfl,rfl⟩:=h3;obtain⟨rfl,rfl⟩:=h4;have e5:b2=[]:=by simpa using e4
 subst e5;exact⟨rfl,by simpa using e2⟩
theorem q9r (w:World)(Pr:Nat->Prop)(o:Ow)(x:PV zaa):Rep w Pr zaa o (rowC x) x []:=
 ⟨[.int .i64 x.1],[strV x.2.1],[],[],rfl,yh1 _,⟨rfl,rfl⟩,[strV x.2.1],[],[],[],rfl,yh1 _,⟨rfl,rfl⟩,rfl,rfl⟩
theorem qdw {w:World}{Pr:Nat->Prop}{o:Ow}:∀{L:List (PV zaa)} {cs:List Value} {bs:List Nat},RepL (Rep w Pr zaa o) cs L bs->cs=cellsOf L/\bs=[]
 |[],_,_,h=>h
 |x::L,_,_,h=>by
  obtain⟨c1,c2,b1,b2,rfl,e2,h1,h2⟩:=h;obtain⟨rfl,rfl⟩:=row_of h1;obtain⟨rfl,rfl⟩:=qdw h2;exact⟨rfl,by simpa using e2⟩
theorem qdx (w:World)(Pr:Nat->Prop)(o:Ow):∀(L:List (PV zaa)),RepL (Rep w Pr zaa o) (cellsOf L) L []
 |[]=>⟨rfl,rfl⟩
 |x::L=>⟨rowC x,cellsOf L,[],[],rfl,yh1 _,q9r w Pr o x,qdx w Pr o L⟩
def Kst (eR:TypeId)(w:World)(s1 n:Nat)(A:Option Addr)(cap:Nat)(L:List (PV zaa))(wr:World):Prop:=
 Below w.heap.size w wr/\s1<=wr.heap.size/\((A=none/\cap=0/\n=0/\L=[])\/∃g cur,A=some ⟨g,0,none⟩/\wr.heap[g]? =some (.cells cur eR (0,0))/\w.heap.size<=g/\n<=cap/\cap<=maxLen/\
  L.length<=n/\cur.size=cap*2/\cur.toList.take (L.length*2)=cellsOf L)
section
variable {eR : TypeId} {w wr : World} {s1 n : Nat} {A : Option Addr} {cap : Nat} {L : List (PV zaa)}
theorem Kst.alloc (h:Kst eR w s1 n A cap L wr)(o:Obj):Kst eR w s1 n A cap L (wr.alloc o):=by
 obtain⟨h1,h2,h3⟩:=h;have hs:wr.heap.size<(wr.alloc o).heap.size:=(ys1.1 (heap_alloc_new wr _)).1;refine⟨h1.alloc h1.size _,by omega,h3.imp id λ⟨g,cur,a1,a2,a3⟩=>⟨g,cur,a1,?_,a3⟩⟩;rw[zje wr _ _ (ys1.1 a2).1];exact a2
theorem Kst.get (h:Kst eR w s1 n A cap L wr){j:Nat}(hj:j<L.length):∃g,A=some ⟨g,0,none⟩/\wr.cell? ⟨g,j*2,none⟩=some (.int .i64 L[j].1)/\wr.cell? ⟨g,j*2+1,none⟩=some (strV L[j].2.1):=by
 obtain⟨h1,h2,⟨_,_,_,rfl⟩|⟨g,cur,rfl,k1,k2,k3,k4,k5,k6,k7⟩⟩:=h
 ·simp at hj
 ·obtain⟨c1,c2⟩:=z6d L j hj
  rw[<-k7,List.getElem?_take_of_lt (by omega)] at c1 c2;refine⟨g,rfl,?_,?_⟩
  ·simp only[World.cell?,k1];simpa using c1
  ·simp only[World.cell?,k1];simpa using c2
theorem Kst.room (h:Kst eR w s1 n A cap L wr)(hn:0<n):∃g,A=some ⟨g,0,none⟩/\(∀t,t<n*2->(wr.cell? ⟨g,t,none⟩).isSome=true)/\∀t,t<n*2->wr.frozen? ⟨g,t,none⟩=false:=by
 obtain⟨h1,h2,⟨_,_,rfl,rfl⟩|⟨g,cur,rfl,k1,k2,k3,k4,k5,k6,k7⟩⟩:=h
 ·omega
 ·refine⟨g,rfl,λt ht=> ?_,λt ht=>frozen_of_row _ _ _ _ _ k1⟩
  simp only[World.cell?,k1];have:t<cur.size:=by omega
  simp[this]
theorem Kst.put (h:Kst eR w s1 n A cap L wr){i:Nat}(hi:i<L.length)(x:PV zaa){g:Nat}(hg:A=some ⟨g,0,none⟩):
 Kst eR w s1 n A cap (L.set i x) ((wr.setCell ⟨g,i*2,none⟩ (.int .i64 x.1)).setCell ⟨g,i*2+1,none⟩ (strV x.2.1)):=by
 obtain⟨h1,h2,⟨_,_,_,rfl⟩|⟨g',cur,hg',k1,k2,k3,k4,k5,k6,k7⟩⟩:=h
 ·simp at hi
 ·obtain rfl:g'=g:=by rw[hg'] at hg;cases hg;rfl
  have e1:=heap_setCell_same wr g' (i*2) cur eR (.int .i64 x.1) k1;have e2:=heap_setCell_same _ g' (i*2+1) _ eR (strV x.2.1) e1;refine⟨⟨h1.os,h1.tape,h1.output,by simpa using h1.size,λk hk=> ?_⟩,by simpa using h2,.inr ⟨g',_,hg',e2,k2,k3,k4,by rw[yc2];exact k5,by simpa using k6,?_⟩⟩
  ·rw[heap_setCell_other _ _ _ _ (by show k≠g';omega),heap_setCell_other _ _ _ _ (by show k≠g';omega)]
   exact h1.block k hk
  ·rw[yc2,Array.toList_setIfInBounds,Array.toList_setIfInBounds,List.take_set,List.take_set,k7,cellsOf_set L i x hi]
theorem Kst.cut (h:Kst eR w s1 n A cap L wr){i:Nat}(hi:i<=L.length)(hL:L.length=n){g:Nat}(hg:A=some ⟨g,0,none⟩):Kst eR w s1 n A cap (L.take i) (wr.setCells g (i*2) (zRow (n -i))):=by
 obtain⟨h1,h2,⟨rfl,_,_,rfl⟩|⟨g',cur,hg',k1,k2,k3,k4,k5,k6,k7⟩⟩:=h
 ·cases hg
 ·obtain rfl:g'=g:=by rw[hg'] at hg;cases hg;rfl
  obtain⟨cur2,e1,e2⟩:=z2g g' eR (zRow (n -i)) (i*2) wr cur k1 (by rw[zqg];omega);obtain⟨r1,r2,r3⟩:=z2h g' (zRow (n -i)) (i*2) wr;have hsz:=size_setCells g' (zRow (n -i)) (i*2) wr;refine⟨⟨r1.trans h1.os,r2.trans h1.tape,r3.trans h1.output,by rw[hsz];exact h1.size,λk hk=> ?_⟩,by rw[hsz];exact h2,.inr ⟨g',cur2,hg',e1,k2,k3,k4,by rw[yr1];omega,?_,?_⟩⟩
  ·rw[heap_setCells_other _ _ _ _ _ (by omega)]
   exact h1.block k hk
  ·have:=congrArg List.length e2
   rw[length_splice _ _ _ (by rw[zqg,Array.length_toList];omega)] at this;simpa[k6] using this
  ·rw[yr1,Nat.min_eq_left hi,e2]
   unfold splice;rw[List.take_append_of_le_length (by rw[yr1,Array.length_toList];omega),List.take_take,Nat.min_self];have:=congrArg (List.take (i*2)) k7;rw[List.take_take,Nat.min_eq_left (by omega)] at this;rw[this]
   conv=>lhs;rw[<-yp2 i L,qol]
   rw[List.take_append_of_le_length (by rw[zo3,yr1];omega),yv2 (by rw[zo3,yr1];omega)]
end
def zan (x:PV zaa):Bool:=x.1==1
noncomputable def znv (eT:TypeId)(t0:PV (.slice eT zaa)):Option (PVs [.slice eT zaa]×PVs []):=bif qm t0.length then some ((List.filter zan t0,()),()) else none
noncomputable def clR (eT:TypeId):Ct:=⟨[(.bor,.slice eT zaa)],[(.slice eT zaa,.row (.pr .b (.pr .b .b)))],
 λx=>bif qm ((([]:PV (.slice eT zaa))).length+x.1.length) then some ((([]:PV (.slice eT zaa))++x.1,()),()) else none⟩
theorem zi8 {xs:List (PV zaa)}{j:Nat}(hj:j<xs.length):(xs.take (j+1)).filter zan=(xs.take j).filter zan++(if zan xs[j] then[xs[j]] else[]):=by
 rw[List.take_succ_eq_append_getElem hj,List.filter_append];congr 1;cases h:zan xs[j]<;>simp[h]
theorem q7m {P:Program}{g:Glob}{eR:TypeId}{k kC kD kF:FuncId}(hfn:∃fn,P.funcs[k]? =some fn/\fn.body.isSome=true/\(fn.name== "runtime.NumGoroutine")=false)(hC:FnOk g P kC (clR eR))
 (cut:∀(A:Option Addr) (n c:Nat) (w:World) (K:Nat->Int) (S:Nat->ByteArray) (J E:Nat->World->Prop) (I:Nat->Nat->World->Prop),(n:Int)<=1099511627776->n<=c->c<=9223372036854775807->
   J 0 w->(∀j w o,J j w->J j (w.alloc o))->(∀i j w o,I i j w->I i j (w.alloc o))->
   (∀j w,j<n->J j w->∃g,A=some ⟨g,0,none⟩/\w.cell? ⟨g,j*2,none⟩=some (.int .i64 (K j))/\w.cell? ⟨g,j*2+1,none⟩=some (.string (S j))/\(K j=1->J (j+1) w)/\(K j≠1->I j (j+1) w))->
   (∀i j w,i<j->j<=n->I i j w->∃g,A=some ⟨g,0,none⟩/\(∀t,t<n*2->(w.cell? ⟨g,t,none⟩).isSome=true)/\(∀t,t<n*2->w.frozen? ⟨g,t,none⟩=false)/\
     (j<n->w.cell? ⟨g,j*2,none⟩=some (.int .i64 (K j))/\w.cell? ⟨g,j*2+1,none⟩=some (.string (S j))/\(K j≠1->I i (j+1) w)/\
       (K j=1->I (i+1) (j+1) ((w.setCell ⟨g,i*2,none⟩ (.int .i64 (K j))).setCell ⟨g,i*2+1,none⟩ (.string (S j)))))/\
     (j=n->E i (w.setCells g (i*2) (zRow (n -i)))))->
   (∀w,J n w->E n w)->
   Calls P kD #[.slice A n c,.func (.func kF) #[] #[]] w λe w'=>∃i:Nat,i<=n/\e=.returned (.slice A i c)/\E i w')
 (main:∀(v:Value) (w:World) (n:Nat) (Q:Option Addr->Nat->World->Prop) (E:Option Addr->Nat->Nat->World->Prop),
   (Calls P kC #[v] w λe w'=>∃A cap,e=.returned (.slice A n cap)/\Q A cap w')->
   (∀A cap w1,Q A cap w1->Calls P kD #[.slice A n cap,.func (.func kF) #[] #[]] w1 λe w'=>∃i:Nat,i<=n/\e=.returned (.slice A i cap)/\E A cap i w')->
   Calls P k #[v] w λe w'=>∃A cap i,i<=n/\e=.returned (.slice A i cap)/\E A cap i w'):
 FnOk g P k ⟨[(.bor,.slice eR zaa)],[(.slice eR zaa,.row (.pr .b (.pr .b .b)))],λx=>znv eR x.1⟩:=by
 refine⟨rfl,λw Pr vs xs bss r hpl hargs hnd hfr hgo hgd hr=>⟨hfn,?_⟩⟩;obtain⟨v1,rfl,rfl,h1⟩:=bor1 hargs;obtain⟨xs,u⟩:=xs
 replace hr:znv eR xs=some r:=hr
 unfold znv at hr;simp only[Bool.cond_eq_ite] at hr;split at hr
 ·rename_i hc
  obtain rfl:=yl0 hr;have hn:(xs.length:Int)<=1099511627776:=by simp only[qm,yr0] at hc;omega
  let Q:Option Addr->Nat->World->Prop:=λA cap w1=>∃Pr1:Nat->Prop,Kst eR w w1.heap.size xs.length A cap xs w1/\xs.length<=cap/\cap<=9223372036854775807/\(∀g,A=some ⟨g,0,none⟩->¬Pr1 g)/\(∀b,Pr b->Pr1 b)/\(∀b,Pr1 b->Pr b\/w.heap.size<=b/\b<w1.heap.size)
  let E:Option Addr->Nat->Nat->World->Prop:=λA cap i w2=>i=(xs.filter zan).length/\∃(s1:Nat) (Pr1:Nat->Prop),Kst eR w s1 xs.length A cap (xs.filter zan) w2/\(∀g,A=some ⟨g,0,none⟩->¬Pr1 g)/\(∀b,Pr b->Pr1 b)/\(∀b,Pr1 b->Pr b\/w.heap.size<=b/\b<s1)
  refine(main v1 w xs.length Q E ?_ ?_).mono λe w' ⟨A,cap,i,hi,he,hei,s1,Pr1,hK,hg1,p1,p2⟩=> ?_
  ·refine(hC.2 w Pr [v1] (xs,()) [[]] ((xs,()),()) hpl hargs hnd hfr hgo hgd (by
    show(bif qm (0+xs.length) then some ((([]:List (PV zaa))++xs,()),()) else none)=_;rw[Nat.zero_add,hc];rfl)).2.mono λe w1 hp=> ?_
   obtain⟨rv,Pr1,bv,bms,rfl,htup,hback,hnd,hfr,hp1,hp2,ho,ht,hou,hsz,hkeep⟩:=hp;obtain rfl:=q5s hback;obtain⟨v,rfl,hrep⟩:=one_row htup;simp only[yd1,List.flatten_nil,yz0] at hnd hfr hp2 hkeep;obtain⟨v',ys,b',hv,hown,hperm,hl⟩:=jy.1 hrep;obtain rfl:v=v':=(List.cons.inj hv).1;obtain⟨rfl,rfl⟩:=qdw hl;have hB:Below w.heap.size w w1:=⟨ho,ht,hou,hsz,λk hk=>hkeep k hk (by simp)⟩;have q2:∀b,Pr1 b->Pr b\/w.heap.size<=b/\b<w1.heap.size:=λb hb=>(hp2 b hb).imp id λq=>⟨q.1.elim (λm=>by cases m) id,q.2⟩;rcases hown.2 with⟨rfl,h0⟩|⟨gb,cap,cur,rfl,_,k1,k2,k3,k4,k5⟩
   ·obtain rfl:xs=[]:=yt0 h0
    exact⟨none,0,rfl,Pr1,⟨hB,ym0 _,.inl ⟨rfl,rfl,rfl,rfl⟩⟩,ye1 _,by omega,λ_ h=>(by cases h),hp1,q2⟩
   ·have hg:=hfr gb (hperm.mem_iff.2 (by simp[Value.ownBlock]))
    refine⟨_,cap,rfl,Pr1,⟨hB,ym0 _,.inr ⟨gb,cur,rfl,k1,hg.1.elim (λm=>by cases m) id,k2,k3,ym0 _,k4,k5⟩⟩,k2,by simp only[maxLen] at k3;omega,λg' h=> ?_,hp1,q2⟩;cases h;exact hg.2.1
  ·rintro A cap w1 ⟨Pr1,hK,c1,c2,hg1,p1,p2⟩
   refine cut A xs.length cap w1 (λj=>(xs.getD j (0,([],()))).1) (λj=>⟨⟨(xs.getD j (0,([],()))).2.1⟩⟩) (λj wr=>j<=xs.length/\(∀x∈xs.take j,zan x=true)/\Kst eR w w1.heap.size xs.length A cap xs wr) (E A cap)
    (λi j wr=>j<=xs.length/\i=((xs.take j).filter zan).length/\Kst eR w w1.heap.size xs.length A cap ((xs.take j).filter zan++xs.drop i) wr) hn c1 c2
    ⟨ye1 _,λx hx=>(by cases hx),hK⟩ (λj w o h=>⟨h.1,h.2.1,h.2.2.alloc o⟩) (λi j w o h=>⟨h.1,h.2.1,h.2.2.alloc o⟩) ?_ ?_ ?_
   ·rintro j wr hj ⟨_,hall,hk⟩
    obtain⟨g,rfl,a1,a2⟩:=hk.get hj;have e:xs.getD j (0,([],()))=xs[j]:=by simp[List.getD,hj]
    have hfil:(xs.take j).filter zan=xs.take j:=List.filter_eq_self.2 hall;refine⟨g,rfl,by rw[e];exact a1,by rw[e];exact a2,λh1=>⟨hj,λx hx=> ?_,hk⟩,λh1=> ?_⟩
    ·rw[List.take_succ_eq_append_getElem hj] at hx
     rcases yu0.1 hx with hx|hx
     ·exact hall x hx
     ·obtain rfl:=yl1.1 hx
      rw[e] at h1;unfold zan;rw[h1];rfl
    ·rw[e] at h1
     have hkb:zan xs[j]=false:=by unfold zan;simpa using h1
     refine⟨hj,?_,?_⟩
     ·rw[zi8 hj,hkb,hfil];simp;omega
     ·rw[zi8 hj,hkb,hfil]
      simp only[Bool.false_eq_true,if_false,yz0,yp2];exact hk
   ·rintro i j wr hij hj ⟨_,hi,hk⟩
    have hiL:i<=xs.length:=by omega
    have hlen:((xs.take j).filter zan++xs.drop i).length=xs.length:=by rw[ye0,<-hi,yc1];omega
    obtain⟨g,hA,r1,r2⟩:=hk.room (by omega);refine⟨g,hA,r1,r2,λhlt=> ?_,λhjn=> ?_⟩
    ·have hjL:j<((xs.take j).filter zan++xs.drop i).length:=by rw[hlen];exact hlt
     obtain⟨g',hA',a1,a2⟩:=hk.get hjL;obtain rfl:g=g':=by rw[hA] at hA';cases hA';rfl
     have e:xs.getD j (0,([],()))=xs[j]:=by simp[List.getD,hlt]
     have ej:((xs.take j).filter zan++xs.drop i)[j]=xs[j]:=by
      rw[List.getElem_append_right (by omega),List.getElem_drop];congr 1;omega
     rw[ej] at a1 a2;refine⟨by rw[e];exact a1,by rw[e];exact a2,λh1=> ?_,λh1=> ?_⟩
     ·rw[e] at h1
      have hkb:zan xs[j]=false:=by unfold zan;simpa using h1
      refine⟨hlt,?_,?_⟩
      ·rw[zi8 hlt,hkb];simpa using hi
      ·rw[zi8 hlt,hkb];simpa using hk
     ·rw[e] at h1 ⊢
      have hkb:zan xs[j]=true:=by unfold zan;rw[h1];rfl
      refine⟨hlt,?_,?_⟩
      ·rw[zi8 hlt,hkb,yx0 rfl,ye0,<-hi];rfl
      ·have:=hk.put (i:=i) (by omega) xs[j] hA
       have e2:((xs.take j).filter zan++xs.drop i).set i xs[j]=(xs.take (j+1)).filter zan++xs.drop (i+1):=by
        rw[List.set_append_right _ _ (by omega),<-hi,Nat.sub_self,List.drop_eq_getElem_cons (by omega:i<xs.length),List.set_cons_zero,zi8 hlt,hkb,yx0 rfl,yj0];rfl
       rw[e2] at this;exact this
    ·subst hjn
     rw[List.take_length] at hi hk hlen;refine⟨hi,w1.heap.size,Pr1,?_,hg1,p1,p2⟩;have:=hk.cut (i:=i) (by omega) hlen hA;rw[List.take_append_of_le_length (by omega),yv2 (by omega)] at this;exact this
   ·rintro wr ⟨_,hall,hk⟩
    rw[List.take_length] at hall;have hfil:xs.filter zan=xs:=List.filter_eq_self.2 hall;exact⟨by rw[hfil],w1.heap.size,Pr1,by rw[hfil];exact hk,hg1,p1,p2⟩
  ·subst hei
   obtain⟨k1,k2,k3⟩:=hK
   have back:∀(v:Value) (bv:List Nat),v=.slice A (xs.filter zan).length cap->Rep w' Pr1 (.slice eR zaa) (.row (.pr .b (.pr .b .b))) [v] (xs.filter zan) bv->bv.Nodup->(∀b∈bv,w.heap.size<=b/\¬Pr1 b/\b<w'.heap.size)->_:=
    λv bv hv q1 q2 q3=>(⟨[v],Pr1,bv,[[]],by rw[he,hv];rfl,⟨bv,[],by simp,.inr ⟨_,rfl,q1⟩,rfl⟩,⟨rfl,trivial⟩,by simpa using q2,λb hb=>by
     have:=q3 b (by simpa using hb);exact⟨.inr this.1,this.2⟩,p1,λb hb=>(p2 b hb).imp id λh=>⟨.inr h.1,by omega⟩,k1.os,k1.tape,k1.output,k1.size,λb h _=>k1.block b h⟩:
     ∃(rv:List Value) (Pr':Nat->Prop) (bv:List Nat) (bms:List (List Nat)),e=.returned (zdd rv)/\zat w' Pr' (zbe [(.slice eR zaa,.row (.pr .b (.pr .b .b)))] (xs.filter zan,())) rv bv/\zao w' Pr' [(.bor,.slice eR zaa)] [v1] () bms/\
      (bv++bms.flatten).Nodup/\(∀b∈bv++bms.flatten,(b∈[[]].flatten\/w.heap.size<=b)/\¬Pr' b/\b<w'.heap.size)/\(∀b,Pr b->Pr' b)/\
      (∀b,Pr' b->Pr b\/(b∈[[]].flatten\/w.heap.size<=b)/\b<w'.heap.size)/\w'.os=w.os/\w'.tape=w.tape/\w'.output=w.output/\w.heap.size<=w'.heap.size/\
      (∀b,b<w.heap.size->b∉[[]].flatten->w'.heap[b]? =w.heap[b]?))
   rcases k3 with⟨rfl,rfl,hn0,hF⟩|⟨gb,cur,rfl,a1,a2,a3,a4,a5,a6,a7⟩
   ·refine back _ [] rfl ?_ List.nodup_nil (by simp)
    rw[hF];exact jy.2 ⟨_,[],[],rfl,⟨rfl,.inl ⟨rfl,rfl⟩⟩,by simp[Value.ownBlock],rfl,rfl⟩
   ·refine back _ [gb] rfl ?_ (by simp) (λb hb=> ?_)
    ·exact jy.2 ⟨_,cellsOf (xs.filter zan),[],rfl,⟨zo3 _,.inr ⟨gb,cap,cur,rfl,ye1 _,a1,by omega,a4,a6,a7⟩⟩,by simp[Value.ownBlock],qdx _ _ _ _⟩
    ·obtain rfl:=yl1.1 hb
     exact⟨a2,hg1 _ rfl,(ys1.1 a1).1⟩
 ·cases hr
end Go.Dn
end

section
/- strings.IndexRune at a rune past ASCII in a text of ASCII bytes; strings.IndexAny of ASCII bytes in whatever text. -/
namespace Go.Proofs
open Go.Shelf Go.RowKit Go.Lib
variable {P : Program} {ρ : Ren}
set_option maxHeartbeats 4000000 in
set_option maxRecDepth 1000000 in
theorem Any.qg1 (L:Lays.n152 P ρ)(s:ByteArray)(w:World)(hascii:∀(j:Nat) b,s.data.toList[j]? =some b->b.toNat<128):
 Calls P (ρ.f 152) #[.string s,.int .i32 65533] w λe w'=>e=.returned (.int .i64 (-1))/\Below w.heap.size w w':=by
 have HA:Aside (∀(j:Nat) b,s.data.toList[j]? =some b->b.toNat<128):=hascii;clear hascii;have t3:=L.t3;have a3:=L.a3;have z3:=L.z3;have v3:=L.v3;have t4:=L.t4;have a4:=L.a4;have z4:=L.z4;have v4:=L.v4;have t5:=L.t5;have a5:=L.a5;have z5:=L.z5;have v5:=L.v5;have t9:=L.t9;have a9:=L.a9;have z9:=L.z9;have v9:=L.v9;have t21:=L.t21;have a21:=L.a21;have z21:=L.z21;have v21:=L.v21
 go_enter L.f152,Body.n152_ntmps ρ
 go_wp2
 go_loopg [5,6] s.size (λg _ _ wx=>∃i:Nat,i+g=s.size/\wx=w.iter s i)
 case atStart=>exact⟨0,by omega,rfl⟩
 case round=>
  obtain⟨i,hig,rfl⟩:=hrel;cases gk with
  |zero=>
   obtain rfl:i=s.size:=by omega
   have hnx:=run_next_end (P:=P) w s s.size
   go_wp2
   go_ret
   exact⟨rfl,(Below.refl _ _).alloc (ym0 _) _⟩
  |succ g=>
   have hi:i<s.size:=by omega
   obtain⟨x,hx⟩:∃x:UInt8,s[i]'hi=x:=⟨_,rfl⟩;have hxl:s.data.toList[i]? =some x:=by rw[<-hx];exact Lib.data_getElem? s i hi
   have hx128:x.toNat<128:=HA.out i x hxl;have hnx:=λty=>run_next_ascii (P:=P) w s i ty hi (by rw[hx];exact hx128);rw[hx] at hnx;clear hxl hx;have hne:((x.toNat:Int)==65533)=false:=yo0.2 (by omega)
   go_wp2
   go_roundg g
   case measure=>omega
   case rel=>exact⟨i+1,by omega,rfl⟩
theorem qxf (w:World)(q:Nat):Below w.heap.size w (w.drewN q):=⟨rfl,rfl,rfl,ym0 _,λ_ _=>rfl⟩
theorem z0b:∀(l:List UInt8) (c:UInt8),(∀b∈l,b.toNat<128)->128<=c.toNat->Lib.indexByte l c= -1
 |[],_,_,_=>rfl
 |b::l,c,h,hc=>by
  have ih:=z0b l c (λb hb=>h b (yg0 _ hb)) hc;have hb:=h b (yk0 ..)
  have hne:(b==c)=false:=by
   rw[yo0];rintro rfl;omega
  rw[Lib.indexByte,hne,ih];rfl
set_option maxHeartbeats 8000000 in
set_option maxRecDepth 1000000 in
theorem Any.qgs (L:Lays.n152 P ρ)(s:ByteArray)(r:Int)(w:World)(h1:128<=r)(h2:r≠65533)(hs:s.size<4294967281)(hascii:∀b∈s.data.toList,b.toNat<128):
 Calls P (ρ.f 152) #[.string s,.int .i32 r] w λe w'=>e=.returned (.int .i64 (-1))/\Below w.heap.size w w':=by
 have hr0:(0:Int)<=r:=by omega
 have hr1:¬(r<128):=by omega
 have hre:(r==65533)=false:=yo0.2 h2;have t3:=L.t3;have a3:=L.a3;have z3:=L.z3;have v3:=L.v3;have t4:=L.t4;have a4:=L.a4;have z4:=L.z4;have v4:=L.v4;have t5:=L.t5;have a5:=L.a5;have z5:=L.z5;have v5:=L.v5;have t9:=L.t9;have a9:=L.a9;have z9:=L.z9;have v9:=L.v9;have t21:=L.t21;have a21:=L.a21;have z21:=L.z21;have v21:=L.v21;have mixed:=L.mixed;have e119:∀args w,(callFunc (ρ.f 119) args).run P w=.ok (.enter (ρ.f 119) args) w:=enters_of L.f119 (by kernel_rfl) rfl;have e137:∀args w,(callFunc (ρ.f 137) args).run P w=.ok (.enter (ρ.f 137) args) w:=enters_of L.f137 (by kernel_rfl) rfl;cases hv:Lib.validRune r with
 |false=>
  go_enter L.f152,Body.n152_ntmps ρ
  go_wp2_with (go_at_fn (ρ.f 119);refine(Any.utf8_ValidRune {L with} _ _).mono ?_;rintro e w' ⟨rfl,hw⟩;rw[hw,hv])
  go_ret
  exact⟨rfl,Below.refl _ _⟩
 |true=>
  obtain⟨hn2,hn4,hz⟩:=encode_facts r (by rw[validRune_eq];exact hv) h1;obtain⟨E,hE⟩:∃E,Utf8.encode r=E:=⟨_,rfl⟩;rw[hE] at hn2 hn4 hz;have hk:E.size -1<E.size:=by omega
  obtain⟨z,hzz⟩:∃z:UInt8,E[E.size -1]'hk=z:=⟨_,rfl⟩;have hz128:128<=z.toNat:=by rw[<-hzz];exact hz hk
  clear hz
  go_enter L.f152,Body.n152_ntmps ρ
  go_wp2_with (go_at_fn (ρ.f 119);refine(Any.utf8_ValidRune {L with} _ _).mono ?_;rintro e w' ⟨rfl,hw⟩;rw[hw,hv])
  have hcv:∀w,(convert (ρ.t 21) (ρ.t 9) (.int .i32 r)).run P w=.ok (.string E) w:=λw=>by rw[run_convert_int_string w _ _ _ _ (by rw[t21];rfl) t9,hE]
  have hsub:((E.size:Int) -1)=((E.size -1:Nat):Int):=by omega
  go_step3
  go_wp2
  go_loopg [9,10,11,12] 1 (λg s9 _ _ _ wx=>s9=.int .i64 ((E.size -1:Nat):Int)/\wx=w)
  case atStart=>exact⟨rfl,rfl⟩
  case round=>
   obtain⟨rfl,rfl⟩:=hrel;by_cases hl:E.size -1<s.size
   ·have hlz:(((E.size -1:Nat):Int)<(s.size:Int)):=by omega
    obtain⟨x,hx⟩:∃x:UInt8,s[E.size -1]'hl=x:=⟨_,rfl⟩;have hx128:x.toNat<128:=hascii x (by rw[<-hx];exact Array.getElem_mem_toList (xs:=s.data) hl);have hne:((x.toNat:Int)!=(z.toNat:Int))=true:=by simp;omega
    have hback:((z.toNat:Int)).toNat.toUInt8=z:=by simp
    have hnone:∀a b,Lib.indexByte (s.extract a b).data.toList z= -1:=λa b=>z0b _ _ (λy hy=>hascii y (mem_extract hy)) hz128
    have HI:Aside (∀a b w,Calls P (ρ.f 137) #[.string (s.extract a b),.int .u8 z.toNat] w λe w'=>e=.returned (.int .i64 (-1))/\w'=w):=λa b w=>by
     have h:=Any.strings_IndexByte (ρ:=ρ) {L with} (s.extract a b) (z.toNat:Int) w
     rwa [hback,hnone] at h
    have hi1:((E.size -1:Nat):Int)+1=((E.size:Nat):Int):=by omega
    have hEs:E.size<=s.size:=by omega
    have hwr:IntKind.i64.wrap (E.size:Int)=(E.size:Int):=wrap_small _ (by omega) (by omega);have hzl:E.data.toList[E.size -1]? =some z:=by rw[<-hzz];exact Lib.data_getElem? E (E.size -1) hk
    go_wp2
    go_step3
    go_wp2
    go_quiet_o (fail)
    go_wp2
    go_quiet_o (first|(exact(HI.out _ _ _).mono λ_ _ h=>⟨h.1,_,h.2⟩))
    go_wp2
    rw[Exit.noGoto_ret]
    go_wp2
    try rw[Exit.noGoto_ret]
    go_ret
    exact⟨rfl,qxf _ _⟩
   ·have hlz:¬(((E.size -1:Nat):Int)<(s.size:Int)):=by omega
    go_wp2
    go_ret
    exact⟨rfl,Below.refl _ _⟩
theorem Any.qgt (L:Lays.n152 P ρ)(s:ByteArray)(r:Int)(w:World)(h1:128<=r)(hs:s.size<4294967281)(hascii:∀b∈s.data.toList,b.toNat<128):
 Calls P (ρ.f 152) #[.string s,.int .i32 r] w λe w'=>e=.returned (.int .i64 (-1))/\Below w.heap.size w w':=by
 by_cases h:r=65533
 ·subst h
  exact Any.qg1 L s w λj b hb=>hascii b (List.mem_of_getElem? hb)
 ·exact Any.qgs L s r w h1 h hs hascii
theorem q3l (s:ByteArray)(k:Nat)(h:k<s.size):(s.get! k).toNat=(s[k]'h).toNat:=by rw[show s.get! k=s[k]'h from get_at s k h]
theorem qxg (s:ByteArray)(i:Nat)(h:i<s.size)(hx:128<=(s[i]'h).toNat):i+(Utf8.decode s i).2<=s.size/\∀j (hj:j<s.size),i<=j->j<i+(Utf8.decode s i).2->128<=(s[j]'hj).toNat:=by
 have hn:¬(s[i]'h).toNat<128:=by omega
 have cont:∀k,(decide (i+k<s.size)&&(s.get! (i+k)).toNat/64==2)=true->∃h':i+k<s.size,128<=(s[i+k]'h').toNat:=λk hk=>by
  simp only[yh0,yr0,yy0] at hk;refine⟨hk.1,?_⟩;rw[q3l s _ hk.1] at hk;omega
 have one:i+1<=s.size/\∀j (hj:j<s.size),i<=j->j<i+1->128<=(s[j]'hj).toNat:=⟨by omega,λj hj h1 h2=>by
  obtain rfl:j=i:=by omega
  exact hx⟩
 simp only[Utf8.decode,get_at s i h,hn,if_false];split
 ·rename_i hc
  rw[yh0] at hc;obtain⟨c1,c2⟩:=cont 1 hc.2;split
  ·refine⟨by dsimp only;omega,λj hj h1 h2=> ?_⟩
   have:j=i\/j=i+1:=by dsimp only at h2;omega
   rcases this with rfl|rfl
   ·exact hx
   ·exact c2
  ·exact one
 ·split
  ·rename_i hc
   rw[yh0,yh0] at hc;obtain⟨c1,c2⟩:=cont 1 hc.1.2;obtain⟨c3,c4⟩:=cont 2 hc.2;split
   ·refine⟨by dsimp only;omega,λj hj h1 h2=> ?_⟩
    have:j=i\/j=i+1\/j=i+2:=by dsimp only at h2;omega
    rcases this with rfl|rfl|rfl
    ·exact hx
    ·exact c2
    ·exact c4
   ·exact one
  ·split
   ·rename_i hc
    rw[yh0,yh0,yh0] at hc;obtain⟨c1,c2⟩:=cont 1 hc.1.1.2;obtain⟨c3,c4⟩:=cont 2 hc.1.2;obtain⟨c5,c6⟩:=cont 3 hc.2;split
    ·refine⟨by dsimp only;omega,λj hj h1 h2=> ?_⟩
     have:j=i\/j=i+1\/j=i+2\/j=i+3:=by dsimp only at h2;omega
     rcases this with rfl|rfl|rfl|rfl
     ·exact hx
     ·exact c2
     ·exact c4
     ·exact c6
    ·exact one
   ·exact one
theorem qz8 {s:ByteArray}{chars:List UInt8}{i K:Nat}(h:NoAny s.data.toList chars i)(hc:∀b∈chars,b.toNat<128)(hh:∀j (hj:j<s.size),i<=j->j<i+K->128<=(s[j]'hj).toNat):NoAny s.data.toList chars (i+K):=by
 intro j b hj hb;by_cases hji:j<i
 ·exact h j b hji hb
 ·obtain⟨h1,h2⟩:=yf2.1 hb
  have hjs:j<s.size:=by rw[Lib.size_eq];exact h1
  have h3:=hh j hjs (by omega) hj
  have h4:s[j]'hjs=b:=by
   have:=Lib.data_getElem? s j hjs;rw[hb] at this;exact(yl0 this).symm
  rw[h4] at h3;cases hcon:chars.contains b with
  |false=>rfl
  |true=>
   have:=hc b (by simpa using hcon);omega
set_option maxHeartbeats 8000000 in
set_option maxRecDepth 1000000 in
theorem Any.qgk (L:Lays.n153 P ρ)(s chars:ByteArray)(w:World)(h2:2<=chars.size)(h8:s.size<=8)(hcs:chars.size<4294967281)(hac:∀b∈chars.data.toList,b.toNat<128):
 Calls P (ρ.f 153) #[.string s,.string chars] w λe w'=>e=.returned (.int .i64 (Lib.indexAny s.data.toList chars.data.toList))/\Below w.heap.size w w':=by
 have HC:Aside (∀b∈chars.data.toList,b.toNat<128):=hac;clear hac
 have hemp:chars.toList.isEmpty=false:=by
  rw[Lib.toList_data];cases h:chars.data.toList with
  |nil=>have:=Lib.size_eq chars;rw[h,yp0] at this;omega
  |cons _ _=>rfl
 have hn1:((chars.size:Int)==1)=false:=yo0.2 (by omega);have h8z:decide ((8:Int)<(s.size:Int))=false:=yi0 (by omega);have t3:=L.t3;have a3:=L.a3;have z3:=L.z3;have v3:=L.v3;have t4:=L.t4;have a4:=L.a4;have z4:=L.z4;have v4:=L.v4;have t5:=L.t5;have a5:=L.a5;have z5:=L.z5;have v5:=L.v5;have t9:=L.t9;have a9:=L.a9;have z9:=L.z9;have v9:=L.v9;have t21:=L.t21;have a21:=L.a21;have z21:=L.z21;have v21:=L.v21;have e152:∀args w,(callFunc (ρ.f 152) args).run P w=.ok (.enter (ρ.f 152) args) w:=enters_of L.f152 (by kernel_rfl) rfl;have e226:∀args w,(callFunc (ρ.f 226) args).run P w=.ok (.enter (ρ.f 226) args) w:=enters_of L.f226 (by kernel_rfl) rfl
 go_enter L.f153,Body.n153_ntmps ρ
 go_wp2_with (go_at_fn (ρ.f 226);refine(Any.strings_shouldUseASCIISet {L with} _ _).mono ?_;rintro e w' ⟨rfl,hw⟩;rw[hw,h8z])
 go_loopg [9,10] s.size (λg _ _ wx=>∃i:Nat,i+g=s.size/\wx.heap[w.heap.size]? =some (.stringIter s i)/\Below w.heap.size w wx/\Lib.NoAny s.data.toList chars.data.toList i)
 case atStart=>exact⟨0,by omega,World.iter_heap w s 0,(Below.refl _ w).alloc (ym0 _) _,Lib.NoAny.zero _ _⟩
 case round=>
  obtain⟨i,hig,hit,hbw,hno⟩:=hrel;have HN:Aside (Lib.NoAny s.data.toList chars.data.toList i):=hno;clear hno;by_cases hi:i<s.size
  ·have hnx:∀ty,(Instr.next (.pointer (some ⟨w.heap.size,0,none⟩)) true ty).run P wr=_:=λty=>Lib.run_next_any_at wr w.heap.size s i ty hit hi
   obtain⟨x,hx⟩:∃x:UInt8,s[i]'hi=x:=⟨_,rfl⟩;have hxl:s.data.toList[i]? =some x:=by rw[<-hx];exact Lib.data_getElem? s i hi
   have Hx:Aside (s.data.toList[i]? =some x):=hxl;clear hxl;by_cases ha:x.toNat<128
   ·have hde:Utf8.decode s i=(x.toNat,1):=by rw[decode_ascii s i hi (by rw[hx];exact ha),hx]
    rw[hde] at hnx;have hit2:=Lib.iterAt_heap wr w.heap.size s i (i+1) hit;have hbw2:=Lib.below_iterAt hbw (k:=w.heap.size) (ym0 _) s (i+1);obtain⟨W,hWd⟩:∃W,wr.iterAt w.heap.size s (i+1)=W:=⟨_,rfl⟩;rw[show(i+(x.toNat,1).2)=i+1 from rfl,hWd] at hnx;rw[hWd] at hit2 hbw2;clear hx hde;have hcon:=Lib.contains_iff_indexByte chars.data.toList x;have hback:((x.toNat:Int)).toNat.toUInt8=x:=by simp
    cases hin:chars.data.toList.contains x
    ·rw[hin] at hcon
     have hlt:¬((0:Int)<=Lib.indexByte chars.data.toList x):=of_decide_eq_false hcon.symm;clear hcon
     go_wp2_with (go_at_fn (ρ.f 152);refine(Any.strings_IndexRune_ascii {L with} _ _ _ (by omega) (by omega)).mono ?_;rintro e w' ⟨rfl,hw⟩;rw[hw,hback])
     go_roundg (s.size -(i+1))
     case measure=>omega
     case rel=>exact⟨i+1,by omega,hit2,hbw2,HN.out.succ Hx.out hin⟩
    ·rw[hin] at hcon
     have hge:(0:Int)<=Lib.indexByte chars.data.toList x:=of_decide_eq_true hcon.symm;clear hcon
     go_wp2_with (go_at_fn (ρ.f 152);refine(Any.strings_IndexRune_ascii {L with} _ _ _ (by omega) (by omega)).mono ?_;rintro e w' ⟨rfl,hw⟩;rw[hw,hback])
     go_ret
     exact⟨by rw[Lib.indexAny_hit HN.out Hx.out hin];rfl,hbw2⟩
   ·have hx128:128<=(s[i]'hi).toNat:=by rw[hx];omega
    obtain⟨d1,d2⟩:=decode_high s i hi hx128;obtain⟨d3,d4⟩:=qxg s i hi hx128;obtain⟨R,hR⟩:∃R,(Utf8.decode s i).1=R:=⟨_,rfl⟩;obtain⟨K,hK⟩:∃K,(Utf8.decode s i).2=K:=⟨_,rfl⟩;rw[hR] at d1;rw[hK] at d2 d3 d4;rw[hR,hK] at hnx;have hno2:=qz8 HN.out HC.out d4;have HN2:Aside (Lib.NoAny s.data.toList chars.data.toList (i+K)):=hno2;clear hno2 d4 hx;have hit2:=Lib.iterAt_heap wr w.heap.size s i (i+K) hit;have hbw2:=Lib.below_iterAt hbw (k:=w.heap.size) (ym0 _) s (i+K);obtain⟨W,hWd⟩:∃W,wr.iterAt w.heap.size s (i+K)=W:=⟨_,rfl⟩;rw[hWd] at hnx hit2 hbw2;have hltW:w.heap.size<W.heap.size:=(ys1.1 hit2).1;have cS:=Any.qgt (L:={L with}) chars (R:Int) W (by omega) hcs HC.out
    go_wp2_with (go_at_fn (ρ.f 152);refine cS.mono ?_;rintro e W' ⟨rfl,hbc⟩)
    go_roundg (s.size -(i+K))
    case measure=>omega
    case rel=>exact⟨i+K,by omega,(hbc.block _ hltW).trans hit2,hbw2.trans (hbc.mono hbw2.size),HN2.out⟩
  ·obtain rfl:i=s.size:=by omega
   have hnx:∀ty,(Instr.next (.pointer (some ⟨w.heap.size,0,none⟩)) true ty).run P wr=_:=λty=>Lib.run_next_end_at wr w.heap.size s s.size ty hit hi
   go_wp2
   go_ret
   exact⟨by rw[Lib.indexAny_none (by rw[<-Lib.size_eq];exact HN.out)];rfl,hbw⟩
theorem Any.qho (L:Lays.n153 P ρ)(h116:(P.info? (ρ.t 116)).map (λi=>(i.zero,i.size))=some (some (.agg (Array.replicate 256 (.bool false))),256))(s chars:ByteArray)(w:World)(h2:2<=chars.size)(hs:s.size<4294967281)(hcs:chars.size<4294967281)(hac:∀b∈chars.data.toList,b.toNat<128):
 Calls P (ρ.f 153) #[.string s,.string chars] w λe w'=>e=.returned (.int .i64 (Lib.indexAny s.data.toList chars.data.toList))/\Below w.heap.size w w':=by
 by_cases h8:s.size<=8
 ·exact Any.qgk L s chars w h2 h8 hcs hac
 ·refine(Any.strings_IndexAny_long L (zero_of_info h116).1 (zero_of_info h116).2 s chars w h2 (by omega) hs hcs (λj b hb=>hac b (List.mem_of_getElem? hb))).mono λe w' ⟨e1,e2⟩=>⟨e1,?_⟩
  rw[e2];exact((Below.refl _ _).alloc (ym0 _) _).alloc (by simp) _
#print axioms Any.qho
end Go.Proofs
namespace Go.Dn
open Go.Shelf Go.Proofs Go.RowKit
section
variable {P : Program} {g : Glob}
end
end Go.Dn
end

section
/- The head of an order (numbers, then one of some words), read by hand, as a contract of this text's form. -/
namespace Go.Dn
open Go.Shelf Go.Proofs
structure Hd4 (w0 wy:World)(br bx g:Nat)(T:TypeId)(k n m:Int)(W:Nat->ByteArray):Prop where
 below:RowKit.Below w0.heap.size w0 wy
 x:wy.heap[bx]? =some (.cells #[.int .i64 k,.int .i64 n,.int .i64 m,.slice none 0 0] T)
 r:wy.heap[br]? =some (.cells #[.int .i64 0,.int .i64 0,.int .i64 0,.slice none 0 0] T)
 wd:∀j,j<6->wy.cell? ⟨g,j,none⟩=some (.string (W j))
 ne:br<bx/\bx<g/\w0.heap.size<=br
theorem z2i (w:World)(o:Obj):(w.alloc o).heap[w.heap.size]? =some o:=by
 show(w.heap.push o)[w.heap.size]? =_
 simp
theorem Hd4.start {w w0 w1 w2:World}{T:TypeId}{n m:Int}{g:Nat}{W:Nat->ByteArray}(hw0:w.alloc (.cells #[.int .i64 0,.int .i64 0,.int .i64 0,.slice none 0 0] T)=w0)(hb1:RowKit.Below w0.heap.size w0 w1)
 (hbx:RowKit.Below w.heap.size w (w1.alloc (.cells #[.int .i64 0,.int .i64 n,.int .i64 m,.slice none 0 0] T)))(hg:(w1.alloc (.cells #[.int .i64 0,.int .i64 n,.int .i64 m,.slice none 0 0] T)).heap.size<=g)
 (hb2:RowKit.Below (w1.alloc (.cells #[.int .i64 0,.int .i64 n,.int .i64 m,.slice none 0 0] T)).heap.size (w1.alloc (.cells #[.int .i64 0,.int .i64 n,.int .i64 m,.slice none 0 0] T)) w2)
 (hwd:∀j,j<6->w2.cell? ⟨g,j,none⟩=some (.string (W j))):Hd4 w w2 w.heap.size w1.heap.size g T 0 n m W:=by
 have hs0:w0.heap.size=w.heap.size+1:=by rw[<-hw0];simp
 have hs1:=hb1.size;have hsx:(w1.alloc (.cells #[.int .i64 0,.int .i64 n,.int .i64 m,.slice none 0 0] T)).heap.size=w1.heap.size+1:=by simp
 refine⟨hbx.trans (hb2.mono hbx.size),?_,?_,hwd,by omega,by omega,ym0 _⟩
 ·rw[hb2.block _ (by omega)]
  exact z2i _ _
 ·rw[hb2.block _ (by omega),RowKit.Below.heap_alloc _ _ _ (by omega),hb1.block _ (by omega),<-hw0]
  exact z2i _ _
theorem Hd4.set {w0 wy:World}{br bx g:Nat}{T:TypeId}{k n m:Int}{W:Nat->ByteArray}(h:Hd4 w0 wy br bx g T k n m W)(k':Int):Hd4 w0 (wy.setCell ⟨bx,0,none⟩ (.int .i64 k')) br bx g T k' n m W:=by
 obtain⟨n1,n2,n3⟩:=h.ne;refine⟨h.below.setCell (by show _<=bx;omega) _,?_,?_,λj hj=> ?_,h.ne⟩
 ·simp only[World.setCell,Array.getElem?_modify,yx0,h.x,Option.map_some]
  rfl
 ·rw[RowKit.Below.heap_setCell _ _ _ _ (by show br≠bx;omega)];exact h.r
 ·rw[World.cell?_setCell_other _ _ _ _ (by first|(simp;done)|(simp;omega))]
  exact h.wd j hj
end Go.Dn
end

section
/- Loops of pure functions, in plain words: a run over a list. -/
namespace Go.Dn
section
variable {α σ ρ S R : Type}
theorem zal {B:S->Option (S⊕R)}{s t:S}(h:B s=some (.inl t)):fix B s=fix B t:=by rw[qbm,h]
theorem jh {B:S->Option (S⊕R)}{s:S}{r:R}(h:B s=some (.inr r)):fix B s=some r:=by rw[qbm,h]
def run (g:σ->α->σ⊕ρ):σ->List α->σ⊕ρ
 |a,[]=>.inl a
 |a,x::xs=>match g a x with
  | .inl b=>run g b xs
  | .inr r=>.inr r
theorem z7w {B:S->Option (S⊕R)}(xs:List α)(g:σ->α->σ⊕ρ)(mk:σ->Nat->S)(fin:σ->R)(ex:ρ->R)(I:Nat->σ->Prop)
 (hgo:∀i (hi:i<xs.length) a b,I i a->g a xs[i]=.inl b->I (i+1) b/\B (mk a i)=some (.inl (mk b (i+1))))
 (hex:∀i (hi:i<xs.length) a r,I i a->g a xs[i]=.inr r->B (mk a i)=some (.inr (ex r)))
 (hend:∀a,I xs.length a->B (mk a xs.length)=some (.inr (fin a))):
 ∀(n i:Nat) (a:σ),i+n=xs.length->I i a->fix B (mk a i)=some (match run g a (xs.drop i) with| .inl b=>fin b| .inr r=>ex r)/\(∀b,run g a (xs.drop i)=.inl b->I xs.length b)
 |0,i,a,hn,hI=>by
  have:i=xs.length:=by omega
  subst this;rw[List.drop_length];exact⟨jh (hend a hI),λb hb=>by simp only[run,Sum.inl.injEq] at hb;exact hb▸hI⟩
 |n+1,i,a,hn,hI=>by
  have hi:i<xs.length:=by omega
  rw[List.drop_eq_getElem_cons hi];simp only[run];cases hg:g a xs[i] with
  |inl b=>
   obtain⟨h1,h2⟩:=hgo i hi a b hI hg;have:=z7w xs g mk fin ex I hgo hex hend n (i+1) b (by omega) h1;rw[zal h2];exact this
  |inr r=>exact⟨jh (hex i hi a r hI hg),λb hb=>by cases hb⟩
theorem qdy {B:S->Option (S⊕R)}(xs:List α)(g:σ->α->σ⊕ρ)(mk:σ->Nat->S)(fin:σ->R)(ex:ρ->R)(I:Nat->σ->Prop)
 (hgo:∀i (hi:i<xs.length) a b,I i a->g a xs[i]=.inl b->I (i+1) b/\B (mk a i)=some (.inl (mk b (i+1))))
 (hex:∀i (hi:i<xs.length) a r,I i a->g a xs[i]=.inr r->B (mk a i)=some (.inr (ex r)))
 (hend:∀a,I xs.length a->B (mk a xs.length)=some (.inr (fin a)))(a:σ)(h0:I 0 a):
 fix B (mk a 0)=some (match run g a xs with| .inl b=>fin b| .inr r=>ex r)/\(∀b,run g a xs=.inl b->I xs.length b):=by
 simpa using z7w xs g mk fin ex I hgo hex hend xs.length 0 a (by omega) h0
theorem zvt {B:S->Option (S⊕R)}(st:Nat->S):∀(n i:Nat),(∀j,i<=j->j<i+n->B (st j)=some (.inl (st (j+1))))->fix B (st i)=fix B (st (i+n))
 |0,_,_=>rfl
 |n+1,i,h=>by
  rw[zal (h i (by omega) (by omega)),zvt st n (i+1) (λj h1 h2=>h j (by omega) (by omega))];congr 2;omega
theorem zio {B:S->Option (S⊕R)}(st:Nat->S)(n:Nat){r:R}(h:∀j,j<n->B (st j)=some (.inl (st (j+1))))(he:B (st n)=some (.inr r)):fix B (st 0)=some r:=by
 rw[zvt st n 0 (λj _ h2=>h j (by omega)),Nat.zero_add];exact jh he
end
theorem wrap64 {x:Int}(h1: -9223372036854775808<=x)(h2:x<=9223372036854775807):IntKind.wrap .i64 x=x:=by
 simp[IntKind.wrap,IntKind.signed,IntKind.bits];omega
theorem zq {i n:Nat}(h:i<n):inB (i:Int) n=true:=by
 unfold inB;simp;omega
theorem jc {n:Nat}(h:n<=1099511627776):qm n=true:=yc0 h
def tot:(t:Ty)->PV t->Nat
 | .int _,_=>0
 | .bool,_=>0
 | .str,s=>List.length s
 | .unit,_=>0
 | .pair a b,x=>tot a x.1+tot b x.2
 | .slice _ t,xs=>List.length (α:=PV t) xs+((xs:List (PV t)).map (tot t)).sum
theorem zp1 {e:TypeId}{t:Ty}{xs:List (PV t)}:tot (.slice e t) xs=xs.length+(xs.map (tot t)).sum:=by simp only[tot]
theorem q7n {s:List UInt8}:tot .str s=s.length:=by simp only[tot]
theorem qqs {l:List Nat}{i:Nat}(h:i<l.length):(l.take (i+1)).sum=(l.take i).sum+l[i]:=by
 rw[<-List.take_append_getElem h,List.sum_append];simp
theorem qxh (l:List Nat)(i:Nat):(l.take i).sum<=l.sum:=by
 conv=>rhs;rw[<-yp2 i l,List.sum_append]
 omega
theorem q9s {l:List Nat}{i:Nat}(h:i<l.length):l[i]<=l.sum:=by
 have:=qqs h;have:=qxh l (i+1);omega
end Go.Dn
namespace Go.Dn
section
variable {α σ S R : Type}
theorem zko {B:S->Option (S⊕R)}(xs:List α)(q:α->Bool)(st:Nat->S)(yes:Nat->R)(no:R)
 (hgo:∀i (hi:i<xs.length),q xs[i]=false->B (st i)=some (.inl (st (i+1))))(hex:∀i (hi:i<xs.length),q xs[i]=true->B (st i)=some (.inr (yes i)))
 (hend:B (st xs.length)=some (.inr no)):fix B (st 0)=some (if xs.any q then yes (xs.findIdx q) else no):=by
 by_cases ha:xs.any q=true
 ·rw[yx0 ha]
  have hlt:xs.findIdx q<xs.length:=List.findIdx_lt_length.2 (by simpa using ha)
  rw[zvt st (xs.findIdx q) 0 (λj _ h2=>hgo j (by omega) (by
   have:=List.not_of_lt_findIdx (xs:=xs) (p:=q) (i:=j) (by omega);simpa using this)),Nat.zero_add]
  exact jh (hex _ hlt List.findIdx_getElem)
 ·rw[yw0 ha]
  refine zio st xs.length (λj hj=>hgo j hj ?_) hend;have:=List.any_eq_false.1 (by simpa using ha) xs[j] (ym1 hj);simpa using this
theorem za8 {B:S->Option (S⊕R)}(xs:List α)(g:σ->α->σ)(mk:σ->Nat->S)(fin:σ->R)(I:Nat->σ->Prop)
 (hgo:∀i (hi:i<xs.length) a,I i a->I (i+1) (g a xs[i])/\B (mk a i)=some (.inl (mk (g a xs[i]) (i+1))))
 (hend:∀a,I xs.length a->B (mk a xs.length)=some (.inr (fin a)))(a:σ)(h0:I 0 a):
 fix B (mk a 0)=some (fin (xs.foldl g a))/\I xs.length (xs.foldl g a):=by
 have:=qdy (B:=B) (ρ:=Empty) xs (λa x=>.inl (g a x)) mk fin (λe=>nomatch e) I
  (λi hi a b hI hg=>by
    simp only[Sum.inl.injEq] at hg;subst hg;exact hgo i hi a hI)
  (λi hi a r=>nomatch r) hend a h0
 have hr:∀(ys:List α) (a:σ),run (ρ:=Empty) (λa x=>.inl (g a x)) a ys=.inl (ys.foldl g a):=by
  intro ys
  induction ys with
  |nil=>intro a;rfl
  |cons y ys ih=>intro a;simp only[run,List.foldl_cons];exact ih _
 rw[hr] at this;exact⟨this.1,this.2 _ rfl⟩
end
end Go.Dn
end

section
/- Loops of the laws' own helpers: counting, copying, comparing, marking. -/
namespace Go.Dn
theorem zwf {e:TypeId}{t:Ty}{xs:List (PV t)}{i:Nat}(hi:i<xs.length):tot t xs[i]<=tot (.slice e t) xs:=by
 have:=q9s (l:=xs.map (tot t)) (i:=i) (by simpa using hi);rw[List.getElem_map] at this;rw[zp1];omega
theorem q5u {n:Nat}(h:n<=1099511627776):(decide (0<=(n:Int))&&(decide ((n:Int)<=(n:Int))&&qm (n:Int).toNat))=true:=by
 simp[qm];omega
theorem ql {α:Type}{xs:List α}{d:α}{i:Nat}(h:i<xs.length):xs.getD i d=xs[i]:=by
 simp[List.getD,h]
theorem toNat_cast (i:Nat):((i:Int)).toNat=i:=by simp
end Go.Dn
end

section
/- Plain facts on lists: any over places, equality by places, bytes. -/
namespace Go.Dn
theorem qex {α:Type}(p q:α->Bool):∀l:List α,(l.any λx=>p x||q x)=(l.any p||l.any q)
 |[]=>rfl
 |x::l=>by
  simp only[List.any_cons,qex p q l];cases p x<;>cases q x<;>cases l.any p<;>rfl
def anyN (n:Nat)(q:Nat->Bool):Bool:=(List.range n).any q
theorem zdf {n:Nat}{q:Nat->Bool}:anyN n q=true↔∃i,i<n/\q i=true:=by
 unfold anyN;rw[List.any_eq_true];simp
theorem qdz {n:Nat}{p q:Nat->Bool}:anyN n (λi=>p i||q i)=(anyN n p||anyN n q):=qex p q _
theorem qan {α:Type}{xs:List α}{f:α->Bool}{d:α}:anyN xs.length (λi=>f (xs.getD i d))=xs.any f:=by
 rw[Bool.eq_iff_iff,zdf,List.any_eq_true];constructor
 ·rintro⟨i,hi,h⟩
  rw[ql hi] at h;exact⟨_,ym1 hi,h⟩
 ·rintro⟨x,hx,h⟩
  obtain⟨i,hi,rfl⟩:=yu2.1 hx;exact⟨i,hi,by rw[ql hi];exact h⟩
section
variable {S R : Type}
theorem zcb {B:S->Option (S⊕R)}(n:Nat)(q:Nat->Bool)(st:Nat->S)(yes:Nat->R)(no:R)
 (hgo:∀i,i<n->q i=false->B (st i)=some (.inl (st (i+1))))(hex:∀i,i<n->q i=true->B (st i)=some (.inr (yes i)))
 (hend:B (st n)=some (.inr no)):fix B (st 0)=some (if anyN n q then yes ((List.range n).findIdx q) else no):=by
 unfold anyN;refine zko (List.range n) q st yes no (λi hi h=>hgo i (by simpa using hi) (by simpa using h)) (λi hi h=>hex i (by simpa using hi) (by simpa using h)) (by simpa using hend)
end
theorem zb3 {c:UInt8}{n:Nat}(hn:n<256):((c.toNat:Int)==(n:Int))=(c==UInt8.ofNat n):=by
 rw[Bool.eq_iff_iff,yy0,yy0];constructor
 ·intro h
  have:c.toNat=n:=by omega
  rw[<-this,UInt8.ofNat_toNat]
 ·rintro rfl
  simp;omega
theorem qqt {s:List UInt8}{n:Nat}{c:UInt8}(h:n<=s.length):anyN n (λi=>s.getD i 0==c)=(s.take n).contains c:=by
 rw[Bool.eq_iff_iff,zdf,List.contains_iff_mem];simp only[yy0];constructor
 ·rintro⟨i,hi,rfl⟩
  rw[ql (by omega),<-List.getElem_take (j:=n) (h:=by simp;omega)];exact ym1 _
 ·intro hm
  obtain⟨i,hi,rfl⟩:=yu2.1 hm;simp only[yr1] at hi;exact⟨i,by omega,by rw[ql (by omega),List.getElem_take]⟩
end Go.Dn
end

section
/- Marking all of a value, and looking whether the marks stand. -/
namespace Go.Dn
def zxj {α:Type}(m:α->Int->α×Int):List α->Int->List α×Int
 |[],k=>([],k)
 |x::xs,k=>((m x k).1::(zxj m xs (m x k).2).1,(zxj m xs (m x k).2).2)
def mk (tx:Int->List UInt8):(t:Ty)->PV t->Int->PV t×Int
 | .int _,_,k=>(k,k+1)
 | .bool,b,k=>(b,k)
 | .str,_,k=>(tx k,k+1)
 | .unit,_,k=>((),k)
 | .pair a b,x,k=>(((mk tx a x.1 k).1,(mk tx b x.2 (mk tx a x.1 k).2).1),(mk tx b x.2 (mk tx a x.1 k).2).2)
 | .slice _ t,xs,k=>zxj (mk tx t) xs k
section
variable {T : Ty} {e : TypeId} {tx : Int → List UInt8} {Q : PV T → Prop}
theorem qd0 {t:Ty}{xs:List (PV t)}{n:Nat}(h:tot (.slice e t) xs<=n):∀x∈xs,tot t x<=n:=by
 intro x hx;obtain⟨i,hi,rfl⟩:=yu2.1 hx;exact yo1 (zwf (e:=e) hi) h
end
end Go.Dn
namespace Go.Dn
def wd:Ty->Nat
 | .int _=>1
 | .bool=>0
 | .str=>1
 | .unit=>0
 | .pair a b=>wd a+wd b
 | .slice _ _=>0
def mx:Ty->Nat
 | .pair a b=>max (mx a) (mx b)
 | .slice _ t=>max (wd t) (mx t)
 |_=>0
end Go.Dn
end

section
/- Longest common lists, in plain words. -/
namespace Go.Dn
section
variable {α : Type} [DecidableEq α]
def lcs:List α->List α->Nat
 |[],_=>0
 |_::_,[]=>0
 |x::a,y::b=>if x=y then lcs a b+1 else max (lcs a (y::b)) (lcs (x::a) b)
 termination_by a b=>a.length+b.length
def T (a b:List α)(i j:Nat):Nat:=lcs (a.drop i) (b.drop j)
end
end Go.Dn
namespace Go.Dn
def mkT {α:Type}(n:Nat)(f:Nat->α):List α:=(List.range n).map f
theorem znc {α:Type}{n:Nat}{f:Nat->α}:(mkT n f).length=n:=by simp[mkT]
theorem q7o {α:Type}{n:Nat}{f:Nat->α}{r:Nat}{d:α}(h:r<n):(mkT n f).getD r d=f r:=by
 rw[ql (by rw[znc];exact h)];simp[mkT]
theorem znd {α:Type}{n:Nat}{f g:Nat->α}(h:∀r,r<n->f r=g r):mkT n f=mkT n g:=by
 unfold mkT;exact List.map_congr_left λr hr=>h r (List.mem_range.1 hr)
theorem q7p {α:Type}{n:Nat}{f:Nat->α}{i:Nat}{v:α}:(mkT n f).set i v=mkT n λr=>if r=i then v else f r:=by
 apply List.ext_getElem
 ·simp[mkT]
 ·intro k h1 h2
  simp only[mkT,List.getElem_set,List.getElem_map,List.getElem_range];by_cases h:i=k
  ·subst h;simp
  ·rw[yw0 h,yw0 (by omega)]
theorem q7q {α:Type}{n:Nat}{v:α}:List.replicate n v=mkT n λ_=>v:=by
 apply List.ext_getElem
 ·simp[mkT]
 ·intro k h1 h2
  simp[mkT]
end Go.Dn
end

section
/- The lines of a text. -/
namespace Go.Dn
open Go
def cutP:List UInt8->List (List UInt8)
 |[]=>[]
 |b::s=>if b=10 then[10]::cutP s else match cutP s with
  |[]=>[[b]]
  |h::t=>(b::h)::t
theorem zmz (s:List UInt8):cutP (10::s)=[10]::cutP s:=by simp[cutP]
theorem ziq {b:UInt8}(h:b≠10)(s:List UInt8):cutP (b::s)=match cutP s with
 |[]=>[[b]]
 |h::t=>(b::h)::t:=by simp[cutP,h]
theorem zj3:∀s:List UInt8,(cutP s).flatten=s
 |[]=>rfl
 |b::s=>by
  by_cases h:b=10
  ·subst h;rw[zmz,yd1,zj3 s];rfl
  ·rw[ziq h]
   have:=zj3 s;cases hc:cutP s with
   |nil=>rw[hc] at this;rw[<-this];rfl
   |cons x t=>rw[hc] at this;rw[<-this];rfl
theorem zne:∀{s:List UInt8} {l:List UInt8},l∈cutP s->l≠[]
 |[],_,h=>by cases h
 |b::s,l,hl=>by
  by_cases h:b=10
  ·subst h
   rw[zmz] at hl;rcases yg1.1 hl with rfl|hl
   ·simp
   ·exact zne hl
  ·rw[ziq h] at hl
   cases hc:cutP s with
   |nil=>rw[hc] at hl;obtain rfl:=yl1.1 hl;simp
   |cons x t=>
    rw[hc] at hl;rcases yg1.1 hl with rfl|hl
    ·simp
    ·exact zne (by rw[hc];exact yg0 _ hl)
theorem zvu {s:List UInt8}(h:s≠[]):cutP s≠[]:=by
 intro h2;have:=zj3 s;rw[h2] at this;exact h this.symm
def isL (l:List UInt8):Prop:=∃t,l=t++[10]/\(10:UInt8)∉t
theorem zp2:∀{t:List UInt8} (s:List UInt8),(10:UInt8)∉t->cutP (t++10::s)=(t++[10])::cutP s
 |[],s,_=>zmz s
 |b::t,s,h=>by
  rw[yw1,ziq (λe=>h (by rw[e];exact yk0 ..)),zp2 (t:=t) s λm=>h (yg0 _ m)];rfl
theorem zuz:∀{t:List UInt8},(10:UInt8)∉t->t≠[]->cutP t=[t]
 |[],_,h=>absurd rfl h
 |[b],h,_=>by rw[ziq (λe=>h (by rw[e];exact yk0 ..))];rfl
 |b::c::t,h,_=>by
  rw[ziq (λe=>h (by rw[e];exact yk0 ..)),zuz (t:=c::t) (λm=>h (yg0 _ m)) (by simp)]
theorem zvv {l:List UInt8}(h:isL l)(s:List UInt8):cutP (l++s)=l::cutP s:=by
 obtain⟨t,rfl,ht⟩:=h;rw[yj0,List.singleton_append,zp2 s ht]
theorem zue:∀{ls:List (List UInt8)},(∀l∈ls,isL l)->cutP ls.flatten=ls
 |[],_=>rfl
 |l::ls,h=>by rw[yd1,zvv (h l (yk0 ..)),zue λx hx=>h x (yg0 _ hx)]
theorem zil:∀s:List UInt8,(cutP s).length<=s.length
 |[]=>ym0 _
 |b::s=>by
  have ih:=zil s;by_cases h:b=10
  ·subst h;rw[zmz,yf0,yf0];omega
  ·rw[ziq h]
   cases hc:cutP s with
   |nil=>simp
   |cons x t=>rw[hc] at ih;simp at ih ⊢;omega
theorem z4f {l:List UInt8}:∀{ls:List (List UInt8)},l∈ls->l.length<=ls.flatten.length
 |x::ls,h=>by
  rw[yd1,ye0];rcases yg1.1 h with rfl|h
  ·omega
  ·have:=z4f h;omega
theorem zm0 {s l:List UInt8}(h:l∈cutP s):l.length<=s.length:=by
 have:=z4f h
 rwa [zj3] at this
def spl:List UInt8->List (List UInt8)
 |[]=>[[]]
 |b::s=>if b=10 then[10]::spl s else match spl s with
  |[]=>[[b]]
  |h::t=>(b::h)::t
theorem qd1 (s:List UInt8):spl (10::s)=[10]::spl s:=by simp[spl]
theorem zw5 {b:UInt8}(h:b≠10)(s:List UInt8):spl (b::s)=match spl s with
 |[]=>[[b]]
 |h::t=>(b::h)::t:=by simp[spl,h]
theorem qcj:∀{t:List UInt8} (s:List UInt8),(10:UInt8)∉t->spl (t++10::s)=(t++[10])::spl s
 |[],s,_=>qd1 s
 |b::t,s,h=>by
  rw[yw1,zw5 (λe=>h (by rw[e];exact yk0 ..)),qcj (t:=t) s λm=>h (yg0 _ m)];rfl
theorem qck:∀{t:List UInt8},(10:UInt8)∉t->spl t=[t]
 |[],_=>rfl
 |b::t,h=>by
  rw[zw5 (λe=>h (by rw[e];exact yk0 ..)),qck (t:=t) λm=>h (yg0 _ m)]
theorem ztd (c:UInt8)(r:List UInt8):∀{t:List UInt8},c∉t->Lib.indexByte (t++c::r) c=(t.length:Int)
 |[],_=>by simp[Lib.indexByte]
 |b::t,h=>by
  have hb:(b==c)=false:=yo0.2 λe=>h (by rw[e];exact yk0 ..);have ih:=ztd c r (t:=t) λm=>h (yg0 _ m);rw[yw1];unfold Lib.indexByte;rw[hb,ih];simp
theorem zsu (c:UInt8):∀{t:List UInt8},c∉t->Lib.indexByte t c= -1
 |[],_=>rfl
 |b::t,h=>by
  have hb:(b==c)=false:=yo0.2 λe=>h (by rw[e];exact yk0 ..);have ih:=zsu c (t:=t) λm=>h (yg0 _ m);unfold Lib.indexByte;rw[hb,ih];simp
theorem zcj {c:UInt8}:∀{s:List UInt8},c∈s->∃t r,s=t++c::r/\c∉t
 |b::s,h=>by
  by_cases hb:b=c
  ·exact⟨[],s,by rw[hb];rfl,by simp⟩
  ·obtain⟨t,r,e,ht⟩:=zcj (c:=c) (s:=s) ((yg1.1 h).resolve_left λe=>hb e.symm)
   exact⟨b::t,r,by rw[e];rfl,λm=>(yg1.1 m).elim (λe=>hb e.symm) ht⟩
theorem z7x:∀(k:Nat) (s:List UInt8),s.count 10=k->Lib.splitK [10] 1 k s=spl s
 |0,s,h=>by
  rw[qck (List.count_eq_zero.1 h)];rfl
 |k+1,s,h=>by
  obtain⟨t,r,rfl,ht⟩:=zcj (c:=10) (s:=s) (List.count_pos_iff.1 (by omega))
  have hc:r.count 10=k:=by
   rw[List.count_append,List.count_eq_zero.2 ht,List.count_cons_self] at h;omega
  unfold Lib.splitK;rw[Lib.index_one,ztd 10 r ht,yw0 (by simp),qcj r ht];have e1:((t.length:Int)).toNat=t.length:=by simp
  rw[e1]
  have e2:(t++10::r).take (t.length+1)=t++[10]:=by
   rw[show t++(10:UInt8)::r=(t++[10])++r by simp,List.take_left' (by simp)]
  have e3:(t++(10:UInt8)::r).drop (t.length+[(10:UInt8)].length)=r:=by
   rw[show t++(10:UInt8)::r=(t++[10])++r by simp,List.drop_left' (by simp)]
  rw[e2,e3,z7x k r hc]
def zgw (s:List UInt8):List (List UInt8):=bif s.isEmpty||(s.getLast?==some 10) then[[]] else[]
theorem qd2:∀s:List UInt8,spl s=cutP s++zgw s
 |[]=>rfl
 |b::s=>by
  have ih:=qd2 s;by_cases h:b=10
  ·subst h
   rw[qd1,zmz,ih,yw1];cases s with
   |nil=>rfl
   |cons c s=>simp[zgw]
  ·rw[zw5 h,ziq h,ih]
   cases s with
   |nil=>
    have hb:(b==10)=false:=yo0.2 h;simp[cutP,zgw,hb]
   |cons c s=>
    have hn:=zvu (s:=c::s) (by simp);cases hc:cutP (c::s) with
    |nil=>exact absurd hc hn
    |cons x t=>simp[zgw]
theorem q3m {s:List UInt8}(hs:s≠[]):∃q,spl s=q++[(spl s).getLastD []]/\(if (spl s).getLastD []=[] then q else spl s)=cutP s:=by
 have h:=qd2 s;have hn:=zvu hs;cases ht:(s.getLast?==some 10) with
 |true=>
  have e:zgw s=[[]]:=by simp[zgw,ht]
  rw[e] at h;refine⟨cutP s,?_,?_⟩<;>rw[h]<;>simp
 |false=>
  have e:zgw s=[]:=by
   cases s with
   |nil=>exact absurd rfl hs
   |cons b s=>unfold zgw;rw[ht];rfl
  rw[e,yz0] at h;rw[h];rcases List.eq_nil_or_concat (cutP s) with h0|⟨q,x,hq⟩
  ·exact absurd h0 hn
  ·have hx:x≠[]:=zne (s:=s) (by rw[hq];simp)
   refine⟨q,?_,?_⟩<;>rw[hq]<;>simp[hx]
end Go.Dn
end

section
/- Numbers of at most four digits, in their one form. -/
namespace Go.Dn
open Go
def isDg (c:UInt8):Bool:=decide (48<=c.toNat)&&decide (c.toNat<=57)
def zb6 (n:Nat)(c:UInt8):Nat:=10*n+(c.toNat -48)
def dval (s:List UInt8):Nat:=s.foldl zb6 0
def lead (s:List UInt8):Bool:=match s with
 |[]=>false
 |[_]=>true
 |c::_=> !(c==48)
def canon (s:List UInt8):Bool:=decide (s.length<=4)&&(s.all isDg&&lead s)
theorem zp3 (t:List UInt8)(c:UInt8):dval (t++[c])=10*dval t+(c.toNat -48):=by
 unfold dval;rw[List.foldl_append];rfl
theorem q3n {t:List UInt8}{c:UInt8}(ht:t≠[])(h:lead (t++[c])=true):lead t=true:=by
 match t,ht with
 |[a],_=>rfl
 |a::b::t,_=>exact h
theorem qcl {c:UInt8}(h:isDg c=true):UInt8.ofNat (48+(c.toNat -48))=c:=by
 unfold isDg at h;rw[yh0,yr0,yr0] at h;rw[show 48+(c.toNat -48)=c.toNat by omega,UInt8.ofNat_toNat]
theorem zrf {c:UInt8}(h:isDg c=true):c.toNat -48<10:=by
 unfold isDg at h;rw[yh0,yr0,yr0] at h;omega
theorem qcm:∀(n:Nat) {t:List UInt8},t.length=n->t≠[]->t.all isDg=true->(∀a r,t=a::r->(a==48)=false)->1<=dval t
 |0,t,hn,h,_,_=>absurd (yt0 hn) h
 |n+1,t,hn,_,hd,h0=>by
  rcases List.eq_nil_or_concat t with rfl|⟨u,c,rfl⟩
  ·cases hn
  ·rw[List.concat_eq_append] at*
   rw[zp3];cases u with
   |nil=>
    have hc:=h0 c [] rfl;have hd':isDg c=true:=by simpa using hd
    unfold isDg at hd';rw[yh0,yr0,yr0] at hd'
    have:c.toNat≠48:=λe=>by
     have:c=48:=by rw[<-UInt8.ofNat_toNat (x:=c),e];rfl
     rw[this] at hc;cases hc
    omega
   |cons a r=>
    have ih:=qcm n (t:=a::r) (by simpa using hn) (by simp) (by
     rw[List.all_append,yh0] at hd;exact hd.1) (λa' r' e=>by
     obtain⟨rfl,rfl⟩:=List.cons.inj e;exact h0 _ (r++[c]) rfl)
    omega
theorem qcn:∀(n:Nat) {s:List UInt8},s.length=n->s.all isDg=true->lead s=true->Lib.decDigits (dval s)=s
 |0,s,hn,_,hl=>by
  obtain rfl:=yt0 hn;cases hl
 |n+1,s,hn,hd,hl=>by
  rcases List.eq_nil_or_concat s with rfl|⟨t,c,rfl⟩
  ·cases hn
  ·rw[List.concat_eq_append] at*
   have hd2:=hd;rw[List.all_append,yh0] at hd2;have hc:isDg c=true:=by simpa using hd2.2
   have h10:=zrf hc;rw[zp3];by_cases ht:t=[]
   ·subst ht
    rw[show dval []=0 from rfl,Lib.decDigits_one (by omega)];rw[show 48+(10*0+(c.toNat -48))=48+(c.toNat -48) by omega,qcl hc];rfl
   ·have hne:∀a r,t=a::r->(a==48)=false:=λa r e=>by
     subst e;have:lead (a::(r++[c]))=true:=hl;cases hr:r++[c] with
     |nil=>simp at hr
     |cons b q=>rw[hr] at this;simpa[lead] using this
    have hp:=qcm t.length rfl ht hd2.1 hne;rw[Lib.decDigits,dif_neg (by omega)];rw[show(10*dval t+(c.toNat -48))/10=dval t by omega,show(10*dval t+(c.toNat -48))%10=c.toNat -48 by omega,qcl hc,qcn n (by simpa using hn) hd2.1 (q3n ht hl)]
theorem zj4:∀(u:Nat),(Lib.decDigits u).all isDg=true/\lead (Lib.decDigits u)=true/\dval (Lib.decDigits u)=u/\(Lib.decDigits u)≠[]/\(1<=u->∀a r,Lib.decDigits u=a::r->(a==48)=false):=by
 intro u
 induction u using Nat.strongRecOn with
 |_ u ih=>
  have hch:∀d,d<10->(UInt8.ofNat (48+d)).toNat=48+d:=λd hd=>by simp;omega
  have hdg:∀d,d<10->isDg (UInt8.ofNat (48+d))=true:=λd hd=>by
   unfold isDg;rw[hch d hd,yc0 (by omega),yc0 (by omega)];rfl
  by_cases h:u<10
  ·rw[Lib.decDigits_one h]
   refine⟨by rw[List.all_cons,hdg u h];rfl,rfl,?_,by simp,λh1 a r e=> ?_⟩
   ·show zb6 0 _=u
    unfold zb6;rw[hch u h];omega
   ·obtain⟨rfl,rfl⟩:=List.cons.inj e
    rw[yo0];intro e2;have:=congrArg UInt8.toNat e2;rw[hch u h] at this;simp at this;omega
  ·obtain⟨q1,q2,q3,q4,q5⟩:=ih (u/10) (by omega)
   have hm:=Nat.mod_lt u (by omega:10>0);rw[Lib.decDigits,dif_neg h];have hq5:=q5 (by omega);obtain⟨a,r,e⟩:=List.exists_cons_of_ne_nil q4;refine⟨by rw[List.all_append,q1,List.all_cons,hdg _ hm];rfl,?_,?_,by simp,λ_ a' r' e'=> ?_⟩
   ·rw[e]
    have:=hq5 a r e;cases r with
    |nil=>simp[lead,this]
    |cons b r=>simp[lead,this]
   ·rw[zp3,q3,hch _ hm];omega
   ·rw[e,yw1] at e'
    obtain⟨rfl,_⟩:=List.cons.inj e';exact hq5 a r e
theorem zwg:∀(n:Nat) {s:List UInt8},s.length=n->s.all isDg=true->dval s<10^n
 |0,s,hn,_=>by
  obtain rfl:=yt0 hn;decide
 |n+1,s,hn,hd=>by
  rcases List.eq_nil_or_concat s with rfl|⟨t,c,rfl⟩
  ·cases hn
  ·rw[List.concat_eq_append] at*
   rw[List.all_append,yh0] at hd;have ih:=zwg n (s:=t) (by simpa using hn) hd.1;have:=zrf (c:=c) (by simpa using hd.2);rw[zp3,Nat.pow_succ];omega
theorem qao:∀{s:List UInt8} {acc:Nat},(acc+1)*10^s.length<=1000000000->s.all isDg=true->Lib.parseUint10 acc s=.ok (s.foldl zb6 acc)
 |[],_,_,_=>rfl
 |c::s,acc,ha,hd=>by
  rw[List.all_cons,yh0] at hd;have h10:=zrf hd.1;have hc:=hd.1;unfold isDg at hc;rw[yh0,yr0,yr0] at hc;have hp:1<=10^s.length:=Nat.one_le_pow _ _ (by omega);rw[yf0,Nat.pow_succ,Nat.mul_comm (10^s.length) 10,<-Nat.mul_assoc] at ha;have ha1:(acc+1)*10<=1000000000:=yo1 (Nat.le_mul_of_pos_right _ hp) ha;unfold Lib.parseUint10;rw[yx0 hc,yw0 (by omega),yw0 (by omega)];have:acc*10+(c.toNat -48)=zb6 acc c:=by unfold zb6;omega
  rw[this,List.foldl_cons];refine qao (yo1 (Nat.mul_le_mul_right _ ?_) ha) hd.2;unfold zb6;omega
theorem zdg {s:List UInt8}(h:canon s=true):s.length<=4/\s.all isDg=true/\lead s=true/\s≠[]:=by
 unfold canon at h;rw[yh0,yh0,yr0] at h;exact⟨h.1,h.2.1,h.2.2,λe=>by rw[e] at h;cases h.2.2⟩
theorem z7y {s:List UInt8}(h:canon s=true):Lib.atoiAll s=.ok (dval s:Int):=by
 obtain⟨h1,h2,h3,h4⟩:=zdg h;obtain⟨c,r,rfl⟩:=List.exists_cons_of_ne_nil h4;have hc:isDg c=true:=by rw[List.all_cons,yh0] at h2;exact h2.1
 unfold isDg at hc;rw[yh0,yr0,yr0] at hc;have hlt:=zwg _ rfl h2;have hlt4:dval (c::r)<10^4:=yy1 hlt (Nat.pow_le_pow_right (by omega) h1);unfold Lib.atoiAll;dsimp only;rw[yw0 (by omega)];unfold Lib.parseMag;rw[yw0 (by simp),qao (yo1 (by rw[Nat.zero_add,Nat.one_mul];exact Nat.pow_le_pow_right (by omega) h1) (by omega:10^4<=1000000000)) h2];dsimp only;rw[show(c::r).foldl zb6 0=dval (c::r) from rfl,yw0 (by omega),yw0 (by omega),yw0 (by omega)]
theorem qz9 (s:List UInt8):numB s=canon s:=by
 rw[Bool.eq_iff_iff];constructor
 ·intro h
  unfold numB at h;split at h
  ·rename_i v hv
   rw[yh0,yh0,yr0,yr0,yy0] at h;obtain⟨h0,h4,he⟩:=h;obtain⟨n,rfl⟩:=Int.eq_ofNat_of_zero_le h0;rw[Lib.itoa_nonneg] at he;obtain⟨q1,q2,_⟩:=zj4 n;rw[he] at q1 q2;unfold canon;rw[q1,q2,yc0 h4];rfl
  ·cases h
 ·intro h
  obtain⟨h1,h2,h3,h4⟩:=zdg h;unfold numB;rw[z7y h];dsimp only;rw[yc0 (Int.natCast_nonneg _),yc0 h1,Lib.itoa_nonneg,qcn _ rfl h2 h3];simp
theorem zjs {s:List UInt8}(h:canon s=true):numV s=(dval s:Int):=by
 unfold numV;rw[z7y h]
theorem zcz {s:List UInt8}(h:canon s=true):dval s<10000:=by
 obtain⟨h1,h2,h3,h4⟩:=zdg h;exact yy1 (zwg _ rfl h2) (Nat.pow_le_pow_right (by omega) h1)
theorem zdc {n:Nat}(h:n<10000):canon (Lib.decDigits n)=true/\dval (Lib.decDigits n)=n:=by
 obtain⟨q1,q2,q3,_⟩:=zj4 n;refine⟨?_,q3⟩;unfold canon;rw[q1,q2,Lib.decDigits_length]
 have:Lib.nDigits n<=4:=by
  rcases Nat.lt_or_ge n 10 with h1|h1
  ·rw[Lib.nDigits_small h1];omega
  ·rcases Nat.lt_or_ge n 100 with h2|h2
   ·rw[Lib.nDigits_unique 1 n h1 h2];omega
   ·rcases Nat.lt_or_ge n 1000 with h3|h3
    ·rw[Lib.nDigits_unique 2 n h2 h3];omega
    ·rw[Lib.nDigits_unique 3 n h3 h];omega
 rw[yc0 this];rfl
theorem zfc {s:List UInt8}(h:canon s=true):∀c∈s,isDg c=true:=λc hc=>ys2.1 (zdg h).2.1 c hc
def comma (s:List UInt8):Option (List UInt8×List UInt8):=if 44∈s then some (s.takeWhile (· !=44),(s.dropWhile (· !=44)).drop 1) else none
theorem zfd {s:List UInt8}(h:(44:UInt8)∉s):comma s=none:=yw0 h
theorem zd3 {a:List UInt8}(b:List UInt8)(h:(44:UInt8)∉a):comma (a++44::b)=some (a,b):=by
 unfold comma;rw[yx0 (by simp)]
 have h1:(a++44::b).takeWhile (· !=(44:UInt8))=a:=by
  rw[List.takeWhile_append_of_pos (λx hx=>by simp;exact λe=>h (e▸hx))];simp
 have h2:(a++44::b).dropWhile (· !=(44:UInt8))=44::b:=by
  rw[List.dropWhile_append_of_pos (λx hx=>by simp;exact λe=>h (e▸hx))];simp
 rw[h1,h2];rfl
def rngP (n m:Int):Option (Int×Int):=if 0<=n/\n<=999/\0<=m/\m<=999 then some (n,m) else none
def countP (s:List UInt8):Option (Int×Int):=match comma s with
 |none=>if canon s=true then rngP ((dval s:Int) -1) 1 else none
 |some (a,b)=>if canon a=true/\canon b=true then rngP (if 0<dval b then(dval a:Int) -1 else(dval a:Int)) (dval b:Int) else none
theorem z4g {s:List UInt8}{x:Int×Int}(h:countP s=some x):∀c∈s,isDg c=true\/c=44:=by
 unfold countP at h;by_cases hm:(44:UInt8)∈s
 ·obtain⟨a,b,rfl,ha⟩:=zcj hm
  rw[zd3 b ha] at h;dsimp only at h;split at h
  ·rename_i hc
   intro c hcm;rcases yu0.1 hcm with hcm|hcm
   ·exact .inl (zfc hc.1 c hcm)
   ·rcases yg1.1 hcm with rfl|hcm
    ·exact .inr rfl
    ·exact .inl (zfc hc.2 c hcm)
  ·cases h
 ·rw[zfd hm] at h
  dsimp only at h;split at h
  ·rename_i hc
   exact λc hcm=>.inl (zfc hc c hcm)
  ·cases h
theorem qap {s:List UInt8}{x:Int×Int}(h:countP s=some x):s≠[]:=by
 rintro rfl;unfold countP comma at h;simp[canon,lead] at h
theorem zdw {s:List UInt8}{n m:Int}(h:countP s=some (n,m)):0<=n/\n<=999/\0<=m/\m<=999:=by
 have key:∀{a b:Int},rngP a b=some (n,m)->0<=n/\n<=999/\0<=m/\m<=999:=by
  intro a b h;unfold rngP at h;split at h
  ·rename_i hc
   obtain⟨rfl,rfl⟩:=yk1 (yl0 h);exact hc
  ·cases h
 unfold countP at h;split at h
 ·split at h
  ·exact key h
  ·cases h
 ·split at h
  ·exact key h
  ·cases h
theorem z7z {s:List UInt8}{x:Int×Int}(h:countP s=some x):s.length<=9:=by
 unfold countP at h;by_cases hm:(44:UInt8)∈s
 ·obtain⟨a,b,rfl,ha⟩:=zcj hm
  rw[zd3 b ha] at h;dsimp only at h;split at h
  ·rename_i hc
   have:=(zdg hc.1).1;have:=(zdg hc.2).1;rw[ye0,yf0];omega
  ·cases h
 ·rw[zfd hm] at h
  dsimp only at h;split at h
  ·rename_i hc
   have:=(zdg hc).1;omega
  ·cases h
def xw (n m:Nat):List UInt8:=Lib.decDigits (if 0<m then n+1 else n)++(if m=1 then[] else 44::Lib.decDigits m)
theorem zqh {n m:Nat}(hn:n<=999)(hm:m<=999):countP (xw n m)=some ((n:Int),(m:Int)):=by
 have h44:∀u,(44:UInt8)∉Lib.decDigits u:=λu hu=>by
  have:=ys2.1 (zj4 u).1 44 hu;cases this
 unfold xw;by_cases h1:m=1
 ·subst h1
  rw[yx0 (by omega),yx0 rfl,yz0];unfold countP;rw[zfd (h44 _)];dsimp only;obtain⟨c1,c2⟩:=zdc (n:=n+1) (by omega);rw[yx0 c1,c2];unfold rngP;rw[yx0 (by omega)];congr 2;omega
 ·rw[yw0 h1]
  unfold countP;rw[zd3 _ (h44 _)];dsimp only;obtain⟨d1,d2⟩:=zdc (n:=m) (by omega);obtain⟨c1,c2⟩:=zdc (n:=if 0<m then n+1 else n) (by split<;>omega);rw[yx0 ⟨c1,d1⟩,c2,d2];unfold rngP;by_cases h0:0<m
  ·rw[yx0 h0,yx0 h0,yx0 (by omega)]
   congr 2;omega
  ·rw[yw0 h0,yw0 h0,yx0 (by omega)]
end Go.Dn
end
