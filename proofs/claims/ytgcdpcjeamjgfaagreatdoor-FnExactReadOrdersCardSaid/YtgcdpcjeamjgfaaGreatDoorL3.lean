/- Parts of the proof: Dz Eb Ec Ed Fa Fb Fc Fd Fe Fh Fi Fj Fk Fl Fm Fn Fo Fr Fs Ga Gb Gc Gd Gf Gh. -/
import Derived.Test.YtgcdpcjeamjgfaaGreatDoorL2
import Derived.ReadAgain
import Derived.ChangeSame
import Derived.OpenShut
import Derived.RowKit
import Derived.ChangeAt
import Derived.WalkKit
import Derived.ProofKit
import Derived.Handed
import Derived.ChangeOld
import Derived.ShutString
import Derived.Shelf.Strings.Search3
import Derived.Lib.IndexAny
import Derived.Laws.Cover3
import Derived.Shelf.Strconv.Itoa3
import Derived.Lib.LaidTab
import Derived.MakeChecks
import Derived.LaidMore
import Derived.LaidLaws
import Derived.LaidHandle
import Derived.Stop.Joined
import Derived.Shelf.Strings.OnBuilder
import Derived.Shelf.Spec.SlicesGrow
import Derived.Shelf.Strings.SplitCore
import Derived.Shelf.Strings.Count
import Derived.Lib.SplitLaws
import Derived.ChangeArms
import Derived.Shelf.Strconv.ErrVarAll
import Derived.Shelf.Vars
import Derived.Lib.SmallJoins
import Derived.Deep.LoopGhost
import Derived.Deep.RegionLaw
import Derived.Deep.DeepCutAuto
import Derived.Deep.DeepFit
import Derived.Laws.CopyOwn
import Derived.Shelf.Spec.SlicesInsert
import Derived.Shelf.Strings.IndexAnyAll
import Derived.Shelf.Small.Utf8
import Derived.Shelf.RegionOpenPlain
import Derived.Lib.OthersKept
import Derived.Laws.Runes
import Derived.Laws.RangeAny
import Derived.Lib.ItoaMem
section
/- Regions whose operations may come in any order: all orders lead to one state. -/
namespace Go.Dn

section
variable {cx : Cx} {E E2 : Env} {off : Nat} {l : List Oper} {R : Type}

def opS (cx : Cx) (rc : Rc) (off : Nat) (l : List Oper) (E : Env) (i : Nat) : Option (Env × List Nat × List Nat) :=
  match l[i]? with
  | none => none
  | some o =>
    match gd E off l o with
    | none => none
    | some true => (opK cx rc E off o some).map fun z => (putE off o.dst z, readsOf cx E off l o, writesOf off o z)
    | some false => some (putE off o.dst (deadZ E), readsOf cx E off l o, writesOf off o (deadZ E))

/-- What is done with the end is apart. -/
def RcNat (rc : Rc) : Prop := ∀ (R : Type) (pl : Plan) (c : Code) (off : Nat) (E : Env) (K : Xt → Env → Option R), rc.run R pl c off E K = (rc.run (Xt × Env) pl c off E (fun x E => some (x, E))).bind fun q => K q.1 q.2

theorem plainK_bind {o : Oper} {K : SU → Option R} : plainK cx E off o K = (plainK cx E off o some).bind K := by
  unfold plainK
  split
  · split
    · exact stepK_bind
    · exact callL_bind
  · unfold globAt
    split
    · rw [cond_bind]; rfl
    · rfl
  · unfold globAll
    split
    · rw [cond_bind]; rfl
    · rfl
  · exact stepK_bind

theorem plainK_loc {o : Oper} {K : SU → Option R} (hl : E.length = E2.length) (h : LocO E E2 off o.op) : plainK cx E2 off o K = plainK cx E off o K := by
  unfold plainK
  split
  · rename_i c hop
    split
    · exact stepK_loc hl h
    · rw [hop] at h
      exact callL_loc hl fun x hx => h x hx
  · rename_i tid g i hop
    rw [hop] at h
    have hi := opd_d (h i (by simp [Op.operands]))
    unfold globAt
    rw [hi.1, rd_r hi.2]
  · rfl
  · exact stepK_loc hl h

theorem inlK_bind {rc : Rc} (hn : RcNat rc) {f : Func} {pl : Plan} {caps : List Al} {xs : List Operand} {K : Zv → Option R} : inlK rc E off f pl caps xs K = (inlK rc E off f pl caps xs some).bind K := by
  unfold inlK
  cases f.body with
  | none => rfl
  | some c =>
    simp only
    rw [hn R]
    rw [hn Zv]
    rw [Option.bind_assoc]
    congr 1
    funext q
    obtain ⟨x, E2⟩ := q
    cases x with
    | exit id => rfl
    | normal =>
      simp only
      cases retI E.length E2 f.results.toList with
      | none => rfl
      | some q =>
        simp only
        rw [cond_bind]
        rfl
    | ret =>
      simp only
      cases retI E.length E2 f.results.toList with
      | none => rfl
      | some q =>
        simp only
        rw [cond_bind]
        rfl

theorem inlK_out {rc : Rc} (hn : RcNat rc) {f : Func} {pl : Plan} {caps : List Al} {xs : List Operand} {z : Zv} (h : inlK rc E off f pl caps xs some = some z) : z.w = List.range E.length ∧ z.e.length = E.length := by
  unfold inlK at h
  cases hb : f.body with
  | none => rw [hb] at h; cases h
  | some c =>
    rw [hb] at h
    simp only at h
    rw [hn Zv, Option.bind_eq_some_iff] at h
    obtain ⟨⟨x, E2⟩, _, h⟩ := h
    have fin : ∀ (s : Slot) (E3 : Env), (bif E.length == ((keepE (List.range E.length) E3).take E.length).length then some (⟨s, (keepE (List.range E.length) E3).take E.length, List.range E.length⟩ : Zv) else none) = some z → z.w = List.range E.length ∧ z.e.length = E.length := by
      intro s E3 h
      cases hc : E.length == ((keepE (List.range E.length) E3).take E.length).length with
      | false => rw [hc] at h; cases h
      | true =>
        rw [hc] at h
        obtain rfl := Option.some.inj h
        exact ⟨rfl, (by simpa using hc : _ = _).symm⟩
    cases x with
    | exit id => cases h
    | normal =>
      simp only at h
      split at h
      · exact fin _ _ h
      · cases h
    | ret =>
      simp only at h
      split at h
      · exact fin _ _ h
      · cases h

theorem opK_bind {rc : Rc} (hn : RcNat rc) {o : Oper} {K : Zv → Option R} : opK cx rc E off o K = (opK cx rc E off o some).bind K := by
  unfold opK
  split
  · exact inlK_bind hn
  · rw [plainK_bind, plainK_bind (K := fun z => some (⟨z.1, appU E z.2, z.2.map U.ix⟩ : Zv)), Option.bind_assoc]
    rfl

def Agr (E E2 : Env) (ks : List Nat) : Prop := ∀ k ∈ ks, E.at k = E2.at k

theorem reads_guard {o : Oper} (h : Agr E E2 (readsOf cx E off l o)) : gd E2 off l o = gd E off l o := by
  unfold gd
  cases hg : o.guard with
  | none => rfl
  | some q =>
    obtain ⟨g, want⟩ := q
    simp only
    cases ht : (l[g]?).bind (·.dst) with
    | none => rfl
    | some t =>
      simp only
      have : E.at (off + t) = E2.at (off + t) := h _ (by
        unfold readsOf guardT
        rw [hg]
        simp only [Option.bind_some]
        rw [ht]
        simp)
      rw [this]

theorem inlOf_loc {o : Oper} (h : LocO E E2 off o.op) : inlOf cx E2 off o = inlOf cx E off o := by
  unfold inlOf
  split
  · rename_i c hop
    split
    · rename_i fo hc
      rw [hop] at h
      have hf := opd_d (h fo (by simp [Op.operands, Call.operands, hc]))
      rw [hf.1]
    · rfl
  · rfl

theorem reads_loc {o : Oper} (hl : E.length = E2.length) (h : Agr E E2 (readsOf cx E off l o)) : LocO E E2 off o.op ∧ readsOf cx E2 off l o = readsOf cx E off l o ∧ (inlOf cx E off o ≠ none → ∀ k, E.at k = E2.at k) := by
  have hR : ∀ k ∈ opR E off o.op, E.at k = E2.at k := fun k hk => h k (by
    unfold readsOf
    exact List.mem_append_right _ (List.mem_append_left _ hk))
  have hloc : LocO E E2 off o.op := by
    generalize o.op = q at hR
    unfold LocO
    split
    · exact hR _ (List.mem_cons_self ..)
    · trivial
    · rename_i hne1 hne2
      intro x hm
      have e : opR E off q = q.operands.toList.flatMap (rdX E off) := by
        unfold opR
        split
        · exact absurd rfl (hne1 _)
        · rename_i y _; exact absurd rfl (hne2 y)
        · rfl
      rw [e] at hR
      cases x with
      | tmp t =>
        have := fun k hk => hR k (List.mem_flatMap.2 ⟨_, hm, hk⟩)
        simp only [rdX, List.mem_cons, forall_eq_or_imp] at this
        exact this
      | _ => trivial
  refine ⟨hloc, ?_, fun hi k => ?_⟩
  · unfold readsOf
    congr 1
    rw [inlOf_loc hloc, hl]
    congr 1
    clear hloc
    generalize o.op = q at hR
    unfold opR at hR ⊢
    split
    · rfl
    · rfl
    · rename_i hne1 hne2
      have hx : ∀ x ∈ q.operands.toList, ∀ k ∈ rdX E off x, E.at k = E2.at k := by
        intro x hx k hk
        refine hR k ?_
        split
        · exact absurd rfl (hne1 _)
        · rename_i y _; exact absurd rfl (hne2 y)
        · exact List.mem_flatMap.2 ⟨x, hx, hk⟩
      have key : ∀ xs : List Operand, (∀ x ∈ xs, x ∈ q.operands.toList) → xs.flatMap (rdX E2 off) = xs.flatMap (rdX E off) := by
        intro xs
        induction xs with
        | nil => intro _; rfl
        | cons x xs ih =>
          intro hs
          simp only [List.flatMap_cons]
          rw [ih fun y hy => hs y (List.mem_cons_of_mem _ hy)]
          congr 1
          have := hx x (hs x (List.mem_cons_self ..))
          cases x with
          | tmp t => simp only [rdX] at this ⊢; rw [this _ (List.mem_cons_self ..)]
          | _ => rfl
      exact key _ fun _ h => h
  · by_cases hk : k < E.length
    · refine h k ?_
      unfold readsOf
      refine List.mem_append_right _ (List.mem_append_right _ ?_)
      cases hq : inlOf cx E off o with
      | none => exact absurd hq hi
      | some q => exact List.mem_range.2 hk
    · unfold Env.at
      rw [List.getD_eq_getElem?_getD, List.getD_eq_getElem?_getD, List.getElem?_eq_none (by omega), List.getElem?_eq_none (by omega)]

theorem env_ext (hl : E.length = E2.length) (h : ∀ k, E.at k = E2.at k) : E = E2 := by
  apply List.ext_getElem hl
  intro i h1 h2
  have := h i
  rwa [at_of (List.getElem?_eq_getElem h1), at_of (List.getElem?_eq_getElem h2)] at this

theorem opK_loc {rc : Rc} (hn : RcNat rc) {o : Oper} {z : Zv} (hl : E.length = E2.length) (h : opK cx rc E off o some = some z) (hr : Agr E E2 (readsOf cx E off l o)) (hw : Agr E E2 z.w) :
    ∃ e12, opK cx rc E2 off o some = some ⟨z.s, e12, z.w⟩ ∧ e12.length = E2.length ∧ z.e.length = E.length ∧ (∀ k ∈ z.w, e12.at k = z.e.at k) ∧ (∀ k, k ∉ z.w → e12.at k = E2.at k ∧ z.e.at k = E.at k) := by
  obtain ⟨h1, h2, h3⟩ := reads_loc hl hr
  unfold opK at h
  split at h
  · rename_i q hq
    have : E = E2 := env_ext hl (h3 (by rw [hq]; simp))
    subst this
    obtain ⟨k1, k2⟩ := inlK_out hn h
    refine ⟨z.e, ?_, k2, k2, fun _ _ => rfl, fun k hk => ?_⟩
    · unfold opK
      rw [hq]
      exact h
    · rw [k1, List.mem_range] at hk
      have : z.e.at k = E.at k := by
        unfold Env.at
        rw [List.getD_eq_getElem?_getD, List.getD_eq_getElem?_getD, List.getElem?_eq_none (by omega), List.getElem?_eq_none (by omega)]
      exact ⟨this, this⟩
  · rename_i hq
    rw [plainK_bind, Option.bind_eq_some_iff] at h
    obtain ⟨su, hsu, h⟩ := h
    obtain rfl := Option.some.inj h
    refine ⟨appU E2 su.2, ?_, appU_len _ _, appU_len _ _, fun k hk => (appU_at hl (hw k hk)).symm, fun k hk => ?_⟩
    · unfold opK
      rw [inlOf_loc h1, hq]
      simp only
      rw [plainK_loc hl h1, plainK_bind, hsu]
      rfl
    · have : ∀ u ∈ su.2, k ≠ u.ix := fun u hu e => hk (List.mem_map.2 ⟨u, hu, e.symm⟩)
      exact ⟨appU_ne this, appU_ne this⟩

theorem putE_len {dst : Option Tmp} {z : Zv} : (putE off dst z).length = z.e.length := by
  cases dst <;> simp [putE, setNew]

theorem putE_ne {o : Oper} {z : Zv} {k : Nat} (h : k ∉ writesOf off o z) : (putE off o.dst z).at k = z.e.at k := by
  unfold writesOf at h
  rw [List.mem_append, not_or] at h
  cases hd : o.dst with
  | none => rfl
  | some d =>
    rw [hd] at h
    simp only [putE, setNew, at_set]
    rw [if_neg (fun q => h.1 (by simp [q.1]))]

theorem putE_eq {dst : Option Tmp} {s : Slot} {e e2 : Env} {w : List Nat} {k : Nat} (hl : e.length = e2.length) (h : e.at k = e2.at k) : (putE off dst ⟨s, e, w⟩).at k = (putE off dst ⟨s, e2, w⟩).at k := by
  cases dst with
  | none => exact h
  | some d =>
    simp only [putE, setNew, at_set, hl]
    split
    · rename_i q
      rw [← q.1, h]
    · exact h

variable {rc : Rc}

theorem opS_loc (hn : RcNat rc) {i : Nat} {E1 : Env} {rr ww : List Nat} (hl : E.length = E2.length) (h : opS cx rc off l E i = some (E1, rr, ww)) (hr : Agr E E2 rr) (hw : Agr E E2 ww) :
    ∃ E21, opS cx rc off l E2 i = some (E21, rr, ww) ∧ E21.length = E2.length ∧ E1.length = E.length ∧ (∀ k ∈ ww, E21.at k = E1.at k) ∧ (∀ k, k ∉ ww → E21.at k = E2.at k ∧ E1.at k = E.at k) := by
  unfold opS at h
  split at h
  · cases h
  · rename_i o ho
    have main : ∀ (z : Zv) (e12 : Env), E1 = putE off o.dst z → rr = readsOf cx E off l o → ww = writesOf off o z → e12.length = E2.length → z.e.length = E.length → (∀ k ∈ ww, e12.at k = z.e.at k) → (∀ k, k ∉ ww → e12.at k = E2.at k ∧ z.e.at k = E.at k) →
        (putE off o.dst ⟨z.s, e12, z.w⟩).length = E2.length ∧ E1.length = E.length ∧ (∀ k ∈ ww, (putE off o.dst ⟨z.s, e12, z.w⟩).at k = E1.at k) ∧ (∀ k, k ∉ ww → (putE off o.dst ⟨z.s, e12, z.w⟩).at k = E2.at k ∧ E1.at k = E.at k) := by
      rintro z e12 rfl rfl rfl g1 g2 g3 g4
      refine ⟨by rw [putE_len]; exact g1, by rw [putE_len]; exact g2, fun k hk => (putE_eq (by omega) (g3 k hk)), fun k hk => ⟨?_, ?_⟩⟩
      · rw [putE_ne (z := ⟨z.s, e12, z.w⟩) hk]; exact (g4 k hk).1
      · rw [putE_ne hk]; exact (g4 k hk).2
    obtain ⟨_, hrd, _⟩ : True ∧ (Agr E E2 (readsOf cx E off l o) → readsOf cx E2 off l o = readsOf cx E off l o) ∧ True := ⟨trivial, fun q => (reads_loc hl q).2.1, trivial⟩
    split at h
    · cases h
    · rename_i hg
      rw [Option.map_eq_some_iff] at h
      obtain ⟨z, hz, he⟩ := h
      simp only [Prod.mk.injEq] at he
      obtain ⟨rfl, rfl, rfl⟩ := he
      have hwz : Agr E E2 z.w := fun k hk => hw k (by unfold writesOf; exact List.mem_append_right _ hk)
      obtain ⟨e12, k1, k2, k3, k4, k5⟩ := opK_loc hn hl hz hr hwz
      refine ⟨putE off o.dst ⟨z.s, e12, z.w⟩, ?_, main z e12 rfl rfl rfl k2 k3 (fun k hk => ?_) (fun k hk => k5 k fun q => hk (by unfold writesOf; exact List.mem_append_right _ q))⟩
      · unfold opS
        rw [ho]
        simp only
        rw [reads_guard hr, hg]
        simp only
        rw [k1, hrd hr]
        rfl
      · by_cases hkz : k ∈ z.w
        · exact k4 k hkz
        · rw [(k5 k hkz).1, (k5 k hkz).2, hw k hk]
    · rename_i hg
      simp only [Option.some.injEq, Prod.mk.injEq] at h
      obtain ⟨rfl, rfl, rfl⟩ := h
      refine ⟨putE off o.dst (deadZ E2), ?_, main (deadZ E) E2 rfl rfl rfl rfl rfl (fun k hk => (hw k hk).symm) (fun k hk => ⟨rfl, rfl⟩)⟩
      unfold opS
      rw [ho]
      simp only
      rw [reads_guard hr, hg, hrd hr]
      rfl

theorem opS_frame (hn : RcNat rc) {i : Nat} {E1 : Env} {rr ww : List Nat} (h : opS cx rc off l E i = some (E1, rr, ww)) : E1.length = E.length ∧ ∀ k, k ∉ ww → E1.at k = E.at k := by
  obtain ⟨E21, h1, h2, h3, h4, h5⟩ := opS_loc hn (E2 := E) rfl h (fun _ _ => rfl) (fun _ _ => rfl)
  exact ⟨h3, fun k hk => (h5 k hk).2⟩

theorem memN_iff : ∀ {l : List Nat} {k : Nat}, memN l k = true ↔ k ∈ l
  | [], k => by simp [memN]
  | j :: l, k => by
    simp only [memN, List.mem_cons]
    cases h : j == k with
    | true => have : j = k := by simpa using h
              simp [this]
    | false =>
      have : ¬ (k = j) := fun e => by simp [e] at h
      simp [this, memN_iff (l := l)]

theorem disjN_iff {a b : List Nat} : disjN a b = true ↔ ∀ k ∈ a, k ∉ b := by
  simp only [disjN, List.all_eq_true, Bool.not_eq_true']
  constructor
  · intro h k hk hb
    have := h k hk
    rw [memN_iff.2 hb] at this
    cases this
  · intro h k hk
    cases hm : memN b k with
    | false => rfl
    | true => exact absurd (memN_iff.1 hm) (h k hk)

def StepF (cx : Cx) (rc : Rc) (off : Nat) (l : List Oper) (E : Env) (f : Ft) (E1 : Env) : Prop := opS cx rc off l E f.i = some (E1, f.r, f.w)

/-- A part is taken out of a tuple. -/
def extS (E : Env) (off t a d : Nat) : Option (Env × List Nat × List Nat) :=
  match (E.at (off + t)).s with
  | .tup q =>
    match q[a]? with
    | some v => bif v.t.isUnit then none else bif owns v.t v.o then some (setNew (U.app E (.cont (off + t) (.tup (q.set a ⟨.unit, .b, ()⟩)))) (off + d) (.val v.t v.o v.x), [off + t], [off + d, off + t]) else some (setNew E (off + d) (.val v.t .b v.x), [off + t], [off + d])
    | none => none
  | _ => none

theorem opS_ext {i t a d : Nat} {o : Oper} (ho : l[i]? = some o) (hx : extOf o = some (t, a, d)) : opS cx rc off l E i = extS E off t a d := by
  unfold extOf at hx
  split at hx
  · rename_i t' a' d' h1 h2 h3
    simp only [Option.some.injEq, Prod.mk.injEq] at hx
    obtain ⟨rfl, rfl, rfl⟩ := hx
    have hg : gd E off l o = some true := by unfold gd; rw [h3]
    have hin : inlOf cx E off o = none := by unfold inlOf; rw [h1]
    have hp : ∀ {R : Type} (K : SU → Option R), plainK cx E off o K = stepK cx E off o K := fun K => by unfold plainK; rw [h1]
    have hr : ∀ q, (E.at (off + t')).s = .tup q → readsOf cx E off l o = [off + t'] := fun q hq => by
      unfold readsOf guardT opR
      rw [h3, hin, h1]
      simp [Op.operands, rdX, hq, rootsOf]
    unfold opS
    rw [ho]
    simp only [hg]
    unfold opK
    rw [hin]
    simp only [hp]
    unfold stepK extS
    rw [h1]
    simp only [opd]
    cases hq : (E.at (off + t')).s with
    | tup q =>
      simp only
      cases hv : q[a']? with
      | none => rfl
      | some v =>
        simp only
        cases v.t.isUnit
        · rw [cond_false, cond_false]
          cases owns v.t v.o
          · rw [cond_false, cond_false, Option.map_some, hr q hq]
            simp [writesOf, putE, appU, h2]
          · rw [cond_true, cond_true, Option.map_some, hr q hq]
            simp [writesOf, putE, appU, h2, U.ix]
        · rfl
    | _ => rfl
  · cases hx

theorem at_app_cont (E : Env) (k j : Nat) (s : Slot) : (U.app E (.cont k s)).at j = if j = k ∧ k < E.length then ⟨(E.at k).iv, (E.at k).cv + 1, s⟩ else E.at j := at_set E k j _
theorem at_setN (E : Env) (k j : Nat) (s : Slot) : (setNew E k s).at j = if j = k ∧ k < E.length then ⟨(E.at k).iv + 1, 0, s⟩ else E.at j := at_set E k j _
theorem len_setN (E : Env) (k : Nat) (s : Slot) : (setNew E k s).length = E.length := by unfold setNew; simp
theorem len_cont (E : Env) (k : Nat) (s : Slot) : (U.app E (.cont k s)).length = E.length := by simp [U.app]
theorem tup_lt {E : Env} {k : Nat} {q : List TV} (h : (E.at k).s = .tup q) : k < E.length := by
  by_cases hk : k < E.length
  · exact hk
  · unfold Env.at at h
    rw [List.getD_eq_getElem?_getD, List.getElem?_eq_none (by omega)] at h
    cases h

theorem ext_swap {off t a d b d' : Nat} {E E1 E3 : Env} {r1 w1 r2 w2 : List Nat} (hab : a ≠ b) (hd : d ≠ d') (h1 : d ≠ t) (h2 : d' ≠ t) (hj : extS E off t a d = some (E1, r1, w1)) (hf : extS E1 off t b d' = some (E3, r2, w2)) :
    ∃ E1', extS E off t b d' = some (E1', r2, w2) ∧ extS E1' off t a d = some (E3, r1, w1) := by
  unfold extS at hj
  split at hj
  · rename_i q hq
    have hlt := tup_lt hq
    split at hj
    · rename_i v hv
      cases hu : v.t.isUnit with
      | true => rw [hu] at hj; cases hj
      | false =>
        rw [hu, cond_false] at hj
        cases ho : owns v.t v.o with
        | false =>
          rw [ho, cond_false] at hj
          simp only [Option.some.injEq, Prod.mk.injEq] at hj
          obtain ⟨rfl, rfl, rfl⟩ := hj
          have hq1 : ((setNew E (off + d) (.val v.t .b v.x)).at (off + t)).s = .tup q := by rw [at_setN, if_neg (by omega)]; exact hq
          unfold extS at hf
          rw [hq1] at hf
          simp only at hf
          split at hf
          · rename_i v2 hv2
            cases hu2 : v2.t.isUnit with
            | true => rw [hu2] at hf; cases hf
            | false =>
              rw [hu2, cond_false] at hf
              cases ho2 : owns v2.t v2.o with
              | false =>
                rw [ho2, cond_false] at hf
                simp only [Option.some.injEq, Prod.mk.injEq] at hf
                obtain ⟨rfl, rfl, rfl⟩ := hf
                refine ⟨setNew E (off + d') (.val v2.t .b v2.x), ?_, ?_⟩
                · unfold extS; rw [hq]; simp only [hv2, hu2, cond_false, ho2]
                · unfold extS
                  rw [at_setN, if_neg (by omega), hq]
                  simp only [hv, hu, cond_false, ho, Option.some.injEq, Prod.mk.injEq, and_true]
                  refine env_ext (by simp only [len_setN]) fun k => ?_
                  simp only [at_setN, len_setN]
                  by_cases e1 : k = off + d
                  · subst e1; simp [show ¬ (d = d') from hd]
                  · by_cases e2 : k = off + d'
                    · subst e2; simp [show ¬ (d' = d) from fun h => hd h.symm]
                    · simp [e1, e2]
              | true =>
                rw [ho2, cond_true] at hf
                simp only [Option.some.injEq, Prod.mk.injEq] at hf
                obtain ⟨rfl, rfl, rfl⟩ := hf
                refine ⟨setNew (U.app E (.cont (off + t) (.tup (q.set b ⟨.unit, .b, ()⟩)))) (off + d') (.val v2.t v2.o v2.x), ?_, ?_⟩
                · unfold extS; rw [hq]; simp only [hv2, hu2, cond_false, ho2, cond_true]
                · unfold extS
                  rw [at_setN, if_neg (by omega), at_app_cont, if_pos ⟨rfl, hlt⟩]
                  simp only [List.getElem?_set_ne (Ne.symm hab), hv, hu, cond_false, ho, Option.some.injEq, Prod.mk.injEq, and_true]
                  refine env_ext (by simp only [len_setN, len_cont]) fun k => ?_
                  simp only [at_setN, len_setN, at_app_cont, len_cont]
                  by_cases e0 : k = off + t
                  · subst e0; simp [show ¬ (t = d) from Ne.symm h1, show ¬ (t = d') from Ne.symm h2, hlt]
                  · by_cases e1 : k = off + d
                    · subst e1; simp [show ¬ (d = d') from hd, h1]
                    · by_cases e2 : k = off + d'
                      · subst e2; simp [show ¬ (d' = d) from fun h => hd h.symm, h2]
                      · simp [e0, e1, e2]
          · cases hf
        | true =>
          rw [ho, cond_true] at hj
          simp only [Option.some.injEq, Prod.mk.injEq] at hj
          obtain ⟨rfl, rfl, rfl⟩ := hj
          have hq1 : ((setNew (U.app E (.cont (off + t) (.tup (q.set a ⟨.unit, .b, ()⟩)))) (off + d) (.val v.t v.o v.x)).at (off + t)).s = .tup (q.set a ⟨.unit, .b, ()⟩) := by
            rw [at_setN, if_neg (by omega), at_app_cont, if_pos ⟨rfl, hlt⟩]
          unfold extS at hf
          rw [hq1] at hf
          simp only [List.getElem?_set_ne hab] at hf
          split at hf
          · rename_i v2 hv2
            cases hu2 : v2.t.isUnit with
            | true => rw [hu2] at hf; cases hf
            | false =>
              rw [hu2, cond_false] at hf
              cases ho2 : owns v2.t v2.o with
              | false =>
                rw [ho2, cond_false] at hf
                simp only [Option.some.injEq, Prod.mk.injEq] at hf
                obtain ⟨rfl, rfl, rfl⟩ := hf
                refine ⟨setNew E (off + d') (.val v2.t .b v2.x), ?_, ?_⟩
                · unfold extS; rw [hq]; simp only [hv2, hu2, cond_false, ho2]
                · unfold extS
                  rw [at_setN, if_neg (by omega), hq]
                  simp only [hv, hu, cond_false, ho, cond_true, Option.some.injEq, Prod.mk.injEq, and_true]
                  refine env_ext (by simp only [len_setN, len_cont]) fun k => ?_
                  simp only [at_setN, len_setN, at_app_cont, len_cont]
                  by_cases e0 : k = off + t
                  · subst e0; simp [show ¬ (t = d) from Ne.symm h1, show ¬ (t = d') from Ne.symm h2, hlt]
                  · by_cases e1 : k = off + d
                    · subst e1; simp [show ¬ (d = d') from hd, h1]
                    · by_cases e2 : k = off + d'
                      · subst e2; simp [show ¬ (d' = d) from fun h => hd h.symm, h2]
                      · simp [e0, e1, e2]
              | true =>
                rw [ho2, cond_true] at hf
                simp only [Option.some.injEq, Prod.mk.injEq] at hf
                obtain ⟨rfl, rfl, rfl⟩ := hf
                refine ⟨setNew (U.app E (.cont (off + t) (.tup (q.set b ⟨.unit, .b, ()⟩)))) (off + d') (.val v2.t v2.o v2.x), ?_, ?_⟩
                · unfold extS; rw [hq]; simp only [hv2, hu2, cond_false, ho2, cond_true]
                · unfold extS
                  rw [at_setN, if_neg (by omega), at_app_cont, if_pos ⟨rfl, hlt⟩]
                  simp only [List.getElem?_set_ne (Ne.symm hab), hv, hu, cond_false, ho, cond_true, Option.some.injEq, Prod.mk.injEq, and_true]
                  refine env_ext (by simp only [len_setN, len_cont]) fun k => ?_
                  simp only [at_setN, len_setN, at_app_cont, len_cont]
                  by_cases e0 : k = off + t
                  · subst e0; simp [show ¬ (t = d) from Ne.symm h1, show ¬ (t = d') from Ne.symm h2, hlt, List.set_comm _ _ hab]
                  · by_cases e1 : k = off + d
                    · subst e1; simp [show ¬ (d = d') from hd, h1]
                    · by_cases e2 : k = off + d'
                      · subst e2; simp [show ¬ (d' = d) from fun h => hd h.symm, h2]
                      · simp [e0, e1, e2]
          · cases hf
    · cases hj
  · cases hj

theorem swap_ext {j f : Ft} {E1 E3 : Env} (hj : StepF cx rc off l E j E1) (hf : StepF cx rc off l E1 f E3) (hi : swapX l j.i f.i = true) :
    ∃ E1', StepF cx rc off l E f E1' ∧ StepF cx rc off l E1' j E3 := by
  unfold swapX at hi
  split at hi
  · rename_i t a d t' b d' hx hy
    simp only [Bool.and_eq_true, beq_iff_eq, bne_iff_ne] at hi
    obtain ⟨rfl, hab, hdd, h1, h2⟩ := hi
    obtain ⟨o, ho, hxo⟩ := Option.bind_eq_some_iff.1 hx
    obtain ⟨p, hp, hyp⟩ := Option.bind_eq_some_iff.1 hy
    unfold StepF at hj hf ⊢
    rw [opS_ext ho hxo] at hj
    rw [opS_ext hp hyp] at hf
    obtain ⟨E1', g1, g2⟩ := ext_swap hab hdd h1 h2 hj hf
    exact ⟨E1', by rw [opS_ext hp hyp]; exact g1, by rw [opS_ext ho hxo]; exact g2⟩
  · cases hi

theorem swap_steps (hn : RcNat rc) {j f : Ft} {E1 E3 : Env} (hj : StepF cx rc off l E j E1) (hf : StepF cx rc off l E1 f E3) (hi : indep l j f = true) :
    ∃ E1', StepF cx rc off l E f E1' ∧ StepF cx rc off l E1' j E3 := by
  unfold indep at hi
  rw [Bool.or_eq_true] at hi
  rcases hi with hi | hi
  case inr => exact swap_ext hj hf hi
  simp only [Bool.and_eq_true, disjN_iff] at hi
  obtain ⟨i1, i2, i3⟩ := hi
  obtain ⟨lj, fj⟩ := opS_frame hn hj
  obtain ⟨lf, ff⟩ := opS_frame hn hf
  have a1 : Agr E1 E f.r := fun k hk => fj k fun hw => i1 k hw hk
  have a2 : Agr E1 E f.w := fun k hk => fj k fun hw => i2 k hw hk
  obtain ⟨E1', g1, g2, g3, g4, g5⟩ := opS_loc hn lj hf a1 a2
  have b1 : Agr E E1' j.r := fun k hk => ((g5 k fun hw => i3 k hw hk).1).symm
  have b2 : Agr E E1' j.w := fun k hk => ((g5 k fun hw => i2 k hk hw).1).symm
  obtain ⟨E3', k1, k2, k3, k4, k5⟩ := opS_loc hn g2.symm hj b1 b2
  have : E3' = E3 := by
    refine env_ext (by omega) fun k => ?_
    by_cases hk : k ∈ j.w
    · rw [k4 k hk, ff k (i2 k hk)]
    · rw [(k5 k hk).1]
      by_cases hk2 : k ∈ f.w
      · rw [g4 k hk2]
      · rw [(g5 k hk2).1, ff k hk2, fj k hk]
  exact ⟨E1', g1, by rw [← this]; exact k1⟩

def Run (cx : Cx) (rc : Rc) (off : Nat) (l : List Oper) : Env → List Ft → Env → Prop
  | E, [], E' => E = E'
  | E, f :: fs, E' => ∃ E1, StepF cx rc off l E f E1 ∧ Run cx rc off l E1 fs E'

theorem bubble (hn : RcNat rc) : ∀ {js : List Ft} {E E' : Env} {f : Ft} {ks : List Ft}, (∀ j ∈ js, indep l j f = true) → Run cx rc off l E (js ++ f :: ks) E' → Run cx rc off l E (f :: (js ++ ks)) E'
  | [], _, _, _, _, _, h => h
  | j :: js, E, E', f, ks, hi, h => by
    obtain ⟨E1, h1, h2⟩ := h
    obtain ⟨E2, h3, h4⟩ := bubble hn (js := js) (fun j hj => hi j (List.mem_cons_of_mem _ hj)) h2
    obtain ⟨E1', h5, h6⟩ := swap_steps hn h1 h3 (hi j (List.mem_cons_self ..))
    exact ⟨E1', h5, E2, h6, h4⟩

/-! ### what the check gives -/
def AncOk (l : List Oper) : List Ft → Prop
  | [] => True
  | f :: fs => (∀ p, f.anc.testBit p = true → ∃ o e, l[f.i]? = some o ∧ e ∈ o.after.toList ∧ Region.binds .any e = true ∧ (p = e.on ∨ ∃ g ∈ fs, g.i = e.on ∧ g.anc.testBit p = true)) ∧ AncOk l fs

theorem ancAt_mem : ∀ {fs : List Ft} {i p : Nat}, (ancAt fs i).testBit p = true → ∃ g ∈ fs, g.i = i ∧ g.anc.testBit p = true
  | [], _, _, h => by simp [ancAt] at h
  | f :: fs, i, p, h => by
    simp only [ancAt] at h
    cases hq : f.i == i with
    | true => rw [hq] at h; exact ⟨f, List.mem_cons_self .., by simpa using hq, h⟩
    | false =>
      rw [hq] at h
      obtain ⟨g, h1, h2⟩ := ancAt_mem (fs := fs) h
      exact ⟨g, List.mem_cons_of_mem _ h1, h2⟩

theorem ancL_mem {fs : List Ft} : ∀ {es : List Edge} {p : Nat}, (ancL fs es).testBit p = true → ∃ e ∈ es, Region.binds .any e = true ∧ (p = e.on ∨ ∃ g ∈ fs, g.i = e.on ∧ g.anc.testBit p = true)
  | [], p, h => by simp [ancL] at h
  | e :: es, p, h => by
    simp only [ancL] at h
    cases hb : Region.binds .any e with
    | false =>
      rw [hb] at h
      obtain ⟨e', h1, h2⟩ := ancL_mem (es := es) h
      exact ⟨e', List.mem_cons_of_mem _ h1, h2⟩
    | true =>
      rw [hb] at h
      simp only [cond_true, Nat.testBit_or, Bool.or_eq_true] at h
      rcases h with (h | h) | h
      · rw [Nat.testBit_two_pow] at h
        exact ⟨e, List.mem_cons_self .., hb, .inl (by have := of_decide_eq_true h; exact this.symm)⟩
      · exact ⟨e, List.mem_cons_self .., hb, .inr (ancAt_mem h)⟩
      · obtain ⟨e', h1, h2⟩ := ancL_mem (es := es) h
        exact ⟨e', List.mem_cons_of_mem _ h1, h2⟩

def Apart (l : List Oper) (g f : Ft) : Prop := indep l g f = true ∨ f.anc.testBit g.i = true

theorem okD_pair : ∀ {fs : List Ft}, okD l fs = true → fs.Pairwise (fun f g => Apart l g f)
  | [], _ => List.Pairwise.nil
  | f :: fs, h => by
    simp only [okD, Bool.and_eq_true, List.all_eq_true, Bool.or_eq_true] at h
    exact List.Pairwise.cons (fun g hg => h.1 g hg) (okD_pair h.2)

theorem opsD_run (hn : RcNat rc) {K : Env → Option R} {r : R} : ∀ (os : List Oper) (i : Nat) (E : Env) (fs : List Ft), l.drop i = os → AncOk l fs → opsD cx rc off l os i E fs K = some r →
    ∃ gs E', Run cx rc off l E gs E' ∧ K E' = some r ∧ okD l (gs.reverse ++ fs) = true ∧ AncOk l (gs.reverse ++ fs) ∧ gs.map (·.i) = List.range' i os.length
  | [], i, E, fs, _, ha, h => by
    simp only [opsD] at h
    cases hk : okD l fs <;> rw [hk] at h
    · cases h
    · exact ⟨[], E, rfl, h, hk, ha, rfl⟩
  | o :: os, i, E, fs, hd, ha, h => by
    have hi : l[i]? = some o := by
      have := congrArg (fun l => l[0]?) hd
      simpa using this
    have hd' : l.drop (i + 1) = os := by rw [← List.tail_drop, hd]; rfl
    simp only [opsD] at h
    rw [guardK_eq] at h
    have hanc : ∀ rr ww, AncOk l (⟨i, rr, ww, ancL fs o.after.toList⟩ :: fs) := fun rr ww => ⟨fun p hp => by
      obtain ⟨e, h1, h2⟩ := ancL_mem hp
      exact ⟨o, e, hi, h1, h2⟩, ha⟩
    have fin : ∀ (f : Ft) (E1 : Env), f.i = i → StepF cx rc off l E f E1 → AncOk l (f :: fs) → opsD cx rc off l os (i + 1) E1 (f :: fs) K = some r →
        ∃ gs E', Run cx rc off l E gs E' ∧ K E' = some r ∧ okD l (gs.reverse ++ fs) = true ∧ AncOk l (gs.reverse ++ fs) ∧ gs.map (·.i) = List.range' i (o :: os).length := by
      intro f E1 hfi hs ha' h'
      obtain ⟨gs, E', k1, k2, k3, k4, k5⟩ := opsD_run hn os (i + 1) E1 (f :: fs) hd' ha' h'
      refine ⟨f :: gs, E', ⟨E1, hs, k1⟩, k2, ?_, ?_, ?_⟩
      · simpa using k3
      · simpa using k4
      · simp [hfi, k5, List.range'_succ]
    cases hg : gd E off l o with
    | none => rw [hg] at h; cases h
    | some b =>
      rw [hg] at h
      cases b with
      | true =>
        simp only at h
        rw [opK_bind hn, Option.bind_eq_some_iff] at h
        obtain ⟨z, hz, h⟩ := h
        refine fin _ _ rfl ?_ (hanc _ _) h
        unfold StepF opS
        rw [hi]
        simp only
        rw [hg]
        simp only
        rw [hz]; rfl
      | false =>
        simp only at h
        refine fin _ _ rfl ?_ (hanc _ _) h
        unfold StepF opS
        rw [hi]
        simp only
        rw [hg]

theorem backE_ok : ∀ {os : List Oper} {i j : Nat} {o : Oper}, backE os i = true → os[j]? = some o → ∀ e ∈ o.after.toList, Region.binds .any e = true → e.on < i + j
  | [], _, _, _, _, h => by simp at h
  | o :: os, i, j, o', hb, h => by
    simp only [backE, Bool.and_eq_true, List.all_eq_true] at hb
    cases j with
    | zero =>
      simp only [List.getElem?_cons_zero, Option.some.injEq] at h
      subst h
      intro e he hbd
      have := hb.1 e he
      rw [hbd] at this
      simpa using this
    | succ j =>
      simp only [List.getElem?_cons_succ] at h
      intro e he hbd
      have := backE_ok hb.2 h e he hbd
      omega

def Edges (ops : Array Oper) (listed : Array Bool) (i : Nat) : Prop := ∀ o, ops[i]? = some o → ∀ e ∈ o.after.toList, Region.binds .any e = true → listed.getD e.on false = true

theorem anc_listed {ops : Array Oper} {listed : Array Bool} (hc : ∀ i, listed.getD i false = true → Edges ops listed i) : ∀ {fs : List Ft}, AncOk ops.toList fs → ∀ f ∈ fs, Edges ops listed f.i → ∀ p, f.anc.testBit p = true → listed.getD p false = true
  | [], _, _, hf, _, _, _ => by cases hf
  | g :: fs, ha, f, hf, he, p, hp => by
    obtain ⟨h1, h2⟩ := ha
    cases hf with
    | tail _ hf => exact anc_listed hc h2 f hf he p hp
    | head =>
      obtain ⟨o, e, k1, k2, k3, k4⟩ := h1 p hp
      rw [Array.getElem?_toList] at k1
      have := he o k1 e k2 k3
      rcases k4 with rfl | ⟨g2, m1, m2, m3⟩
      · exact this
      · exact anc_listed hc h2 g2 m1 (by rw [m2]; exact hc _ this) p m3

section
variable {w0 : World} {Pr0 M : Nat → Prop} {outer : List Value} {ds : List Deferred} {P : Program}

theorem stepF_ok (hok : Ok P cx rc w0 Pr0 M) {ops : Array Oper} {Q : Exit → Act → World → Prop} {f : Ft} {E1 : Env} {a : Act} {w : World} {K : Act → World → Prop}
    (hs : StepF cx rc outer.length ops.toList E f E1) (hx : Sx w0 Pr0 M outer ds E a w) (hK : ∀ a w, Sx w0 Pr0 M outer ds E1 a w → K a w) : wpOp P ops Q f.i K a w := by
  unfold StepF opS at hs
  rw [Array.getElem?_toList] at hs
  unfold wpOp
  split at hs
  · cases hs
  · rename_i o ho
    rw [ho]
    simp only
    split at hs
    · cases hs
    · rename_i hg
      rw [gd_ok hx hg]
      rw [Option.map_eq_some_iff] at hs
      obtain ⟨z, hz, he⟩ := hs
      simp only [Prod.mk.injEq] at he
      refine .inl (opK_ok hok hx hz _ _ fun z' a' w' h1 hx' => hK a' w' ?_)
      obtain rfl := Option.some.inj h1
      rw [← he.1]; exact hx'
    · rename_i hg
      rw [gd_ok hx hg]
      simp only [Option.some.injEq, Prod.mk.injEq] at hs
      exact hK _ _ (by rw [← hs.1]; exact skip_put o.dst hx)

theorem pair_mid {α : Type} {S : α → α → Prop} {js ks : List α} {f : α} (h : (js ++ f :: ks).Pairwise S) : (∀ j ∈ js, S j f) ∧ (js ++ ks).Pairwise S ∧ ∀ k ∈ ks, S f k := by
  rw [List.pairwise_append] at h
  obtain ⟨h1, h2, h3⟩ := h
  rw [List.pairwise_cons] at h2
  refine ⟨fun j hj => h3 j hj f (List.mem_cons_self ..), ?_, h2.1⟩
  rw [List.pairwise_append]
  exact ⟨h1, h2.2, fun x hx y hy => h3 x hx y (List.mem_cons_of_mem _ hy)⟩

theorem anyD (hok : Ok P cx rc w0 Pr0 M) (hn : RcNat rc) {ops : Array Oper} {Q : Exit → Act → World → Prop} {E' : Env} (hQ : ∀ a w, Sx w0 Pr0 M outer ds E' a w → Q .normal a w)
    (hback : backE ops.toList 0 = true) {g0 : List Ft} (hanc : AncOk ops.toList g0) :
    ∀ (fuel : Nat) (gs : List Ft) (listed : Array Bool) (E : Env) (a : Act) (w : World), gs.length ≤ fuel → Run cx rc outer.length ops.toList E gs E' → gs.Pairwise (Apart ops.toList) → gs.Pairwise (fun g f => g.i < f.i) → (∀ f ∈ gs, f ∈ g0) →
      (∀ i, (∃ f ∈ gs, f.i = i) ↔ i < ops.size ∧ listed.getD i true = false) → listed.size = ops.size → (∀ i, listed.getD i false = true → Edges ops listed i) → Sx w0 Pr0 M outer ds E a w → wpAny P .any ops Q fuel listed a w := by
  have rdy : ∀ (listed : Array Bool) (i : Nat), i ∈ Region.ready .any ops listed → (i < ops.size ∧ listed.getD i true = false) ∧ Edges ops listed i := by
    intro listed i hi
    obtain ⟨h0, o, ho, hall⟩ := mem_ready.1 hi
    refine ⟨⟨(Array.getElem?_eq_some_iff.1 ho).1, h0⟩, fun o' ho' e he hb => ?_⟩
    rw [ho] at ho'
    obtain rfl := Option.some.inj ho'
    exact hall e (by simpa using he) hb
  have done : ∀ (gs : List Ft) (listed : Array Bool) (E : Env) (a : Act) (w : World), Region.ready .any ops listed = [] → Run cx rc outer.length ops.toList E gs E' → gs.Pairwise (fun g f => g.i < f.i) →
      (∀ i, (∃ f ∈ gs, f.i = i) ↔ i < ops.size ∧ listed.getD i true = false) → listed.size = ops.size → Sx w0 Pr0 M outer ds E a w → Q .normal a w := by
    intro gs listed E a w hr hrun hsort hiff hsz hx
    cases gs with
    | nil => obtain rfl := hrun; exact hQ a w hx
    | cons g gs =>
      exfalso
      obtain ⟨hlt, hun⟩ := (hiff g.i).1 ⟨g, List.mem_cons_self .., rfl⟩
      have : g.i ∈ Region.ready .any ops listed := by
        refine mem_ready.2 ⟨hun, ops[g.i], Array.getElem?_eq_getElem hlt, fun e he hb => ?_⟩
        have hon := backE_ok hback (j := g.i) (o := ops[g.i]) (by rw [Array.getElem?_toList]; exact Array.getElem?_eq_getElem hlt) e (by simpa using he) hb
        have hon' : e.on < ops.size := by omega
        have hnot : ¬ (listed.getD e.on true = false) := fun q => by
          obtain ⟨f, hf, hfi⟩ := (hiff e.on).2 ⟨hon', q⟩
          cases hf with
          | head => omega
          | tail _ hf => have := (List.pairwise_cons.1 hsort).1 f hf; omega
        have hl : e.on < listed.size := by omega
        simp only [Array.getD_eq_getD_getElem?, Array.getElem?_eq_getElem hl, Option.getD_some] at hnot ⊢
        simpa using hnot
      rw [hr] at this
      cases this
  intro fuel
  induction fuel with
  | zero =>
    intro gs listed E a w hlen hrun hap hsort hmem hiff hsz hcl hx
    have : gs = [] := List.length_eq_zero_iff.1 (by omega)
    subst this
    have hr : Region.ready .any ops listed = [] := by
      cases h : Region.ready .any ops listed with
      | nil => rfl
      | cons i is =>
        obtain ⟨f, hf, _⟩ := (hiff i).2 (rdy listed i (by rw [h]; exact List.mem_cons_self ..)).1
        cases hf
    exact ⟨hr, done [] listed E a w hr hrun hsort hiff hsz hx⟩
  | succ fuel ih =>
    intro gs listed E a w hlen hrun hap hsort hmem hiff hsz hcl hx
    refine ⟨fun hr => done gs listed E a w hr hrun hsort hiff hsz hx, fun i hi => ?_⟩
    obtain ⟨hun, hed⟩ := rdy listed i hi
    obtain ⟨f, hf, rfl⟩ := (hiff i).2 hun
    obtain ⟨js, ks, rfl⟩ := List.append_of_mem hf
    obtain ⟨p1, p2, p3⟩ := pair_mid hap
    obtain ⟨s1, s2, s3⟩ := pair_mid hsort
    have hind : ∀ j ∈ js, indep ops.toList j f = true := fun j hj => by
      rcases p1 j hj with h | h
      · exact h
      · exfalso
        have hl := anc_listed hcl hanc f (hmem f hf) hed j.i h
        have hu := ((hiff j.i).1 ⟨j, List.mem_append_left _ hj, rfl⟩).2
        rcases Nat.lt_or_ge j.i listed.size with h' | h'
        · simp only [Array.getD_eq_getD_getElem?, Array.getElem?_eq_getElem h', Option.getD_some] at hl hu
          rw [hl] at hu; cases hu
        · simp [Array.getElem?_eq_none h'] at hl
    obtain ⟨E1, h1, h2⟩ := bubble hn hind hrun
    refine stepF_ok hok h1 hx fun a' w' hx' => ?_
    refine ih (js ++ ks) (listed.setIfInBounds f.i true) E1 a' w' (by simp at hlen ⊢; omega) h2 p2 s2 (fun g hg => hmem g ?_) (fun k => ?_) (by simp [hsz]) (fun k hk => ?_) hx'
    · rcases List.mem_append.1 hg with hg | hg
      · exact List.mem_append_left _ hg
      · exact List.mem_append_right _ (List.mem_cons_of_mem _ hg)
    · have hsplit : (∃ g ∈ js ++ f :: ks, g.i = k) ↔ ((∃ g ∈ js ++ ks, g.i = k) ∨ f.i = k) := by
        constructor
        · rintro ⟨g, hg, rfl⟩
          rcases List.mem_append.1 hg with hg | hg
          · exact .inl ⟨g, List.mem_append_left _ hg, rfl⟩
          · cases hg with
            | head => exact .inr rfl
            | tail _ hg => exact .inl ⟨g, List.mem_append_right _ hg, rfl⟩
        · rintro (⟨g, hg, rfl⟩ | rfl)
          · refine ⟨g, ?_, rfl⟩
            rcases List.mem_append.1 hg with hg | hg
            · exact List.mem_append_left _ hg
            · exact List.mem_append_right _ (List.mem_cons_of_mem _ hg)
          · exact ⟨f, hf, rfl⟩
      have hne : ∀ g ∈ js ++ ks, g.i ≠ f.i := fun g hg => by
        rcases List.mem_append.1 hg with hg | hg
        · have := s1 g hg; omega
        · have := s3 g hg; omega
      by_cases hk : f.i = k
      · constructor
        · rintro ⟨g, hg, he⟩; exact absurd (he.trans hk.symm) (hne g hg)
        · rintro ⟨h3, h4⟩
          have hlt : k < listed.size := by omega
          rw [hk] at h4
          simp [hlt] at h4
      · rw [getD_set_ne true hk]
        have := hiff k
        rw [hsplit] at this
        simp only [hk, or_false] at this
        exact this
    · intro o ho e he hb
      by_cases hk2 : f.i = k
      · exact getD_set_true (hed o (by rw [hk2]; exact ho) e he hb)
      · rw [getD_set_ne false hk2] at hk
        exact getD_set_true (hcl k hk o ho e he hb)

/-- A region. -/
theorem regionK_ok (hok : Ok P cx rc w0 Pr0 M) (hn : RcNat rc) {ops : Array Oper} {draw : Bool} {id : Nat} {Q : Exit → Act → World → Prop} {K : Env → Option R} {r : R} {a : Act} {w : World}
    (hs : regionK cx rc outer.length ops draw E K = some r) (hx : Sx w0 Pr0 M outer ds E a w) (hK : ∀ E a w, K E = some r → Sx w0 Pr0 M outer ds E a w → Q .normal a w) : (Code.region id ops draw).wp P Q a w := by
  cases draw with
  | false =>
    simp only [regionK] at hs
    refine wp_region ?_
    rw [List.range_eq_range', show ops.size = ops.toList.length from Array.length_toList.symm]
    exact opsK_ok hok hK ops.toList 0 E a w rfl hs hx
  | true =>
    simp only [regionK] at hs
    cases hb : backE ops.toList 0 with
    | false => rw [hb] at hs; cases hs
    | true =>
      rw [hb] at hs
      simp only [cond_true] at hs
      obtain ⟨gs, E', h1, h2, h3, h4, h5⟩ := opsD_run hn ops.toList 0 E [] rfl trivial hs
      rw [List.append_nil] at h3 h4
      refine wp_region_any hok.mix ?_
      have hx' : Sx w0 Pr0 M outer ds E a { w with drawn := w.drawn + 1 } := by
        obtain ⟨⟨Pr, B, hst, hN⟩, hds⟩ := hx
        exact ⟨⟨Pr, B, hst.hand (fun _ _ => rfl) (fun k hk b hb => by rw [hN k hk] at hb; cases hb) (fun _ h => h) (fun _ h => .inl h) (fun k hk => by rw [hN k hk]; exact List.nodup_nil)
          (fun j k hj _ _ b hb => by rw [hN j hj] at hb; cases hb) (fun _ _ _ => rfl) rfl rfl rfl (Nat.le_refl _), hN⟩, hds⟩
      have hlen : gs.length = ops.size := by
        have := congrArg List.length h5
        simpa using this
      have hmap : ∀ i, (∃ f ∈ gs, f.i = i) ↔ i < ops.size := fun i => by
        have : i ∈ gs.map (·.i) ↔ i ∈ List.range' 0 ops.toList.length := by rw [h5]
        simpa using this
      refine anyD hok hn (fun a w hx => hK E' a w h2 hx) hb h4 ops.size gs (Array.replicate ops.size false) E a _ (by omega) h1 ?_ ?_ (fun f hf => by simpa using hf) (fun i => ?_) (by simp) (fun i hi => ?_) hx'
      · have := okD_pair h3
        rw [List.pairwise_reverse] at this
        exact this
      · have : (gs.map (·.i)).Pairwise (· < ·) := by rw [h5]; exact List.pairwise_lt_range'
        rw [List.pairwise_map] at this
        exact this
      · rw [hmap]
        constructor
        · intro h; exact ⟨h, by simp [h]⟩
        · exact fun h => h.1
      · exfalso
        rcases Nat.lt_or_ge i ops.size with h' | h'
        · simp [h'] at hi
        · simp [h'] at hi

end
end
end Go.Dn
end

section
/- Code on pure values, and that it tells what the machine does. -/
namespace Go.Dn

set_option linter.constructorNameAsVariable false
def owEq : Ow → Ow → Bool
  | .b, .b => true
  | .row a, .row b => owEq a b
  | .pr a b, .pr c d => owEq a c && owEq b d
  | _, _ => false

theorem owEq_ok : ∀ {a b : Ow}, owEq a b = true → a = b
  | .b, .b, _ => rfl
  | .row a, .row b, h => by rw [owEq_ok (a := a) (b := b) h]
  | .pr a b, .pr c d, h => by
    simp only [owEq, Bool.and_eq_true] at h
    rw [owEq_ok h.1, owEq_ok h.2]
  | .b, .row _, h | .b, .pr _ _, h | .row _, .b, h | .row _, .pr _ _, h | .pr _ _, .b, h | .pr _ _, .row _, h => by cases h

theorem samePath_ok : ∀ {p q : List PE}, samePath p q = true → p = q
  | [], [], _ => rfl
  | .l :: p, .l :: q, h => by rw [samePath_ok (p := p) (q := q) h]
  | .r :: p, .r :: q, h => by rw [samePath_ok (p := p) (q := q) h]
  | .ix n :: p, .ix m :: q, h => by
    simp only [samePath, Bool.and_eq_true, beq_iff_eq] at h
    rw [h.1, samePath_ok h.2]
  | [], _ :: _, h => by simp [samePath] at h
  | .l :: _, [], h | .r :: _, [], h | .ix _ :: _, [], h => by simp [samePath] at h
  | .l :: _, .r :: _, h | .l :: _, .ix _ :: _, h | .r :: _, .l :: _, h | .r :: _, .ix _ :: _, h | .ix _ :: _, .l :: _, h | .ix _ :: _, .r :: _, h => by simp [samePath] at h

def alEq (a b : Al) : Bool := (a.j == b.j) && (samePath a.p b.p && ((a.iv == b.iv) && (a.cv == b.cv)))

theorem alEq_ok {a b : Al} (h : alEq a b = true) : a = b := by
  simp only [alEq, Bool.and_eq_true, beq_iff_eq] at h
  obtain ⟨h1, h2, h3, h4⟩ := h
  cases a; cases b
  simp only at h1 h2 h3 h4
  rw [h1, samePath_ok h2, h3, h4]

def alsEq : List Al → List Al → Bool
  | [], [] => true
  | a :: az, b :: bs => alEq a b && alsEq az bs
  | _, _ => false

theorem alsEq_ok : ∀ {a b : List Al}, alsEq a b = true → a = b
  | [], [], _ => rfl
  | a :: az, b :: bs, h => by
    simp only [alsEq, Bool.and_eq_true] at h
    rw [alEq_ok h.1, alsEq_ok h.2]
  | [], _ :: _, h => by simp [alsEq] at h
  | _ :: _, [], h => by simp [alsEq] at h

/-- The data, where the slots are of that shape. -/
def takeS : (l : List Sh) → List Ent → Option (DS l)
  | [], [] => some ()
  | .val t o :: l, e :: es =>
    match e with
    | ⟨0, 0, .val t' o' x⟩ => bif owEq o' o then (match castTy t' t x, takeS l es with | some y, some d => some (y, d) | _, _ => none) else none
    | _ => none
  | .var t o :: l, e :: es =>
    match e with
    | ⟨0, 0, .var t' o' x⟩ => bif owEq o' o then (match castTy t' t x, takeS l es with | some y, some d => some (y, d) | _, _ => none) else none
    | _ => none
  | .bad t :: l, e :: es =>
    match e with
    | ⟨0, 0, .bad t' x⟩ => (match castTy t' t x, takeS l es with | some y, some d => some (y, d) | _, _ => none)
    | _ => none
  | .view a t :: l, e :: es =>
    match e with
    | ⟨0, 0, .view a' t' x⟩ => bif alEq a' a then (match castTy t' t x, takeS l es with | some y, some d => some (y, d) | _, _ => none) else none
    | _ => none
  | .none :: l, e :: es =>
    match e with
    | ⟨0, 0, .none⟩ => takeS l es
    | _ => none
  | .undef :: l, e :: es =>
    match e with
    | ⟨0, 0, .tup []⟩ => takeS l es
    | _ => none
  | .sub a :: l, e :: es =>
    match e with
    | ⟨0, 0, .sub a'⟩ => bif alEq a' a then takeS l es else none
    | _ => none
  | .addr a :: l, e :: es =>
    match e with
    | ⟨0, 0, .addr a'⟩ => bif alEq a' a then takeS l es else none
    | _ => none
  | .fn f c :: l, e :: es =>
    match e with
    | ⟨0, 0, .fn f' c'⟩ => bif (f' == f) && alsEq c' c then takeS l es else none
    | _ => none
  | _, _ => none

theorem takeS_ok : ∀ {l : List Sh} {es : List Ent} {d : DS l}, takeS l es = some d → fillS l d = es
  | [], [], _, _ => rfl
  | [], _ :: _, _, h => by simp [takeS] at h
  | s :: _, [], _, h => by cases s <;> simp [takeS] at h
  | .val t o :: l, e :: es, d, h => by
    simp only [takeS] at h
    split at h
    · rename_i t' o' x
      cases hc : owEq o' o with
      | false => rw [hc] at h; cases h
      | true =>
        rw [hc] at h
        simp only [cond_true] at h
        split at h
        · rename_i y d' h1 h2
          obtain rfl := Option.some.inj h
          obtain ⟨rfl, rfl⟩ := castTy_some h1
          obtain rfl := owEq_ok hc
          simp only [fillS]; rw [takeS_ok h2]
        · cases h
    · cases h
  | .var t o :: l, e :: es, d, h => by
    simp only [takeS] at h
    split at h
    · rename_i t' o' x
      cases hc : owEq o' o with
      | false => rw [hc] at h; cases h
      | true =>
        rw [hc] at h
        simp only [cond_true] at h
        split at h
        · rename_i y d' h1 h2
          obtain rfl := Option.some.inj h
          obtain ⟨rfl, rfl⟩ := castTy_some h1
          obtain rfl := owEq_ok hc
          simp only [fillS]; rw [takeS_ok h2]
        · cases h
    · cases h
  | .bad t :: l, e :: es, d, h => by
    simp only [takeS] at h
    split at h
    · split at h
      · rename_i y d' h1 h2
        obtain rfl := Option.some.inj h
        obtain ⟨rfl, rfl⟩ := castTy_some h1
        simp only [fillS]; rw [takeS_ok h2]
      · cases h
    · cases h
  | .view a t :: l, e :: es, d, h => by
    simp only [takeS] at h
    split at h
    · rename_i a' t' x
      cases hc : alEq a' a with
      | false => rw [hc] at h; cases h
      | true =>
        rw [hc] at h
        simp only [cond_true] at h
        split at h
        · rename_i y d' h1 h2
          obtain rfl := Option.some.inj h
          obtain ⟨rfl, rfl⟩ := castTy_some h1
          obtain rfl := alEq_ok hc
          simp only [fillS]; rw [takeS_ok h2]
        · cases h
    · cases h
  | .none :: l, e :: es, d, h => by
    simp only [takeS] at h
    split at h
    · simp only [fillS]; rw [takeS_ok h]
    · cases h
  | .undef :: l, e :: es, d, h => by
    simp only [takeS] at h
    split at h
    · simp only [fillS]; rw [takeS_ok h]
    · cases h
  | .sub a :: l, e :: es, d, h => by
    simp only [takeS] at h
    split at h
    · rename_i a'
      cases hc : alEq a' a with
      | false => rw [hc] at h; cases h
      | true => rw [hc] at h; obtain rfl := alEq_ok hc; simp only [fillS]; rw [takeS_ok h]
    · cases h
  | .addr a :: l, e :: es, d, h => by
    simp only [takeS] at h
    split at h
    · rename_i a'
      cases hc : alEq a' a with
      | false => rw [hc] at h; cases h
      | true => rw [hc] at h; obtain rfl := alEq_ok hc; simp only [fillS]; rw [takeS_ok h]
    · cases h
  | .fn f c :: l, e :: es, d, h => by
    simp only [takeS] at h
    split at h
    · rename_i f' c'
      cases hc : (f' == f) && alsEq c' c with
      | false => rw [hc] at h; cases h
      | true =>
        rw [hc] at h
        rw [Bool.and_eq_true, beq_iff_eq] at hc
        obtain ⟨rfl, hc⟩ := hc
        obtain rfl := alsEq_ok hc
        simp only [fillS]; rw [takeS_ok h]
    · cases h

def Xt.eqb : Xt → Xt → Bool
  | .normal, .normal => true
  | .exit a, .exit b => a == b
  | .ret, .ret => true
  | _, _ => false

theorem Xt.eqb_ok {a b : Xt} (h : a.eqb b = true) : a = b := by
  cases a <;> cases b <;> simp [Xt.eqb] at h <;> first | rfl | rw [h]

/-- The data of an end. -/
def inj (off : Nat) : (os : List Out) → Xt → Env → Option (Xo os)
  | [], _, _ => none
  | [o], t, E => bif o.key.eqb t then takeS o.sh (o.cut.app off E) else none
  | o :: o2 :: os, t, E => bif o.key.eqb t then (match takeS o.sh (o.cut.app off E) with | some d => some (.inl d) | none => none) else (match inj off (o2 :: os) t E with | some y => some (.inr y) | none => none)

def elim {R : Type} : (os : List Out) → Xo os → (Xt → Env → Option R) → Option R
  | [], _, _ => none
  | [o], d, K => K o.key (fillS o.sh d)
  | o :: o2 :: os, x, K => match x with | .inl d => K o.key (fillS o.sh d) | .inr y => elim (o2 :: os) y K

/-- An end's data give the end again. -/
theorem elim_inj {off : Nat} {t : Xt} {E : Env} : ∀ {os : List Out} {x : Xo os}, inj off os t E = some x → ∃ c : Cut, ∀ (R : Type) (K : Xt → Env → Option R), elim os x K = K t (c.app off E)
  | [], _, h => by simp [inj] at h
  | [o], x, h => by
    simp only [inj] at h
    cases hk : o.key.eqb t with
    | false => rw [hk] at h; cases h
    | true =>
      rw [hk] at h
      exact ⟨o.cut, fun R K => by simp only [elim]; rw [Xt.eqb_ok hk, takeS_ok h]⟩
  | o :: o2 :: os, x, h => by
    simp only [inj] at h
    cases hk : o.key.eqb t with
    | false =>
      rw [hk] at h
      simp only [cond_false] at h
      split at h
      · rename_i y hy
        obtain rfl := Option.some.inj h
        obtain ⟨c, hc⟩ := elim_inj (os := o2 :: os) hy
        exact ⟨c, fun R K => hc R K⟩
      · cases h
    | true =>
      rw [hk] at h
      simp only [cond_true] at h
      split at h
      · rename_i d hd
        obtain rfl := Option.some.inj h
        exact ⟨o.cut, fun R K => by simp only [elim]; rw [Xt.eqb_ok hk, takeS_ok hd]⟩
      · cases h

/-- The first region's number; 1000000 where there is none. -/
def firstId : Code → Nat
  | .region id _ _ => id
  | .seq a b => bif firstId a == 1000000 then firstId b else firstId a
  | .cond _ a b => bif firstId a == 1000000 then firstId b else firstId a
  | .block _ c => firstId c
  | .loop c => firstId c
  | _ => 1000000

/-- One round of a loop has ended. -/
def roundK (off : Nat) (lp : Lp) (t : Xt) (E : Env) : Option (DS lp.sh ⊕ Xo lp.outs) :=
  match t with
  | .normal => match takeS lp.sh (lp.hd.app off E) with | some d => some (.inl d) | none => none
  | .exit id => match inj off lp.outs (.exit id) E with | some x => some (.inr x) | none => none
  | .ret => match inj off lp.outs .ret E with | some x => some (.inr x) | none => none

noncomputable def denK (cx : Cx) (rc : Rc) (pl : Plan) (off : Nat) : Code → {R : Type} → Env → (Xt → Env → Option R) → Option R
  | .skip, _, E, K => K .normal E
  | .label _, _, E, K => K .normal E
  | .region _ ops draw, _, E, K => regionK cx rc off ops draw E (K .normal)
  | .seq a b, _, E, K =>
    match lookup pl.seqs (firstId b) with
    | none => denK cx rc pl off a E fun x E' => match x with | .normal => denK cx rc pl off b E' K | .exit id => K (.exit id) E' | .ret => K .ret E'
    | some os => (denK cx rc pl off a (R := Xo os) E fun x E' => inj off os x E').bind fun x => elim os x fun x E' => match x with | .normal => denK cx rc pl off b E' K | .exit id => K (.exit id) E' | .ret => K .ret E'
  | .cond c a b, _, E, K =>
    match rd E (opd E off c).s with
    | some ⟨.bool, v⟩ => bif v then denK cx rc pl off a E K else denK cx rc pl off b E K
    | _ => none
  | .block id c, _, E, K => denK cx rc pl off c E fun x E' => match x with | .normal => K .normal E' | .exit id' => bif id' == id then K .normal E' else K (.exit id') E' | .ret => K .ret E'
  | .loop c, _, E, K =>
    match lookup pl.loops (firstId c) with
    | none => none
    | some lp =>
      match takeS lp.sh (lp.hd.app off E) with
      | none => none
      | some d => (fix lp.B d).bind fun x => elim lp.outs x K
  | .exit id, _, E, K => K (.exit id) E
  | .ret, _, E, K => K .ret E
  | _, _, _, _ => none

/-- What is said of a loop's round holds. -/
def LpOk (cx : Cx) (rc : Rc) (pl : Plan) (off : Nat) (c : Code) (lp : Lp) : Prop := ∀ d z, lp.B d = some z → denK cx rc pl off c (fillS lp.sh d) (roundK off lp) = some z

def LoopsOk (cx : Cx) (rc : Rc) (pl : Plan) (off : Nat) : Code → Prop
  | .seq a b => LoopsOk cx rc pl off a ∧ LoopsOk cx rc pl off b
  | .cond _ a b => LoopsOk cx rc pl off a ∧ LoopsOk cx rc pl off b
  | .block _ c => LoopsOk cx rc pl off c
  | .loop c => LoopsOk cx rc pl off c ∧ match lookup pl.loops (firstId c) with | some lp => LpOk cx rc pl off c lp | none => True
  | _ => True

section
variable {w0 : World} {Pr0 M : Nat → Prop} {outer : List Value} {ds : List Deferred}
variable {P : Program} {cx : Cx} {pl : Plan} {rc : Rc}

theorem Sx.cut {E : Env} {a : Act} {w : World} {c : Cut} {off : Nat} (h : Sx w0 Pr0 M outer ds E a w) : Sx w0 Pr0 M outer ds (c.app off E) a w := ⟨h.st.cut, h.ds⟩
theorem denK_ok (hok : Ok P cx rc w0 Pr0 M) (hn : RcNat rc) : ∀ (c : Code), LoopsOk cx rc pl outer.length c → ∀ {R : Type} {r : R} {E : Env} {a : Act} {w : World} {K : Xt → Env → Option R} {Q : Exit → Act → World → Prop},
    denK cx rc pl outer.length c E K = some r → Sx w0 Pr0 M outer ds E a w → (∀ x E' a' w', K x E' = some r → Sx w0 Pr0 M outer ds E' a' w' → Q x.to a' w') → c.wp P Q a w := by
  intro c
  induction c with
  | skip => intro hlo R r E a w K Q h hx hK; exact wp_skip (hK .normal E a w h hx)
  | label l => intro hlo R r E a w K Q h hx hK; exact wp_label (hK .normal E a w h hx)
  | exit id => intro hlo R r E a w K Q h hx hK; exact wp_exit (hK (.exit id) E a w h hx)
  | ret => intro hlo R r E a w K Q h hx hK; exact wp_ret (hK .ret E a w h hx)
  | goto l => intro hlo R r E a w K Q h hx hK; cases h
  | refuse s => intro hlo R r E a w K Q h hx hK; cases h
  | rangeFunc f p a b iha ihb => intro hlo R r E a w K Q h hx hK; cases h
  | scope c ih => intro hlo R r E a w K Q h hx hK; cases h
  | region id ops draw => intro hlo R r E a w K Q h hx hK; exact regionK_ok hok hn h hx fun E' a' w' hk hx' => hK .normal E' a' w' hk hx'
  | seq x y ihx ihy =>
    intro hlo R r E a w K Q h hx hK
    simp only [denK] at h
    refine wp_seq ?_
    split at h
    · refine ihx hlo.1 h hx fun t E' a' w' hk hx' => ?_
      cases t with
      | normal => exact ihy hlo.2 hk hx' hK
      | exit id => exact hK (.exit id) E' a' w' hk hx'
      | ret => exact hK .ret E' a' w' hk hx'
    · rename_i os hc
      rw [Option.bind_eq_some_iff] at h
      obtain ⟨q, h1, h2⟩ := h
      refine ihx hlo.1 h1 hx fun t E' a' w' hk hx' => ?_
      obtain ⟨c, hc⟩ := elim_inj hk
      rw [hc] at h2
      cases t with
      | normal => exact ihy hlo.2 h2 hx'.cut hK
      | exit id => exact hK (.exit id) _ a' w' h2 hx'.cut
      | ret => exact hK .ret _ a' w' h2 hx'.cut
  | cond c x y ihx ihy =>
    intro hlo R r E a w K Q h hx hK
    simp only [denK] at h
    split at h
    · rename_i v hr
      obtain ⟨⟨Pr, B, hst, hN⟩, hds⟩ := id hx
      have hv := rd_bool hst (opd_ok hst hx.fr c) hr
      cases v with
      | true => exact wp_cond_true hv (ihx hlo.1 h hx hK)
      | false => exact wp_cond_false hv (ihy hlo.2 h hx hK)
    · cases h
  | block id c ih =>
    intro hlo R r E a w K Q h hx hK
    simp only [denK] at h
    refine wp_block (ih hlo h hx fun t E' a' w' hk hx' => ?_)
    cases t with
    | normal => exact hK .normal E' a' w' hk hx'
    | ret => exact hK .ret E' a' w' hk hx'
    | exit id' =>
      simp only [Xt.to, Exit.inBlock]
      cases hid : id' == id with
      | true =>
        simp only [hid, cond_true] at hk
        rw [if_pos (by simpa using hid)]
        exact hK .normal E' a' w' hk hx'
      | false =>
        simp only [hid, cond_false] at hk
        rw [if_neg (by simpa using hid)]
        exact hK (.exit id') E' a' w' hk hx'
  | loop c ih =>
    intro hlo R r E a w K Q h hx hK
    simp only [denK] at h
    split at h
    · cases h
    · rename_i lp hl
      obtain ⟨hlo1, hlp⟩ := hlo
      rw [hl] at hlp
      simp only at hlp
      split at h
      · cases h
      · rename_i d hd
        rw [Option.bind_eq_some_iff] at h
        obtain ⟨q, h1, h2⟩ := h
        obtain ⟨n, h1⟩ := fix_eq_some.1 h1
        have key : ∀ (n : Nat) (d : DS lp.sh) (a : Act) (w : World), iter lp.B n d = some q →
            Sx w0 Pr0 M outer ds (fillS lp.sh d) a w → ∀ (b : Frame) (k : List Item) (cs : List Frame), ∃ e a' w', Q e a' w' ∧ Arrives P (lone (b.at a (.code c :: .inLoop c :: k)) cs w) b k cs e a' w' := by
          intro n
          induction n with
          | zero => intro d a w hi; simp [iter] at hi
          | succ n ihn =>
            intro d a w hi hx b k cs
            simp only [iter] at hi
            cases hb : lp.B d with
            | none => rw [hb] at hi; cases hi
            | some z =>
              rw [hb] at hi
              have hden := hlp d z hb
              have hwp : c.wp P (Exit.then (fun a' w' => ∃ d', iter lp.B n d' = some q ∧ Sx w0 Pr0 M outer ds (fillS lp.sh d') a' w') Q) a w := by
                refine ih hlo1 hden hx fun t E' a' w' hk hx' => ?_
                cases t with
                | normal =>
                  simp only [roundK] at hk
                  split at hk
                  · rename_i d' hd'
                    obtain rfl := Option.some.inj hk
                    exact ⟨d', hi, by rw [takeS_ok hd']; exact hx'.cut⟩
                  · cases hk
                | exit id =>
                  simp only [roundK] at hk
                  split at hk
                  · rename_i x hx2
                    obtain rfl := Option.some.inj hk
                    simp only [Option.some.injEq] at hi
                    subst hi
                    obtain ⟨c2, hc2⟩ := elim_inj hx2
                    rw [hc2] at h2
                    exact hK (.exit id) _ a' w' h2 hx'.cut
                  · cases hk
                | ret =>
                  simp only [roundK] at hk
                  split at hk
                  · rename_i x hx2
                    obtain rfl := Option.some.inj hk
                    simp only [Option.some.injEq] at hi
                    subst hi
                    obtain ⟨c2, hc2⟩ := elim_inj hx2
                    rw [hc2] at h2
                    exact hK .ret _ a' w' h2 hx'.cut
                  · cases hk
              obtain ⟨e, a₁, w₁, hq, harr⟩ := hwp b (.inLoop c :: k) cs
              cases e with
              | normal =>
                obtain ⟨E', h3, h4⟩ := hq
                obtain ⟨e₂, a₂, w₂, hq₂, harr₂⟩ := ihn E' a₁ w₁ h3 h4 b k cs
                exact ⟨e₂, a₂, w₂, hq₂, .of_steps (Steps.trans harr (.one step_inLoop)) harr₂⟩
              | exit id => exact ⟨_, a₁, w₁, hq, .pass (x := .inLoop c) rfl (fun _ _ => .inl (by simp)) harr⟩
              | goto l => exact ⟨_, a₁, w₁, hq, .pass (x := .inLoop c) rfl (fun _ _ => .inl (by simp)) harr⟩
              | ret => exact ⟨_, a₁, w₁, hq, .pass (x := .inLoop c) rfl (fun _ _ => .inl (by simp)) harr⟩
              | panic ch => exact ⟨_, a₁, w₁, hq, .pass (x := .inLoop c) rfl (fun _ _ => .inl (by simp)) harr⟩
              | outgrown => exact ⟨_, a₁, w₁, hq, .pass (x := .inLoop c) rfl (fun _ _ => .inl (by simp)) harr⟩
        intro b k cs
        obtain ⟨e, a', w', hq, harr⟩ := key n d a w h1 (by rw [takeS_ok hd]; exact hx.cut) b k cs
        exact ⟨e, a', w', hq, .of_steps (.one step_loop) harr⟩

end

/-! ### naturality -/
section
variable {cx : Cx} {pl : Plan} {rc : Rc} {off : Nat}

theorem opsK_bind (hn : RcNat rc) {l : List Oper} {R : Type} {K : Env → Option R} : ∀ {os : List Oper} {E : Env}, opsK cx rc off l os E K = (opsK cx rc off l os E some).bind K
  | [], E => rfl
  | o :: os, E => by
    simp only [opsK]
    rw [guardK_eq, guardK_eq]
    cases gd E off l o with
    | none => rfl
    | some b =>
      cases b with
      | true =>
        simp only
        rw [opK_bind hn, opK_bind hn (K := fun z => opsK cx rc off l os (putE off o.dst z) some), Option.bind_assoc]
        congr 1
        funext z
        exact opsK_bind hn
      | false => exact opsK_bind hn

theorem opsD_bind (hn : RcNat rc) {l : List Oper} {R : Type} {K : Env → Option R} : ∀ {os : List Oper} {i : Nat} {E : Env} {fs : List Ft}, opsD cx rc off l os i E fs K = (opsD cx rc off l os i E fs some).bind K
  | [], i, E, fs => by
    simp only [opsD]
    rw [cond_bind]; rfl
  | o :: os, i, E, fs => by
    simp only [opsD]
    rw [guardK_eq, guardK_eq]
    cases gd E off l o with
    | none => rfl
    | some b =>
      cases b with
      | true =>
        simp only
        rw [opK_bind hn, opK_bind hn (K := fun z => opsD cx rc off l os (i + 1) (putE off o.dst z) _ some), Option.bind_assoc]
        congr 1
        funext z
        exact opsD_bind hn
      | false => exact opsD_bind hn

theorem regionK_bind (hn : RcNat rc) {R : Type} {K : Env → Option R} {ops : Array Oper} {draw : Bool} {E : Env} : regionK cx rc off ops draw E K = (regionK cx rc off ops draw E some).bind K := by
  cases draw with
  | false => exact opsK_bind hn
  | true =>
    simp only [regionK]
    rw [cond_bind]
    congr 1
    exact opsD_bind hn

theorem elim_bind {R : Type} : ∀ {os : List Out} {x : Xo os} {K : Xt → Env → Option R}, elim os x K = (elim os x fun x E => some (x, E)).bind fun q => K q.1 q.2
  | [], x, _ => rfl
  | [o], _, _ => rfl
  | o :: o2 :: os, x, K => by
    cases x with
    | inl d => rfl
    | inr y => exact elim_bind (os := o2 :: os) (x := y)

theorem denK_bind (hn : RcNat rc) : ∀ (c : Code) {R : Type} {E : Env} {K : Xt → Env → Option R}, denK cx rc pl off c E K = (denK cx rc pl off c E fun x E => some (x, E)).bind fun q => K q.1 q.2 := by
  intro c
  induction c with
  | skip => intro R E K; rfl
  | label l => intro R E K; rfl
  | exit id => intro R E K; rfl
  | ret => intro R E K; rfl
  | goto l => intro R E K; rfl
  | refuse s => intro R E K; rfl
  | rangeFunc f p a b iha ihb => intro R E K; rfl
  | scope c ih => intro R E K; rfl
  | region id ops draw =>
    intro R E K
    simp only [denK]
    rw [regionK_bind hn, regionK_bind hn (K := fun E => some (Xt.normal, E)), Option.bind_assoc]
    rfl
  | seq x y ihx ihy =>
    intro R E K
    simp only [denK]
    cases lookup pl.seqs (firstId y) with
    | none =>
      simp only
      rw [ihx, ihx (K := fun x E' => match x with | .normal => denK cx rc pl off y E' (fun x E => some (x, E)) | .exit id => some (.exit id, E') | .ret => some (.ret, E')), Option.bind_assoc]
      congr 1
      funext q
      obtain ⟨t, E'⟩ := q
      cases t with
      | normal => exact ihy
      | exit id => rfl
      | ret => rfl
    | some os =>
      simp only
      rw [Option.bind_assoc]
      congr 1
      funext x
      rw [elim_bind (K := fun x E' => match x with | .normal => denK cx rc pl off y E' K | .exit id => K (.exit id) E' | .ret => K .ret E')]
      rw [elim_bind (K := fun x E' => match x with | .normal => denK cx rc pl off y E' (fun x E => some (x, E)) | .exit id => some (Xt.exit id, E') | .ret => some (Xt.ret, E'))]
      rw [Option.bind_assoc]
      congr 1
      funext q
      obtain ⟨t, E'⟩ := q
      cases t with
      | normal => exact ihy
      | exit id => rfl
      | ret => rfl
  | cond c x y ihx ihy =>
    intro R E K
    simp only [denK]
    split
    · rw [cond_bind, ihx, ihy]
    · rfl
  | block id c ih =>
    intro R E K
    simp only [denK]
    rw [ih, ih (R := Xt × Env) (K := fun x E' => match x with | .normal => some (Xt.normal, E') | .exit id' => bif id' == id then some (Xt.normal, E') else some (Xt.exit id', E') | .ret => some (Xt.ret, E')), Option.bind_assoc]
    congr 1
    funext q
    obtain ⟨t, E'⟩ := q
    cases t with
    | normal => rfl
    | exit id' => simp only; rw [cond_bind]; rfl
    | ret => rfl
  | loop c ih =>
    intro R E K
    simp only [denK]
    cases lookup pl.loops (firstId c) with
    | none => rfl
    | some lp =>
      simp only
      cases takeS lp.sh (lp.hd.app off E) with
      | none => rfl
      | some d =>
        simp only
        rw [Option.bind_assoc]
        congr 1
        funext x
        exact elim_bind

end

/-- Calls in place, of functions of level below 'n'. -/
noncomputable def rcN (cx : Cx) : Nat → Rc
  | 0 => ⟨fun _ _ _ _ _ _ => none⟩
  | n + 1 => ⟨fun R pl c off E K => bif pl.lv == n then (bif pl.off == off then denK cx (rcN cx n) pl off c E K else none) else (rcN cx n).run R pl c off E K⟩

theorem rcN_nat (cx : Cx) : ∀ n, RcNat (rcN cx n)
  | 0 => fun _ _ _ _ _ _ => rfl
  | n + 1 => fun R pl c off E K => by
    simp only [rcN]
    cases pl.lv == n with
    | true =>
      simp only [cond_true]
      rw [cond_bind]
      cases pl.off == off with
      | true => exact denK_bind (rcN_nat cx n) c
      | false => rfl
    | false => exact rcN_nat cx n R pl c off E K

/-- All but calls in place. -/
structure Ok0 (P : Program) (cx : Cx) : Prop where
  tab : TabOk P cx.tab
  arr : ArrOk P cx
  cts : CtsOk P cx
  fns : FuncsOk P cx
  loops : ∀ k f pl c, InFn cx k (f, pl) → f.body = some c → LoopsOk cx (rcN cx pl.lv) pl pl.off c
  mix : P.follows .mixedOrders = true

theorem rcN_ok {P : Program} {cx : Cx} (h : Ok0 P cx) : ∀ n, RcOk P cx (rcN cx n)
  | 0 => by
    intro w0 Pr0 M outer ds R pl c r E a w K Q _ _ hs
    cases hs
  | n + 1 => by
    intro w0 Pr0 M outer ds R pl c r E a w K Q hgl hf hs hx hK
    simp only [rcN] at hs
    cases hl : pl.lv == n with
    | true =>
      rw [hl] at hs
      simp only [cond_true] at hs
      obtain ⟨k, f, h1, h2⟩ := hf
      have := h.loops k f pl c h1 h2
      cases ho : pl.off == outer.length with
      | false => rw [ho] at hs; cases hs
      | true =>
        rw [ho] at hs
        rw [show pl.lv = n by simpa using hl, show pl.off = outer.length by simpa using ho] at this
        exact denK_ok ⟨h.tab, h.arr, h.cts, h.fns, rcN_ok h n, h.mix, hgl⟩ (rcN_nat cx n) c this hs hx hK
    | false =>
      rw [hl] at hs
      exact rcN_ok h n w0 Pr0 M outer ds R pl c r E a w K Q hgl hf hs hx hK

theorem Ok0.ok {P : Program} {cx : Cx} (h : Ok0 P cx) (n : Nat) {w0 : World} {Pr0 M : Nat → Prop} (hgl : GlOk cx.gl w0 Pr0 M) : Ok P cx (rcN cx n) w0 Pr0 M := ⟨h.tab, h.arr, h.cts, h.fns, rcN_ok h n, h.mix, hgl⟩

end Go.Dn
end

section
/- Functions: a contract out of the code. -/
namespace Go.Dn

def outerE : (ps : List (Mode × Ty)) → PVs (ps.map (·.2)) → List Ent
  | [], _ => []
  | (.bor, _) :: ps, x => outerE ps x.2
  | (.own, _) :: ps, x => outerE ps x.2
  | (.mut, t) :: ps, x => ent (.val t (top t) x.1) :: outerE ps x.2
  | (.ptr, t) :: ps, x => ent (.var t .b x.1) :: outerE ps x.2

def parE : (j : Nat) → (ps : List (Mode × Ty)) → PVs (ps.map (·.2)) → List Ent
  | _, [], _ => []
  | j, (.bor, t) :: ps, x => ent (.val t .b x.1) :: parE j ps x.2
  | j, (.own, t) :: ps, x => ent (.val t (top t) x.1) :: parE j ps x.2
  | j, (.mut, _) :: ps, x => ent (.sub ⟨j, [], 0, 0⟩) :: parE (j + 1) ps x.2
  | j, (.ptr, _) :: ps, x => ent (.addr ⟨j, [], 0, 0⟩) :: parE (j + 1) ps x.2

def outN : List (Mode × Ty) → Nat
  | [] => 0
  | (m, _) :: ps => bif m.back then outN ps + 1 else outN ps

def initE (ps : List (Mode × Ty)) (x : PVs (ps.map (·.2))) (n : Nat) : Env := outerE ps x ++ (parE 0 ps x ++ List.replicate (n - ps.length) (ent .none))

def rvT : ResultVar → Nat
  | .tmp t => t
  | .cell t _ => t

def wkR (off : Nat) : List ResultVar → List (Ty × Ow) → List (Nat × Ow)
  | t :: ts, (ty, own) :: rs => bif Ow.eqb own (top ty) then wkR off ts rs else (off + rvT t, own) :: wkR off ts rs
  | _, _ => []

def takeV (cx : Cx) (E : Env) (off : Nat) : ResultVar → Option (TV × List U)
  | .tmp t => take E (opd E off (.tmp t))
  | .cell t tid =>
    match lookup cx.tab tid, (E.at (off + t)).s with
    | some ty, .var t' o x => bif t' == ty then some (⟨t', o, x⟩, [.new (off + t) .none]) else none
    | _, _ => none

def takeR (cx : Cx) (off : Nat) : Env → List ResultVar → (rs : List (Ty × Ow)) → Option (PVs (rs.map (·.1)) × Env)
  | E, [], [] => some ((), E)
  | E, t :: ts, (ty, own) :: rs =>
    match takeV cx E off t with
    | some (v, us) =>
      match castTy v.t ty v.x with
      | some y =>
        bif okO v.t v.o own then
          match takeR cx off (appU E us) ts rs with
          | some (z, E') => some ((y, z), E')
          | none => none
        else none
      | none => none
    | none => none
  | _, _, _ => none

def backsOf (E : Env) : Nat → (ps : List (Mode × Ty)) → Option (PVs (backs ps))
  | _, [] => some ()
  | j, (.bor, _) :: ps => backsOf E j ps
  | j, (.own, _) :: ps => backsOf E j ps
  | j, (.mut, t) :: ps =>
    match (E.at j).s with
    | .val t' o x =>
      match castTy t' t x, backsOf E (j + 1) ps with
      | some y, some r => bif full t' o then some (y, r) else none
      | _, _ => none
    | _ => none
  | j, (.ptr, t) :: ps =>
    match (E.at j).s with
    | .var t' o x =>
      match castTy t' t x, backsOf E (j + 1) ps with
      | some y, some r => bif !owns t' o then some (y, r) else none
      | _, _ => none
    | _ => none

def finishK (cx : Cx) (off : Nat) (ts : List ResultVar) (ps : List (Mode × Ty)) (rs : List (Ty × Ow)) (E : Env) : Option (PVs (rs.map (·.1)) × PVs (backs ps)) :=
  match takeR cx off (wkE (wkR off ts rs) E) ts rs with
  | some (r, E') =>
    match backsOf E' 0 ps with
    | some b => some (r, b)
    | none => none
  | none => none

noncomputable def denF (cx : Cx) (dp : Nat) (pl : Plan) (n : Nat) (c : Code) (ts : List ResultVar) (ps : List (Mode × Ty)) (rs : List (Ty × Ow)) (x : PVs (ps.map (·.2))) : Option (PVs (rs.map (·.1)) × PVs (backs ps)) :=
  denK cx (rcN cx dp) pl (outN ps) c (initE ps x n) fun t E =>
    match t with
    | .normal => finishK cx (outN ps) ts ps rs E
    | .ret => finishK cx (outN ps) ts ps rs E
    | .exit _ => none

/-! ### the begin -/
def outerV : List (Mode × Ty) → List Value → List Value
  | (m, _) :: ps, v :: vs => bif m.back then v :: outerV ps vs else outerV ps vs
  | _, _ => []
def outerB : List (Mode × Ty) → List (List Nat) → List (List Nat)
  | (m, _) :: ps, b :: bs => bif m.back then b :: outerB ps bs else outerB ps bs
  | _, _ => []
def parB : List (Mode × Ty) → List (List Nat) → List (List Nat)
  | (m, _) :: ps, b :: bs => (bif m.back then [] else b) :: parB ps bs
  | _, _ => []

section
variable {w : World} {Pr : Nat → Prop}

def ArgSlot (w : World) (Pr : Nat → Prop) (s : Slot) (v : Value) (bs : List Nat) : Prop := (∃ t o x, s = .val t o x ∧ ValOk w Pr v t o x bs) ∨ (∃ t o x, s = .var t o x ∧ VarOk w Pr v t o x bs)

theorem ArgSlot.ok {s : Slot} {v : Value} {bs : List Nat} (h : ArgSlot w Pr s v bs) {E : Env} {V : List Value} {B : Nat → List Nat} {k : Nat} (hB : B k = bs) : SlotOk w Pr E V B k s v := by
  subst hB
  rcases h with ⟨t, o, x, rfl, h⟩ | ⟨t, o, x, rfl, h⟩
  · exact h
  · exact h

theorem arg_len : ∀ {ps : List (Mode × Ty)} {vs : List Value} {x : PVs (ps.map (·.2))} {bss : List (List Nat)}, ArgsOk w Pr ps vs x bss →
    (outerE ps x).length = outN ps ∧ (outerV ps vs).length = outN ps ∧ (outerB ps bss).length = outN ps ∧ vs.length = ps.length ∧ (parB ps bss).length = ps.length ∧ ∀ j, (parE j ps x).length = ps.length
  | [], [], _, [], _ => ⟨rfl, rfl, rfl, rfl, rfl, fun _ => rfl⟩
  | (m, t) :: ps, v :: vs, x, b :: bss, h => by
    obtain ⟨i1, i2, i3, i5, i6, i7⟩ := arg_len h.2
    cases m <;> exact ⟨by simp [outerE, outN, Mode.back, i1], by simp [outerV, outN, Mode.back, i2], by simp [outerB, outN, Mode.back, i3], by simp [i5], by simp [parB, i6], fun j => by simp [parE, i7]⟩
  | [], [], _, _ :: _, h => by simp [ArgsOk] at h
  | [], _ :: _, _, _, h => by simp [ArgsOk] at h
  | _ :: _, [], _, _, h => by simp [ArgsOk] at h
  | _ :: _, _ :: _, _, [], h => by simp [ArgsOk] at h

theorem outer_ok : ∀ {ps : List (Mode × Ty)} {vs : List Value} {x : PVs (ps.map (·.2))} {bss : List (List Nat)}, ArgsOk w Pr ps vs x bss →
    ∀ (j : Nat) (e : Ent) (v : Value), (outerE ps x)[j]? = some e → (outerV ps vs)[j]? = some v → ArgSlot w Pr e.s v ((outerB ps bss).getD j [])
  | [], [], _, [], _, j, e, v, he, _ => by simp [outerE] at he
  | (m, t) :: ps, v :: vs, x, b :: bss, h, j, e, v', he, hv => by
    have ih := outer_ok h.2
    cases m with
    | bor => exact ih j e v' he hv
    | own => exact ih j e v' he hv
    | «mut» =>
      cases j with
      | zero =>
        simp only [outerE, List.getElem?_cons_zero, Option.some.injEq, outerV, Mode.back, cond_true] at he hv
        subst he; subst hv
        exact .inl ⟨t, _, _, rfl, h.1⟩
      | succ j => exact ih j e v' he hv
    | ptr =>
      cases j with
      | zero =>
        simp only [outerE, List.getElem?_cons_zero, Option.some.injEq, outerV, Mode.back, cond_true] at he hv
        subst he; subst hv
        exact .inr ⟨t, _, _, rfl, h.1⟩
      | succ j => exact ih j e v' he hv
  | [], [], _, _ :: _, h, _, _, _, _, _ => by simp [ArgsOk] at h
  | [], _ :: _, _, _, h, _, _, _, _, _ => by simp [ArgsOk] at h
  | _ :: _, [], _, _, h, _, _, _, _, _ => by simp [ArgsOk] at h
  | _ :: _, _ :: _, _, [], h, _, _, _, _, _ => by simp [ArgsOk] at h

def ParSlot (w : World) (Pr : Nat → Prop) (Eo : List Ent) (Vo : List Value) (j0 : Nat) (s : Slot) (v : Value) (bs : List Nat) : Prop :=
  ArgSlot w Pr s v bs ∨ (bs = [] ∧ ∃ j, Vo[j]? = some v ∧ ((s = .sub ⟨j0 + j, [], 0, 0⟩ ∧ ∃ t o x, Eo[j]? = some (ent (.val t o x))) ∨ (s = .addr ⟨j0 + j, [], 0, 0⟩ ∧ ∃ t o x, Eo[j]? = some (ent (.var t o x)))))

theorem ParSlot.succ {Eo : List Ent} {Vo : List Value} {j0 : Nat} {s : Slot} {v : Value} {bs : List Nat} {e0 : Ent} {v0 : Value} (h : ParSlot w Pr Eo Vo (j0 + 1) s v bs) : ParSlot w Pr (e0 :: Eo) (v0 :: Vo) j0 s v bs := by
  rcases h with h | ⟨hb, j, hv, h⟩
  · exact .inl h
  · refine .inr ⟨hb, j + 1, hv, ?_⟩
    have : j0 + 1 + j = j0 + (j + 1) := by omega
    rw [← this]
    exact h

theorem par_ok : ∀ {ps : List (Mode × Ty)} {vs : List Value} {x : PVs (ps.map (·.2))} {bss : List (List Nat)} (j0 : Nat), ArgsOk w Pr ps vs x bss →
    ∀ (i : Nat) (e : Ent) (v : Value), (parE j0 ps x)[i]? = some e → vs[i]? = some v → ParSlot w Pr (outerE ps x) (outerV ps vs) j0 e.s v ((parB ps bss).getD i [])
  | [], [], _, [], _, _, i, e, v, he, _ => by simp [parE] at he
  | (m, t) :: ps, v :: vs, x, b :: bss, j0, h, i, e, v', he, hv => by
    cases m with
    | bor =>
      cases i with
      | zero =>
        simp only [parE, List.getElem?_cons_zero, Option.some.injEq] at he hv
        subst he; subst hv
        obtain ⟨⟨h1, rfl⟩, _⟩ := h
        exact .inl (.inl ⟨t, _, _, rfl, h1⟩)
      | succ i => exact par_ok j0 h.2 i e v' he hv
    | own =>
      cases i with
      | zero =>
        simp only [parE, List.getElem?_cons_zero, Option.some.injEq] at he hv
        subst he; subst hv
        exact .inl (.inl ⟨t, _, _, rfl, h.1⟩)
      | succ i => exact par_ok j0 h.2 i e v' he hv
    | «mut» =>
      cases i with
      | zero =>
        simp only [parE, List.getElem?_cons_zero, Option.some.injEq] at he hv
        subst he; subst hv
        exact .inr ⟨rfl, 0, rfl, .inl ⟨rfl, t, _, _, rfl⟩⟩
      | succ i => exact (par_ok (j0 + 1) h.2 i e v' he hv).succ
    | ptr =>
      cases i with
      | zero =>
        simp only [parE, List.getElem?_cons_zero, Option.some.injEq] at he hv
        subst he; subst hv
        exact .inr ⟨rfl, 0, rfl, .inr ⟨rfl, t, _, _, rfl⟩⟩
      | succ i => exact (par_ok (j0 + 1) h.2 i e v' he hv).succ
  | [], [], _, _ :: _, _, h, _, _, _, _, _ => by simp [ArgsOk] at h
  | [], _ :: _, _, _, _, h, _, _, _, _, _ => by simp [ArgsOk] at h
  | _ :: _, [], _, _, _, h, _, _, _, _, _ => by simp [ArgsOk] at h
  | _ :: _, _ :: _, _, [], _, h, _, _, _, _, _ => by simp [ArgsOk] at h

theorem blocks_perm : ∀ {ps : List (Mode × Ty)} {vs : List Value} {x : PVs (ps.map (·.2))} {bss : List (List Nat)}, ArgsOk w Pr ps vs x bss → bss.flatten.Perm ((outerB ps bss).flatten ++ (parB ps bss).flatten)
  | [], [], _, [], _ => List.Perm.refl _
  | (m, t) :: ps, v :: vs, x, b :: bss, h => by
    have ih := blocks_perm h.2
    cases m with
    | bor =>
      simp only [List.flatten_cons, outerB, parB, Mode.back, cond_false]
      refine (List.Perm.append_left b ih).trans ?_
      rw [← List.append_assoc, ← List.append_assoc]
      exact List.perm_append_comm.append_right _
    | own =>
      simp only [List.flatten_cons, outerB, parB, Mode.back, cond_false]
      refine (List.Perm.append_left b ih).trans ?_
      rw [← List.append_assoc, ← List.append_assoc]
      exact List.perm_append_comm.append_right _
    | «mut» =>
      simp only [List.flatten_cons, outerB, parB, Mode.back, cond_true, List.nil_append, List.append_assoc]
      exact List.Perm.append_left b ih
    | ptr =>
      simp only [List.flatten_cons, outerB, parB, Mode.back, cond_true, List.nil_append, List.append_assoc]
      exact List.Perm.append_left b ih
  | [], [], _, _ :: _, h => by simp [ArgsOk] at h
  | [], _ :: _, _, _, h => by simp [ArgsOk] at h
  | _ :: _, [], _, _, h => by simp [ArgsOk] at h
  | _ :: _, _ :: _, _, [], h => by simp [ArgsOk] at h

/-- Blocks out of a list of lists. -/
theorem getD_mem {l : List (List Nat)} {k b : Nat} (h : b ∈ l.getD k []) : b ∈ l.flatten := by
  rw [List.getD_eq_getElem?_getD] at h
  cases hk : l[k]? with
  | none => rw [hk] at h; simp at h
  | some x => rw [hk] at h; exact List.mem_flatten.2 ⟨x, List.mem_of_getElem? hk, h⟩

theorem getD_nodup : ∀ {l : List (List Nat)} {k : Nat}, l.flatten.Nodup → (l.getD k []).Nodup
  | [], _, _ => by simp
  | x :: l, 0, h => by simp only [List.flatten_cons, List.nodup_append] at h; exact h.1
  | x :: l, k + 1, h => by
    simp only [List.flatten_cons, List.nodup_append] at h
    exact getD_nodup (l := l) (k := k) h.2.1

theorem getD_disj : ∀ {l : List (List Nat)} {j k : Nat}, l.flatten.Nodup → j ≠ k → ∀ b ∈ l.getD j [], b ∉ l.getD k []
  | [], _, _, _, _, b, hb => by simp at hb
  | x :: l, 0, 0, _, hne, _, _ => absurd rfl hne
  | x :: l, 0, k + 1, h, _, b, hb => by
    simp only [List.flatten_cons, List.nodup_append] at h
    exact fun hk => h.2.2 b hb b (getD_mem (l := l) (k := k) hk) rfl
  | x :: l, j + 1, 0, h, _, b, hb => by
    simp only [List.flatten_cons, List.nodup_append] at h
    exact fun hk => h.2.2 b hk b (getD_mem (l := l) (k := j) hb) rfl
  | x :: l, j + 1, k + 1, h, hne, b, hb => by
    simp only [List.flatten_cons, List.nodup_append] at h
    exact getD_disj (l := l) (j := j) (k := k) h.2.1 (by omega) b hb

theorem getElem?_app {α : Type} {l1 l2 : List α} {k : Nat} {x : α} (h : (l1 ++ l2)[k]? = some x) : (k < l1.length ∧ l1[k]? = some x) ∨ (l1.length ≤ k ∧ l2[k - l1.length]? = some x) := by
  by_cases hk : k < l1.length
  · exact .inl ⟨hk, by rwa [List.getElem?_append_left hk] at h⟩
  · exact .inr ⟨by omega, by rwa [List.getElem?_append_right (by omega)] at h⟩

theorem getD_app {l1 l2 : List (List Nat)} {k : Nat} : (l1 ++ l2).getD k [] = if k < l1.length then l1.getD k [] else l2.getD (k - l1.length) [] := by
  simp only [List.getD_eq_getElem?_getD]
  split
  · rename_i h; rw [List.getElem?_append_left h]
  · rename_i h; rw [List.getElem?_append_right (by omega)]

theorem init_ok {ps : List (Mode × Ty)} {vs : List Value} {x : PVs (ps.map (·.2))} {bss : List (List Nat)} {n : Nat} (hpl : ∀ b, Pr b → b < w.heap.size) (h : ArgsOk w Pr ps vs x bss) (hnd : bss.flatten.Nodup)
    (hfr : ∀ b ∈ bss.flatten, ¬ Pr b ∧ b < w.heap.size) : St w Pr (fun b => b ∈ bss.flatten) (initE ps x n) (outerV ps vs ++ (vs ++ List.replicate (n - ps.length) undef)) w := by
  obtain ⟨l1, l2, l3, l4, l5, l6⟩ := arg_len h
  have hp := blocks_perm h
  have hnd2 : (outerB ps bss ++ parB ps bss).flatten.Nodup := by rw [List.flatten_append]; exact hp.nodup_iff.1 hnd
  have hmem : ∀ k b, b ∈ (outerB ps bss ++ parB ps bss).getD k [] → b ∈ bss.flatten := fun k b hb => hp.mem_iff.2 (by rw [← List.flatten_append]; exact getD_mem hb)
  refine ⟨Pr, fun k => (outerB ps bss ++ parB ps bss).getD k [], ?_, fun k hk => ?_⟩
  · refine { len := by simp [initE, l1, l2, l4, l6], pr0 := fun _ h => h, prlt := hpl, prnew := fun _ h => .inl h, slots := fun k e v he hv => ?_, nodup := fun k => getD_nodup hnd2, disj := fun j k hne b hb => getD_disj hnd2 hne b hb,
             free := fun k b hb => ⟨.inr (hmem k b hb), hfr b (hmem k b hb)⟩, os := rfl, tape := rfl, output := rfl, size := Nat.le_refl _, frame := fun _ _ _ => rfl }
    unfold initE at he
    rcases getElem?_app he with ⟨q1, q2⟩ | ⟨q1, q2⟩
    · rw [List.getElem?_append_left (by omega)] at hv
      refine (outer_ok h k e v q2 hv).ok ?_
      rw [getD_app, if_pos (by omega)]
    · rw [List.getElem?_append_right (by omega), l2, ← l1] at hv
      rcases getElem?_app q2 with ⟨p1, p2⟩ | ⟨p1, p2⟩
      · rw [List.getElem?_append_left (by rw [l6] at p1; omega)] at hv
        rcases par_ok 0 h _ e v p2 hv with hs | ⟨hb, j, hvj, hs⟩
        · refine hs.ok ?_
          rw [getD_app, if_neg (by omega), l3, l1]
        · have hj : j < (outerE ps x).length := by
            have := (List.getElem?_eq_some_iff.1 hvj).1
            omega
          have hV : (outerV ps vs ++ (vs ++ List.replicate (n - ps.length) undef))[j]? = some v := by rw [List.getElem?_append_left (by omega)]; exact hvj
          rcases hs with ⟨hs, t, o, y, hE⟩ | ⟨hs, t, o, y, hE⟩
          · rw [hs, Nat.zero_add]
            refine ⟨ent (.val t o y), v, ⟨?_, Nat.le_refl _, fun _ => Nat.le_refl _⟩, hV, fun _ => ⟨fun _ _ => rfl, fun _ hq => ?_⟩⟩
            · show (initE ps x n)[j]? = _
              unfold initE; rw [List.getElem?_append_left hj]; exact hE
            · rcases hq with hq | hq
              · exact absurd rfl hq
              · cases hq
          · rw [hs, Nat.zero_add]
            refine ⟨ent (.var t o y), v, ⟨?_, Nat.le_refl _, fun _ => Nat.le_refl _⟩, hV, fun _ => ⟨fun _ => rfl, fun hq => absurd rfl hq⟩⟩
            show (initE ps x n)[j]? = _
            unfold initE; rw [List.getElem?_append_left hj]; exact hE
      · rw [List.getElem?_replicate] at p2
        split at p2
        · obtain rfl := Option.some.inj p2; trivial
        · cases p2
  · simp only
    rw [getD_app]
    simp only [initE, List.length_append, List.length_replicate] at hk
    rw [if_neg (by omega), List.getD_eq_getElem?_getD, List.getElem?_eq_none (by rw [l6] at hk; omega)]
    rfl

/-! ### the end -/
section
variable {w0 : World} {Pr0 M : Nat → Prop} {outer : List Value} {E : Env} {V : List Value} {B : Nat → List Nat} {a : Act} {P : Program}

theorem getE_some {s : Slot} {j : Nat} (h : (E.at j).s = s) (hs : s ≠ .none) : E[j]? = some (E.at j) := by
  cases he : E[j]? with
  | none => unfold Env.at at h; rw [List.getD_eq_getElem?_getD, he] at h; exact absurd h.symm hs
  | some e => rw [at_of he]

/-- What a result is. -/
def ResV (P : Program) (a : Act) (w : World) (rv : ResultVar) (v : Value) : Prop :=
  match rv with
  | .tmp t => v = a.eval (.tmp t)
  | .cell t tid => ∃ ad, a.eval (.tmp t) = .pointer (some ad) ∧ (loadVar tid ad).run P w = .ok v w

theorem takeV_ok {cx : Cx} (htab : TabOk P cx.tab) (hf : Fr outer.length V a) (h : StB w0 Pr0 M E V w Pr B) {N : Nat} (hN : E.length ≤ N) (hB : B N = []) {rv : ResultVar} {tv : TV} {us : List U} (ht : takeV cx E outer.length rv = some (tv, us)) :
    ∃ B1 v, StB w0 Pr0 M (appU E us) V w Pr B1 ∧ ResV P a w rv v ∧ ValOk w Pr v tv.t tv.o tv.x (B1 N) ∧ (∀ k, E.length ≤ k → k ≠ N → B1 k = B k) ∧ (appU E us).length = E.length := by
  cases rv with
  | tmp t =>
    obtain ⟨B1, g1, g2, g3, g4⟩ := take_ok h hN hB (opd_ok h hf (.tmp t)) ht
    exact ⟨B1, _, g1, rfl, g2, g3, g4⟩
  | cell t tid =>
    simp only [takeV] at ht
    split at ht
    · rename_i ty t' o x hl hs
      cases hc : t' == ty with
      | false => rw [hc] at ht; cases ht
      | true =>
        rw [hc] at ht
        simp only [cond_true, Option.some.injEq, Prod.mk.injEq] at ht
        obtain ⟨rfl, rfl⟩ := ht
        have hty : t' = ty := by simpa using hc
        subst hty
        have he := getE_some (E := E) (j := outer.length + t) hs (by simp)
        have hk := (List.getElem?_eq_some_iff.1 he).1
        have hv := List.getElem?_eq_getElem (l := V) (i := outer.length + t) (by rw [← h.len]; exact hk)
        have hso := h.slots _ _ _ he hv
        rw [hs] at hso
        obtain ⟨b, cs, bs0, h1, h2, h3, h4⟩ := hso
        have hne : outer.length + t ≠ N := by omega
        refine ⟨swap B N (outer.length + t) bs0 [b], pack t' cs, ?_, ?_, ?_, fun k hk hne => swap_ne hne (by omega), by simp [appU, U.app]⟩
        · show StB w0 Pr0 M (E.set (outer.length + t) _) V w Pr _
          exact h.part hN hB he hv (h4.trans (List.perm_append_comm (l₁ := [b]))) (.inl (Nat.lt_succ_self _)) trivial
        · refine ⟨⟨b, 0, none⟩, ?_, run_loadVar_cells (tab_fact htab hl) (Cells.of_holds h2) h3.length⟩
          rw [eval_tmp hf hv, h1]
        · rw [swap_N]
          exact ⟨cs, rfl, h3⟩
    · cases ht

theorem takeR_ok {cx : Cx} (htab : TabOk P cx.tab) (hf : Fr outer.length V a) : ∀ {ts : List ResultVar} {rs : List (Ty × Ow)} {E : Env} {B : Nat → List Nat} {N : Nat} {z : PVs (rs.map (·.1))} {E' : Env}, StB w0 Pr0 M E V w Pr B → E.length ≤ N → (∀ k, N ≤ k → B k = []) →
    takeR cx outer.length E ts rs = some (z, E') →
    ∃ B' bv rv, StB w0 Pr0 M E' V w Pr B' ∧ E'.length = E.length ∧ (∀ k, E.length ≤ k → k < N → B' k = B k) ∧ AllL (ResV P a w) ts rv ∧ TupOk w Pr (retList rs z) rv bv ∧ bv.Nodup ∧ ∀ b ∈ bv, ∃ k, N ≤ k ∧ b ∈ B' k
  | [], [], E, B, N, z, E', h, hN, hB, ht => by
    simp only [takeR, Option.some.injEq, Prod.mk.injEq] at ht
    obtain ⟨_, rfl⟩ := ht
    exact ⟨B, [], [], h, rfl, fun _ _ _ => rfl, trivial, rfl, List.nodup_nil, fun b hb => by cases hb⟩
  | t :: ts, (ty, own) :: rs, E, B, N, z, E', h, hN, hB, ht => by
    simp only [takeR] at ht
    split at ht
    · rename_i v us hv
      split at ht
      · rename_i y hc
        cases hck : okO v.t v.o own with
        | false => rw [hck] at ht; cases ht
        | true =>
          rw [hck] at ht
          simp only [cond_true] at ht
          split at ht
          · rename_i z' E2 ht'
            simp only [Option.some.injEq, Prod.mk.injEq] at ht
            obtain ⟨rfl, rfl⟩ := ht
            obtain ⟨B1, u, g1, g0, g2, g3, g4⟩ := takeV_ok htab hf h hN (hB N (Nat.le_refl _)) hv
            obtain ⟨B', bv, rv, k1, k2, k3, k0, k4, k5, k6⟩ := takeR_ok htab hf (N := N + 1) g1 (by omega) (fun k hk => by rw [g3 k (by omega) (by omega)]; exact hB k (by omega)) ht'
            have hBN : B' N = B1 N := k3 N (by omega) (by omega)
            obtain ⟨T, O, X⟩ := v
            obtain ⟨hT, rfl⟩ := castTy_some hc
            simp only at hT hck g2
            subst hT
            refine ⟨B', B1 N ++ bv, u :: rv, k1, by omega, fun k hk hlt => by rw [k3 k (by omega) (by omega), g3 k hk (by omega)], ⟨g0, k0⟩, ⟨B1 N, bv, List.Perm.refl _, .inr ?_, k4⟩, ?_, fun b hb => ?_⟩
            · simp only [okO, Bool.or_eq_true, Bool.and_eq_true, Bool.not_eq_true'] at hck
              rcases hck with (hck | ⟨hck, he⟩) | ⟨hno, he⟩
              · obtain rfl := Ow.eqb_eq hck
                exact g2
              · obtain rfl := Ow.eqb_eq he
                exact ValOk.full hck g2
              · obtain rfl := Ow.eqb_eq he
                have hb : B1 N = [] := by obtain ⟨cs, _, q2⟩ := g2; exact q2.nowns hno
                show ValOk w Pr _ T .b _ (B1 N)
                rw [hb]
                exact ValOk.nowns hno g2
            · refine List.nodup_append.2 ⟨g1.nodup N, k5, fun x hx y hy hxy => ?_⟩
              subst hxy
              obtain ⟨k, hk, hb⟩ := k6 x hy
              rw [← hBN] at hx
              exact k1.disj N k (by omega) x hx hb
            · rcases List.mem_append.1 hb with hb | hb
              · exact ⟨N, Nat.le_refl _, by rw [hBN]; exact hb⟩
              · obtain ⟨k, hk, hb⟩ := k6 b hb
                exact ⟨k, by omega, hb⟩
          · cases ht
      · cases ht
    · cases ht
  | [], _ :: _, _, _, _, _, _, _, _, _, ht => by simp [takeR] at ht
  | _ :: _, [], _, _, _, _, _, _, _, _, ht => by simp [takeR] at ht

def rvSem (a : Act) : ResultVar → Sem Value
  | .tmp t => pure (a.tmps.getD t undef)
  | .cell b t => do loadVar t (← asAddr (a.tmps.getD b undef))

theorem rvSem_ok {rv : ResultVar} {v : Value} (h : ResV P a w rv v) : (rvSem a rv).run P w = .ok v w := by
  cases rv with
  | tmp t => simp only [ResV, Act.eval] at h; subst h; rfl
  | cell b t =>
    obtain ⟨ad, e1, e2⟩ := h
    simp only [Act.eval] at e1
    simp only [rvSem, e1]
    simpa [asAddr] using e2

theorem results_list {fn : Func} {ts : List ResultVar} {vs : List Value} (h : fn.results = ts.toArray) {a : Act} {w : World} (hv : AllL (ResV P a w) ts vs) : (results fn a.tmps).run P w = .ok (retValue vs) w := by
  have key : ∀ {ts : List ResultVar} {vs : List Value}, AllL (ResV P a w) ts vs → (ts.mapM (rvSem a)).run P w = .ok vs w := by
    intro ts
    induction ts with
    | nil => intro vs hv; cases vs with
      | nil => rfl
      | cons => exact hv.elim
    | cons t ts ih =>
      intro vs hv
      cases vs with
      | nil => exact hv.elim
      | cons v vs =>
        rw [List.mapM_cons, Sem.run_bind, rvSem_ok hv.1]
        simp only [Result.andThen]
        rw [Sem.run_bind, ih hv.2]
        rfl
  have e : results fn a.tmps = (ts.toArray.mapM (rvSem a) >>= fun vs => pure (if h : vs.size = 1 then vs[0] else .tuple vs)) := by
    unfold results
    rw [h]
    rfl
  rw [e, List.mapM_toArray, Sem.run_bind, Sem.run_map, key hv]
  simp only [Result.andThen]
  match vs with
  | [] => simp [retValue]
  | [v] => simp [retValue]
  | _ :: _ :: _ => simp [retValue]

theorem backs_ok (h : StB w0 Pr0 M E V w Pr B) : ∀ {ps : List (Mode × Ty)} {vs : List Value} {j : Nat} {r : PVs (backs ps)}, vs.length = ps.length → (∀ i v, (outerV ps vs)[i]? = some v → V[j + i]? = some v) → backsOf E j ps = some r →
    ∃ bms, BacksOk w Pr ps vs r bms ∧ bms.flatten.Nodup ∧ ∀ b ∈ bms.flatten, ∃ k, j ≤ k ∧ k < j + outN ps ∧ b ∈ B k
  | [], [], _, r, _, _, _ => ⟨[], trivial, List.nodup_nil, fun b hb => by cases hb⟩
  | (m, t) :: ps, v :: vs, j, r, hl, hV, hb => by
    have hl' : vs.length = ps.length := by simpa using hl
    have root : ∀ {s : Slot}, (E.at j).s = s → s ≠ .none → V[j]? = some v → SlotOk w Pr E V B j s v := by
      intro s hs hne hv
      have := h.slots j _ v (getE_some hs hne) hv
      rwa [hs] at this
    have step : (∀ i u, (v :: outerV ps vs)[i]? = some u → V[j + i]? = some u) → V[j]? = some v ∧ ∀ i u, (outerV ps vs)[i]? = some u → V[j + 1 + i]? = some u := by
      intro q
      exact ⟨q 0 v rfl, fun i u hu => by have := q (i + 1) u hu; rwa [show j + 1 + i = j + (i + 1) by omega]⟩
    have comb : ∀ {bms : List (List Nat)}, bms.flatten.Nodup → (∀ b ∈ bms.flatten, ∃ k, j + 1 ≤ k ∧ k < j + 1 + outN ps ∧ b ∈ B k) →
        (B j :: bms).flatten.Nodup ∧ ∀ b ∈ (B j :: bms).flatten, ∃ k, j ≤ k ∧ k < j + (outN ps + 1) ∧ b ∈ B k := by
      intro bms h1 h2
      constructor
      · rw [List.flatten_cons]
        refine List.nodup_append.2 ⟨h.nodup j, h1, fun x hx y hy hxy => ?_⟩
        subst hxy
        obtain ⟨k, k1, k2, k3⟩ := h2 x hy
        exact h.disj j k (by omega) x hx k3
      · intro b hb
        rw [List.flatten_cons] at hb
        rcases List.mem_append.1 hb with hb | hb
        · exact ⟨j, Nat.le_refl _, by omega, hb⟩
        · obtain ⟨k, k1, k2, k3⟩ := h2 b hb
          exact ⟨k, by omega, by omega, k3⟩
    cases m with
    | bor =>
      obtain ⟨bms, h1, h2, h3⟩ := backs_ok h hl' hV hb
      exact ⟨[] :: bms, ⟨rfl, h1⟩, by simpa using h2, by simpa [outN, Mode.back] using h3⟩
    | own =>
      obtain ⟨bms, h1, h2, h3⟩ := backs_ok h hl' hV hb
      exact ⟨[] :: bms, ⟨rfl, h1⟩, by simpa using h2, by simpa [outN, Mode.back] using h3⟩
    | «mut» =>
      simp only [outerV, Mode.back, cond_true] at hV
      obtain ⟨hv, hV⟩ := step hV
      simp only [backsOf] at hb
      split at hb
      · rename_i t' o x hs
        split at hb
        · rename_i y r' hc hb'
          cases hf : full t' o with
          | false => rw [hf] at hb; cases hb
          | true =>
            rw [hf] at hb
            simp only [cond_true] at hb
            obtain rfl := Option.some.inj hb
            obtain ⟨rfl, rfl⟩ := castTy_some hc
            obtain ⟨bms, h1, h2, h3⟩ := backs_ok h hl' hV hb'
            have hso := root hs (by simp) hv
            exact ⟨B j :: bms, ⟨ValOk.full hf hso, h1⟩, (comb h2 h3).1, by simpa [outN, Mode.back] using (comb h2 h3).2⟩
        · cases hb
      · cases hb
    | ptr =>
      simp only [outerV, Mode.back, cond_true] at hV
      obtain ⟨hv, hV⟩ := step hV
      simp only [backsOf] at hb
      split at hb
      · rename_i t' o x hs
        split at hb
        · rename_i y r' hc hb'
          cases hf : !owns t' o with
          | false => rw [hf] at hb; cases hb
          | true =>
            rw [hf] at hb
            simp only [cond_true] at hb
            obtain rfl := Option.some.inj hb
            obtain ⟨rfl, rfl⟩ := castTy_some hc
            obtain ⟨bms, h1, h2, h3⟩ := backs_ok h hl' hV hb'
            have hso := root hs (by simp) hv
            exact ⟨B j :: bms, ⟨VarOk.nowns (by simpa using hf) hso, h1⟩, (comb h2 h3).1, by simpa [outN, Mode.back] using (comb h2 h3).2⟩
        · cases hb
      · cases hb
  | [], _ :: _, _, _, hl, _, _ => by simp at hl
  | _ :: _, [], _, _, hl, _, _ => by simp at hl

theorem fnOk_of_den {cx : Cx} {pl : Plan} {k : FuncId} {fn : Func} {c : Code} {ts : List ResultVar} {ct : Ct} {dp : Nat} (hok : Ok0 P cx)
    (hf : P.funcs[k]? = some fn) (hb : fn.body = some c) (hn : (fn.name == "runtime.NumGoroutine") = false) (hres : fn.results = ts.toArray) (hunit : (ct.rets.all fun q => !q.1.isUnit) = true)
    (hlo : LoopsOk cx (rcN cx dp) pl (outN ct.pars) c) (hF : ∀ xs r, ct.F xs = some r → denF cx dp pl fn.ntmps c ts ct.pars ct.rets xs = some r) : FnOk cx.gl P k ct := by
  refine ⟨hunit, fun w Pr vs xs bss r hpl hargs hnd hfr hgo hgd hr => ⟨⟨fn, hf, by rw [hb]; rfl, hn⟩, ?_⟩⟩
  have hd := hF xs r hr
  obtain ⟨l1, l2, l3, l4, l5, l6⟩ := arg_len hargs
  refine calls_of_wp hf hb ?_
  have hst := init_ok (n := fn.ntmps) hpl hargs hnd hfr
  have hsx : Sx w Pr (fun b => b ∈ bss.flatten) (outerV ct.pars vs) [] (initE ct.pars xs fn.ntmps) { tmps := vs.toArray ++ Array.replicate (fn.ntmps - vs.toArray.size) undef, defers := [] } w := by
    refine ⟨?_, rfl⟩
    simp only [Array.toList_append, Array.toList_replicate, List.size_toArray, l4]
    exact hst
  unfold denF at hd
  rw [← l2] at hd
  have fin : ∀ (E' : Env) (a' : Act) (w' : World), finishK cx (outerV ct.pars vs).length ts ct.pars ct.rets E' = some r → Sx w Pr (fun b => b ∈ bss.flatten) (outerV ct.pars vs) [] E' a' w' →
      a'.defers = [] ∧ ∃ v, (results fn a'.tmps).run P w' = .ok v w' ∧ ∃ (rv : List Value) (Pr' : Nat → Prop) (bv : List Nat) (bms : List (List Nat)), Ending.returned v = .returned (retValue rv) ∧ TupOk w' Pr' (retList ct.rets r.1) rv bv ∧ BacksOk w' Pr' ct.pars vs r.2 bms ∧
      (bv ++ bms.flatten).Nodup ∧ (∀ b ∈ bv ++ bms.flatten, (b ∈ bss.flatten ∨ w.heap.size ≤ b) ∧ ¬ Pr' b ∧ b < w'.heap.size) ∧ (∀ b, Pr b → Pr' b) ∧
      (∀ b, Pr' b → Pr b ∨ (b ∈ bss.flatten ∨ w.heap.size ≤ b) ∧ b < w'.heap.size) ∧ w'.os = w.os ∧ w'.tape = w.tape ∧ w'.output = w.output ∧ w.heap.size ≤ w'.heap.size ∧
      (∀ b, b < w.heap.size → b ∉ bss.flatten → w'.heap[b]? = w.heap[b]?) := by
    intro E' a' w' hfin hx
    unfold finishK at hfin
    split at hfin
    · rename_i z E2 ht
      split at hfin
      · rename_i bk hbk
        obtain rfl := Option.some.inj hfin
        obtain ⟨Pr2, B2, h2, hN2⟩ := (hx.st.wkE (l := wkR (outerV ct.pars vs).length ts ct.rets))
        obtain ⟨B3, bv, rv, k1, k2, k3, k0, k4, k5, k6⟩ := takeR_ok hok.tab (hx.fr) h2 (Nat.le_refl _) hN2 ht
        obtain ⟨bms, m1, m2, m3⟩ := backs_ok k1 (j := 0) l4 (fun i v hv => by
          rw [Nat.zero_add, List.getElem?_append_left (List.getElem?_eq_some_iff.1 hv).1]; exact hv) hbk
        have hlt : outN ct.pars ≤ E2.length := by
          have := k1.len
          simp only [List.length_append] at this
          omega
        have hmem : ∀ b ∈ bv ++ bms.flatten, ∃ k, b ∈ B3 k := fun b hb => by
          rcases List.mem_append.1 hb with hb | hb
          · obtain ⟨k, _, h⟩ := k6 b hb; exact ⟨k, h⟩
          · obtain ⟨k, _, _, h⟩ := m3 b hb; exact ⟨k, h⟩
        refine ⟨hx.ds, _, results_list hres k0, rv, Pr2, bv, bms, rfl, k4, m1, ?_, fun b hb => ?_, k1.pr0, fun b hb => ?_, k1.os, k1.tape, k1.output, k1.size, fun b hb hnb => k1.frame b hb hnb⟩
        · refine List.nodup_append.2 ⟨k5, m2, fun x hx y hy hxy => ?_⟩
          subst hxy
          obtain ⟨k, q1, q2⟩ := k6 x hx
          obtain ⟨k', p1, p2, p3⟩ := m3 x hy
          exact k1.disj k k' (by omega) x q2 p3
        · obtain ⟨k, hk⟩ := hmem b hb
          obtain ⟨q1, q2, q3⟩ := k1.free k b hk
          exact ⟨q1.symm, q2, q3⟩
        · rcases k1.prnew b hb with q | q | q
          · exact .inl q
          · exact .inr ⟨.inr q, k1.prlt b hb⟩
          · exact .inr ⟨.inl q, k1.prlt b hb⟩
      · cases hfin
    · cases hfin
  refine denK_ok (hok.ok dp ⟨hgo, fun b hb => ⟨hgd b hb, hpl b (hgd b hb), fun hm => (hfr b hm).1 (hgd b hb)⟩⟩) (rcN_nat cx dp) c (by rw [l2]; exact hlo) hd hsx fun x E' a' w' hk hx => ?_
  cases x with
  | normal => exact fin E' a' w' hk hx
  | ret => exact fin E' a' w' hk hx
  | exit id => cases hk

end
end
end Go.Dn
end

section
/- What the printed texts lean on: loops by number, shapes by slots. -/
namespace Go.Dn

def bodyOf (f : Func) : Code := match f.body with | some c => c | none => .skip

noncomputable def loopsOf : Code → List Code
  | .seq a b => loopsOf a ++ loopsOf b
  | .cond _ a b => loopsOf a ++ loopsOf b
  | .block _ c => loopsOf c
  | .loop c => c :: loopsOf c
  | _ => []

def mkSh (n : Nat) (l : List (Nat × Sh)) : List Sh := (List.range n).map fun k => match lookup l k with | some s => s | none => .none

def LAll (cx : Cx) (rc : Rc) (pl : Plan) (off : Nat) : List Code → Prop
  | [] => True
  | c :: l => (match lookup pl.loops (firstId c) with | some lp => LpOk cx rc pl off c lp | none => True) ∧ LAll cx rc pl off l

theorem LAll.append {cx : Cx} {rc : Rc} {pl : Plan} {off : Nat} : ∀ {a b : List Code}, LAll cx rc pl off (a ++ b) → LAll cx rc pl off a ∧ LAll cx rc pl off b
  | [], _, h => ⟨trivial, h⟩
  | _ :: a, _, h => ⟨⟨h.1, (LAll.append (a := a) h.2).1⟩, (LAll.append (a := a) h.2).2⟩

theorem loopsOk_of {cx : Cx} {rc : Rc} {pl : Plan} {off : Nat} : ∀ {c : Code}, LAll cx rc pl off (loopsOf c) → LoopsOk cx rc pl off c := by
  intro c
  induction c with
  | seq a b iha ihb => intro h; have := LAll.append h; exact ⟨iha this.1, ihb this.2⟩
  | cond x a b iha ihb => intro h; have := LAll.append h; exact ⟨iha this.1, ihb this.2⟩
  | block id c ih => intro h; exact ih h
  | loop c ih => intro h; exact ⟨ih h.2, h.1⟩
  | _ => intro _; trivial

/-- A function without loops, or with its loops told. -/
theorem fnOk {P : Program} {cx : Cx} {pl : Plan} {k : FuncId} {fn : Func} {ct : Ct} {dp : Nat} (hok : Ok0 P cx) (hf : P.funcs[k]? = some fn) (hb : fn.body.isSome = true) (hn : (fn.name == "runtime.NumGoroutine") = false)
    (hunit : (ct.rets.all fun q => !q.1.isUnit) = true) (hlo : LAll cx (rcN cx dp) pl (outN ct.pars) (loopsOf (bodyOf fn)))
    (hF : ∀ xs, denF cx dp pl fn.ntmps (bodyOf fn) fn.results.toList ct.pars ct.rets xs = ct.F xs) : FnOk cx.gl P k ct := by
  have hb' : fn.body = some (bodyOf fn) := by
    unfold bodyOf
    cases h : fn.body with
    | none => rw [h] at hb; cases hb
    | some c => rfl
  exact fnOk_of_den hok hf hb' hn (by rw [Array.toArray_toList]) hunit (loopsOk_of hlo) fun xs r hr => by rw [hF]; exact hr

def AllCt (g : Glob) (P : Program) : List (FuncId × Ct) → Prop
  | [] => True
  | q :: l => FnOk g P q.1 q.2 ∧ AllCt g P l

theorem ctsOk_of {P : Program} {cx : Cx} (h : AllCt cx.gl P cx.cts) : CtsOk P cx := by
  intro k ct hl
  have hm := lookup_mem hl
  have key : ∀ {l : List (FuncId × Ct)}, AllCt cx.gl P l → (k, ct) ∈ l → FnOk cx.gl P k ct := by
    intro l
    induction l with
    | nil => intro _ hm; cases hm
    | cons q l ih =>
      intro h hm
      cases hm with
      | head => exact h.1
      | tail _ hm => exact ih h.2 hm
  exact key h hm

def AllFn (P : Program) (cx : Cx) : List (FuncId × Func × Plan) → Prop
  | [] => True
  | q :: l => (P.funcs[q.1]? = some q.2.1 ∧ (q.2.1.name == "runtime.NumGoroutine") = false ∧ LAll cx (rcN cx q.2.2.lv) q.2.2 q.2.2.off (loopsOf (bodyOf q.2.1))) ∧ AllFn P cx l

theorem allFn_mem {P : Program} {cx : Cx} {q : FuncId × Func × Plan} : ∀ {l : List (FuncId × Func × Plan)}, AllFn P cx l → q ∈ l → P.funcs[q.1]? = some q.2.1 ∧ (q.2.1.name == "runtime.NumGoroutine") = false ∧ LAll cx (rcN cx q.2.2.lv) q.2.2 q.2.2.off (loopsOf (bodyOf q.2.1))
  | [], _, hm => by cases hm
  | _ :: l, h, hm => by
    cases hm with
    | head => exact h.1
    | tail _ hm => exact allFn_mem (l := l) h.2 hm

theorem siteFn_mem {P : Program} {cx : Cx} {d : Nat} {q : FuncId × Func × Plan} (h : AllFn P cx (cx.sites.map (·.2))) (hl : lookup cx.sites d = some q) : P.funcs[q.1]? = some q.2.1 ∧ (q.2.1.name == "runtime.NumGoroutine") = false ∧ LAll cx (rcN cx q.2.2.lv) q.2.2 q.2.2.off (loopsOf (bodyOf q.2.1)) :=
  allFn_mem h (List.mem_map.2 ⟨_, lookup_mem hl, rfl⟩)

theorem inFn_mem {P : Program} {cx : Cx} {k : FuncId} {f : Func × Plan} (h : AllFn P cx cx.funcs) (h2 : AllFn P cx (cx.sites.map (·.2))) (hl : InFn cx k f) : P.funcs[k]? = some f.1 ∧ (f.1.name == "runtime.NumGoroutine") = false ∧ LAll cx (rcN cx f.2.lv) f.2 f.2.off (loopsOf (bodyOf f.1)) := by
  rcases hl with hl | ⟨d, hl⟩
  · exact allFn_mem h (lookup_mem hl)
  · exact siteFn_mem h2 hl

theorem ok0_of {P : Program} {cx : Cx} (htab : TabOk P cx.tab) (harr : ArrOk P cx) (hmix : P.follows .mixedOrders = true) (hct : AllCt cx.gl P cx.cts) (hfn : AllFn P cx cx.funcs) (hsi : AllFn P cx (cx.sites.map (·.2)) := by exact trivial) : Ok0 P cx where
  tab := htab
  arr := harr
  cts := ctsOk_of hct
  fns := fun k f hl => by have := inFn_mem hfn hsi hl; exact ⟨this.1, this.2.1⟩
  loops := fun k f pl c hl hb => by
    have := inFn_mem hfn hsi hl
    have hc : c = bodyOf f := by unfold bodyOf; rw [hb]
    rw [hc]
    exact loopsOk_of this.2.2
  mix := hmix

end Go.Dn
end

section
/- A law's row out of its contract: the arguments as they were, the answer true. -/
namespace Go.Dn
open Go.ChangeShapes Go.WideShapes Go.ChangeAt Go.RowKit

section
variable {H : Type} {enc : TypeId × Value → H} {P : Program}

theorem cell_same {W W' : World} (hk : ∀ b, b < W.heap.size → W'.heap[b]? = W.heap[b]?) {b off : Nat} (hb : b < W.heap.size) : W'.cell? ⟨b, off, none⟩ = W.cell? ⟨b, off, none⟩ := by
  simp only [World.cell?, hk b hb]

theorem carryAll {W W' : World} {base : Nat} {sp : Nat → Bool} {hd : Bool} (hk : ∀ b, b < W.heap.size → W'.heap[b]? = W.heap[b]?) : ∀ {ts : List TypeId} {vs : List Value} {ds : List (DataW H)} {ps : List MemPlace}, DataW.TrodAll enc P W base sp hd ts vs ds ps → (∀ p ∈ ps, p.block < W.heap.size) → DataW.TrodAll enc P W' base sp hd ts vs ds ps
  | [], [], [], _, h, _ => h
  | _ :: _, _ :: _, _ :: _, _, ⟨p, q, ⟨n, h1⟩, h2, e⟩, hp => ⟨p, q, ⟨n, DataW.trod_carry n _ _ _ h1 fun x hx => by
      have := hp x (by rw [e]; exact List.mem_append_left _ hx)
      cases x with
      | cell b off => exact cell_same hk this
      | map b => exact hk b this⟩, carryAll hk h2 (fun x hx => hp x (by rw [e]; exact List.mem_append_right _ hx)), e⟩

end
end Go.Dn
end

section
/- What a reading of an argument tells: a pure value that stands there. -/
namespace Go.Dn
open Go.ChangeShapes Go.WideShapes

/-- In the ranges of the kinds, and not longer than any argument is. -/
def WfV : (t : Ty) → PV t → Prop
  | .int k, n => k.min ≤ n ∧ n ≤ k.max
  | .bool, _ => True
  | .str, s => s.length ≤ maxLen
  | .unit, _ => True
  | .pair a b, x => WfV a x.1 ∧ WfV b x.2
  | .slice _ t, xs => List.length (α := PV t) xs ≤ maxLen ∧ ∀ x ∈ (xs : List (PV t)), WfV t x

theorem mapM_all {α β : Type} {f : α → Option β} : ∀ {l : List α} {r : List β}, l.mapM f = some r → r.length = l.length ∧ ∀ (i : Nat) (x : α), l[i]? = some x → ∃ y, f x = some y ∧ r[i]? = some y
  | [], r, h => by
    simp at h
    subst h
    exact ⟨rfl, fun i x hx => by simp at hx⟩
  | a :: l, r, h => by
    rw [List.mapM_cons] at h
    simp only [Option.bind_eq_bind, Option.bind_eq_some_iff, Option.pure_def, Option.some.injEq] at h
    obtain ⟨y, h1, ys, h2, rfl⟩ := h
    obtain ⟨g1, g2⟩ := mapM_all h2
    refine ⟨by simp [g1], fun i x hx => ?_⟩
    cases i with
    | zero => simp only [List.getElem?_cons_zero, Option.some.injEq] at hx; subst hx; exact ⟨y, h1, rfl⟩
    | succ i => simp only [List.getElem?_cons_succ] at hx; obtain ⟨z, q1, q2⟩ := g2 i x hx; exact ⟨z, q1, by simpa using q2⟩

theorem cells?_cells {w : World} {base : Nat} {a : Addr} {n : Nat} {cs : List Value} (h : w.cells? base a n = some cs) : cs.length = n ∧ Cells w a cs := by
  unfold World.cells? at h
  split at h
  · obtain ⟨h1, h2⟩ := mapM_all h
    rw [List.length_range] at h1
    refine ⟨h1, fun j u hu => ?_⟩
    have hj := (List.getElem?_eq_some_iff.1 hu).1
    obtain ⟨y, q1, q2⟩ := h2 j j (by rw [List.getElem?_range (by omega)])
    rw [hu] at q2
    obtain rfl := Option.some.inj q2
    exact q1
  · cases h

theorem cell_lt {w : World} {a : Addr} {v : Value} (h : w.cell? a = some v) : a.block < w.heap.size := by
  rcases Nat.lt_or_ge a.block w.heap.size with hlt | hge
  · exact hlt
  · unfold World.cell? at h
    rw [Array.getElem?_eq_none hge] at h
    simp at h

section
variable {H : Type} {enc : TypeId × Value → H} {P : Program} {tab : List (TypeId × Ty)} {w : World} {base : Nat} {sp : Nat → Bool} {hd : Bool}

abbrev Old (w : World) : Nat → Prop := fun b => b < w.heap.size

def Tells (tab : List (TypeId × Ty)) (w : World) (t : TypeId) (cs : List Value) : Prop := ∀ T, lookup tab t = some T → ∃ pv : PV T, Rep w (Old w) T .b cs pv [] ∧ WfV T pv

theorem cellsOf_size {tid : TypeId} {t : Ty} (h : TyFact P tab tid t) : P.cellsOf tid = t.size := by
  obtain ⟨i, z, h1, h2, _⟩ := h.info
  unfold Program.cellsOf
  rw [h1]
  exact h2

theorem fields_tell {cs : List Value} (htab : TabOk P tab) : ∀ {fs : List Field} {o : Nat} {T : Ty}, fieldsOk tab fs o T = true → (∀ f ∈ fs, Tells tab w f.type ((cs.drop f.offset).take (P.cellsOf f.type))) → cs.length = o + T.size →
    ∃ pv : PV T, Rep w (Old w) T .b (cs.drop o) pv [] ∧ WfV T pv
  | [], o, .unit, _, _, hl => ⟨(), ⟨by rw [List.drop_eq_nil_of_le (by simp [Ty.size] at hl; omega)], rfl⟩, trivial⟩
  | f :: fs, o, .pair a b, h, ht, hl => by
    simp only [fieldsOk, Bool.and_eq_true, beq_iff_eq] at h
    obtain ⟨⟨⟨h1, h2⟩, h3⟩, h4⟩ := h
    have hsz := cellsOf_size (tab_fact htab h1)
    obtain ⟨x, r1, q1⟩ := ht f (List.mem_cons_self ..) a h1
    rw [hsz, h2] at r1
    have hl' : cs.length = (o + a.size) + b.size := by simp only [Ty.size] at hl; omega
    obtain ⟨y, r2, q2⟩ := fields_tell htab h4 (fun g hg => ht g (List.mem_cons_of_mem _ hg)) hl'
    refine ⟨(x, y), ⟨(cs.drop o).take a.size, cs.drop (o + a.size), [], [], ?_, by simp, r1, r2⟩, q1, q2⟩
    rw [← List.drop_drop, List.take_append_drop]
  | [], o, .int _, h, _, _ | [], o, .bool, h, _, _ | [], o, .str, h, _, _ | [], o, .pair _ _, h, _, _ | [], o, .slice _ _, h, _, _ => by simp [fieldsOk] at h
  | _ :: _, o, .int _, h, _, _ | _ :: _, o, .bool, h, _, _ | _ :: _, o, .str, h, _, _ | _ :: _, o, .unit, h, _, _ | _ :: _, o, .slice _ _, h, _, _ => by simp [fieldsOk] at h

theorem repL_of {t : Ty} : ∀ {l : List (List Value)}, (∀ c ∈ l, ∃ pv : PV t, Rep w (Old w) t .b c pv [] ∧ WfV t pv) → ∃ xs : List (PV t), xs.length = l.length ∧ RepL (Rep w (Old w) t .b) l.flatten xs [] ∧ ∀ x ∈ xs, WfV t x
  | [], _ => ⟨[], rfl, ⟨rfl, rfl⟩, fun x hx => by cases hx⟩
  | c :: l, h => by
    obtain ⟨x, h1, h2⟩ := h c (List.mem_cons_self ..)
    obtain ⟨xs, g1, g2, g3⟩ := repL_of (l := l) fun d hd => h d (List.mem_cons_of_mem _ hd)
    refine ⟨x :: xs, by simp [g1], ⟨c, l.flatten, [], [], by simp, by simp, h1, g2⟩, fun y hy => ?_⟩
    cases hy with
    | head => exact h2
    | tail _ hy => exact g3 y hy

theorem arr_tell {a : Ty} {n : Nat} {cs : List Value} : ∀ {m : Nat} {T : Ty} {o : Nat}, arrOk a m T = true → (∀ i, o ≤ i → i < o + m → ∃ pv : PV a, Rep w (Old w) a .b ((cs.drop (i * a.size)).take a.size) pv [] ∧ WfV a pv) → cs.length = (o + m) * a.size →
    ∃ pv : PV T, Rep w (Old w) T .b (cs.drop (o * a.size)) pv [] ∧ WfV T pv
  | 0, .unit, o, _, _, hl => ⟨(), ⟨by rw [List.drop_eq_nil_of_le (by rw [hl, Nat.add_zero]; exact Nat.le_refl _)], rfl⟩, trivial⟩
  | m + 1, .pair b c, o, h, ht, hl => by
    simp only [arrOk, Bool.and_eq_true, beq_iff_eq] at h
    obtain ⟨rfl, h4⟩ := h
    obtain ⟨x, r1, q1⟩ := ht o (by omega) (by omega)
    have hl' : cs.length = ((o + 1) + m) * b.size := by rw [hl]; congr 1; omega
    obtain ⟨y, r2, q2⟩ := arr_tell (n := n) (o := o + 1) h4 (fun i h1 h2 => ht i (by omega) (by omega)) hl'
    refine ⟨(x, y), ⟨(cs.drop (o * b.size)).take b.size, cs.drop ((o + 1) * b.size), [], [], ?_, by simp, r1, r2⟩, q1, q2⟩
    rw [Nat.add_mul, Nat.one_mul, ← List.drop_drop, List.take_append_drop]
  | 0, .int _, _, h, _, _ | 0, .bool, _, h, _, _ | 0, .str, _, h, _, _ | 0, .pair _ _, _, h, _, _ | 0, .slice _ _, _, h, _, _ => by simp [arrOk] at h
  | _ + 1, .int _, _, h, _, _ | _ + 1, .bool, _, h, _, _ | _ + 1, .str, _, h, _, _ | _ + 1, .unit, _, h, _, _ | _ + 1, .slice _ _, _, h, _, _ => by simp [arrOk] at h

theorem mapM_range {α : Type} {f : Nat → Option α} {n : Nat} {r : List α} (h : (List.range n).mapM f = some r) : ∀ i, i < n → ∃ y, f i = some y := by
  intro i hi
  obtain ⟨_, h2⟩ := mapM_all h
  obtain ⟨y, q1, _⟩ := h2 i i (by rw [List.getElem?_range hi])
  exact ⟨y, q1⟩

theorem choose_list {α : Type} {Q : Nat → α → Prop} : ∀ {n : Nat}, (∀ i, i < n → ∃ c, Q i c) → ∃ l : List α, l.length = n ∧ ∀ (i : Nat) (c : α), l[i]? = some c → Q i c
  | 0, _ => ⟨[], rfl, fun i c hc => by simp at hc⟩
  | n + 1, h => by
    obtain ⟨l, h1, h2⟩ := choose_list (n := n) fun i hi => h i (by omega)
    obtain ⟨c, hc⟩ := h n (by omega)
    refine ⟨l ++ [c], by simp [h1], fun i d hd => ?_⟩
    rcases Nat.lt_trichotomy i n with hlt | rfl | hgt
    · rw [List.getElem?_append_left (by omega)] at hd; exact h2 i d hd
    · rw [List.getElem?_append_right (by omega), h1, Nat.sub_self] at hd; simp at hd; subst hd; exact hc
    · rw [List.getElem?_eq_none (by simp; omega)] at hd; cases hd

theorem flatten_get {s : Nat} (hs : 0 < s) : ∀ {l : List (List Value)} {j : Nat} {u : Value}, (∀ c ∈ l, c.length = s) → l.flatten[j]? = some u → ∃ c, l[j / s]? = some c ∧ c[j % s]? = some u
  | [], j, u, _, h => by simp at h
  | c :: l, j, u, hc, h => by
    have h0 := hc c (List.mem_cons_self ..)
    rw [List.flatten_cons] at h
    rcases Nat.lt_or_ge j s with hlt | hge
    · rw [List.getElem?_append_left (by omega)] at h
      rw [Nat.div_eq_of_lt hlt, Nat.mod_eq_of_lt hlt]
      exact ⟨c, rfl, h⟩
    · rw [List.getElem?_append_right (by omega), h0] at h
      obtain ⟨d, h1, h2⟩ := flatten_get hs (fun x hx => hc x (List.mem_cons_of_mem _ hx)) h
      have e1 : j = (j - s) + s := by omega
      refine ⟨d, ?_, ?_⟩
      · rw [e1, Nat.add_div_right _ hs]; simpa using h1
      · rw [e1, Nat.add_mod_right]; exact h2

theorem cells_flatten {a : Addr} {s : Nat} (hs : 0 < s) {l : List (List Value)} (hc : ∀ c ∈ l, c.length = s) (h : ∀ (i : Nat) (c : List Value), l[i]? = some c → Cells w (a.add (i * s)) c) : Cells w a l.flatten := by
  intro j u hu
  obtain ⟨c, h1, h2⟩ := flatten_get hs hc hu
  have := h _ _ h1 _ _ h2
  have e : (a.add (j / s * s)).add (j % s) = a.add j := by
    rw [Addr.add_add, Nat.div_add_mod' j s]
  rw [e] at this
  exact this

theorem trod_int {k : IntKind} {n : Nat} {t : TypeId} {cs : List Value} {x : DataW H × List MemPlace} (hu : P.underlying t = some (.int k)) (h : DataW.trod enc P w base sp hd (n + 1) t cs = some x) : ∃ m, cs = [.int k m] ∧ (Lit.int k m).wf = true := by
  unfold DataW.trod at h
  rw [hu] at h
  split at h <;> (try (simp only [Option.some.injEq, reduceCtorEq, TypeDesc.int.injEq] at *; done))
  rename_i k0 k' m e
  simp only [Option.some.injEq, TypeDesc.int.injEq] at e
  subst e
  split at h
  · rename_i hh; obtain ⟨rfl, hh⟩ := hh; exact ⟨_, rfl, hh⟩
  · cases h

theorem trod_bool {n : Nat} {t : TypeId} {cs : List Value} {x : DataW H × List MemPlace} (hu : P.underlying t = some .bool) (h : DataW.trod enc P w base sp hd (n + 1) t cs = some x) : ∃ m, cs = [.bool m] := by
  unfold DataW.trod at h
  rw [hu] at h
  split at h <;> (try (simp only [Option.some.injEq, reduceCtorEq] at *; done))
  exact ⟨_, rfl⟩

theorem trod_str {n : Nat} {t : TypeId} {cs : List Value} {x : DataW H × List MemPlace} (hu : P.underlying t = some .string) (h : DataW.trod enc P w base sp hd (n + 1) t cs = some x) : ∃ s, cs = [strV s] ∧ s.length ≤ maxLen := by
  unfold DataW.trod at h
  rw [hu] at h
  split at h <;> (try (simp only [Option.some.injEq, reduceCtorEq] at *; done))
  rename_i s e
  split at h
  · rename_i hh
    refine ⟨s.data.toList, rfl, ?_⟩
    rw [Array.length_toList]
    exact hh
  · cases h

theorem trod_struct {fs : Array Field} {n : Nat} {t : TypeId} {cs : List Value} {x : DataW H × List MemPlace} (hu : P.underlying t = some (.struct fs)) (h : DataW.trod enc P w base sp hd (n + 1) t cs = some x) :
    cs.length = P.cellsOf t ∧ ∀ f ∈ fs.toList, ∃ y, DataW.trod enc P w base sp hd n f.type ((cs.drop f.offset).take (P.cellsOf f.type)) = some y := by
  obtain ⟨xs, m, e, _, h1, h2, h3⟩ := DataW.trod_struct hu h
  obtain rfl : m = n := by omega
  refine ⟨h1, fun f hf => ?_⟩
  obtain ⟨i, hi⟩ := List.getElem?_of_mem hf
  rw [Array.getElem?_toList] at hi
  have hl := (Array.getElem?_eq_some_iff.1 hi).1
  exact ⟨_, (h3 i f hi).trans (List.getElem?_eq_getElem (by omega))⟩

theorem trod_array {e : TypeId} {m n : Nat} {t : TypeId} {cs : List Value} {x : DataW H × List MemPlace} (hu : P.underlying t = some (.array m e)) (h : DataW.trod enc P w base sp hd (n + 1) t cs = some x) :
    cs.length = P.cellsOf t ∧ ∀ i, i < m → ∃ y, DataW.trod enc P w base sp hd n e ((cs.drop (i * P.cellsOf e)).take (P.cellsOf e)) = some y := by
  obtain ⟨xs, q, e, _, h1, h2, h3⟩ := DataW.trod_array hu h
  obtain rfl : q = n := by omega
  exact ⟨h1, fun i hi => ⟨_, (h3 i hi).trans (List.getElem?_eq_getElem (by omega))⟩⟩

theorem trod_slice {e : TypeId} {n : Nat} {t : TypeId} {cs : List Value} {x : DataW H × List MemPlace} (hu : P.underlying t = some (.slice e)) (h : DataW.trod enc P w base sp hd (n + 1) t cs = some x) :
    cs = [.slice none 0 0] ∨ ∃ a len cap, cs = [.slice (some a) len cap] ∧ len ≤ cap ∧ cap ≤ maxLen ∧ ∀ i, i < len → ∃ c y, w.cells? base (a.add (i * P.cellsOf e)) (P.cellsOf e) = some c ∧ DataW.trod enc P w base sp hd n e c = some y := by
  unfold DataW.trod at h
  rw [hu] at h
  split at h <;> (try (simp only [Option.some.injEq, reduceCtorEq, TypeDesc.slice.injEq] at *; done))
  · exact .inl rfl
  · rename_i e' a len cap ee
    simp only [Option.some.injEq, TypeDesc.slice.injEq] at ee
    subst ee
    dsimp only at h
    split at h
    · rename_i hh
      refine .inr ⟨a, len, cap, rfl, hh.2.1, hh.2.2, fun i hi => ?_⟩
      rw [Option.bind_eq_some_iff] at h
      obtain ⟨l, h1, _⟩ := h
      obtain ⟨y, h2⟩ := mapM_range h1 i hi
      rw [Option.bind_eq_some_iff] at h2
      obtain ⟨c, h3, h4⟩ := h2
      exact ⟨c, y, h3, h4⟩
    · cases h

theorem trod_tell (htab : TabOk P tab) : ∀ (n : Nat) (t : TypeId) (cs : List Value) (x : DataW H × List MemPlace), DataW.trod enc P w base sp hd n t cs = some x → Tells tab w t cs := by
  intro n
  induction n with
  | zero => intro t cs x h; simp [DataW.trod] at h
  | succ n ih =>
    intro t cs x h T hT
    have hf := tab_fact htab hT
    obtain ⟨d, hu, hfit⟩ := hf.und
    have hsz := cellsOf_size hf
    cases d with
    | int k =>
      cases T <;> simp only [fits, beq_iff_eq, Bool.false_eq_true] at hfit
      subst hfit
      obtain ⟨m, rfl, h2⟩ := trod_int hu h
      simp only [Lit.wf, Bool.and_eq_true, decide_eq_true_eq] at h2
      exact ⟨m, ⟨rfl, rfl⟩, h2⟩
    | bool =>
      cases T <;> simp only [fits, Bool.false_eq_true] at hfit
      obtain ⟨m, rfl⟩ := trod_bool hu h
      exact ⟨m, ⟨rfl, rfl⟩, trivial⟩
    | string =>
      cases T <;> simp only [fits, Bool.false_eq_true] at hfit
      obtain ⟨s, rfl, h2⟩ := trod_str hu h
      exact ⟨s, ⟨rfl, rfl⟩, h2⟩
    | slice e =>
      cases T with
      | slice e' t' =>
        simp only [fits, Bool.and_eq_true, beq_iff_eq, Bool.not_eq_true', beq_eq_false_iff_ne, ne_eq] at hfit
        obtain ⟨⟨rfl, h2⟩, h3⟩ := hfit
        have hse := cellsOf_size (tab_fact htab h2)
        rcases trod_slice hu h with rfl | ⟨a, len, cap, rfl, q1, q2, q3⟩
        · exact ⟨([] : List (PV t')), (rep_bor (t := t') (xs := [])).2 ⟨rfl, none, 0, rfl, Nat.le_refl _, .inl rfl⟩, Nat.zero_le _, fun y hy => by cases hy⟩
        · rw [hse] at q3
          obtain ⟨l, l1, l2⟩ := choose_list q3
          have l3 : ∀ (i : Nat) (c : List Value), l[i]? = some c → c.length = t'.size ∧ Cells w (a.add (i * t'.size)) c := fun i c hc => by
            obtain ⟨y, h4, h5⟩ := l2 i c hc
            exact cells?_cells h4
          have l4 : ∀ c ∈ l, ∃ pv : PV t', Rep w (Old w) t' .b c pv [] ∧ WfV t' pv := fun c hc => by
            obtain ⟨i, hi⟩ := List.getElem?_of_mem hc
            obtain ⟨y, h4, h5⟩ := l2 i c hi
            exact ih _ _ _ h5 _ h2
          obtain ⟨xs, g1, g2, g3⟩ := repL_of l4
          have hlen : xs.length = len := by rw [g1, l1]
          have hcl := cells_flatten (w := w) (a := a) (Nat.pos_of_ne_zero h3) (fun c hc => by
            obtain ⟨i, hi⟩ := List.getElem?_of_mem hc
            exact (l3 i c hi).1) (fun i c hc => (l3 i c hc).2)
          refine ⟨xs, (rep_bor (t := t') (xs := xs)).2 ⟨rfl, some a, cap, by rw [hlen], by rw [hlen]; exact q1, ?_⟩, by rw [hlen]; exact Nat.le_trans q1 q2, g3⟩
          cases l with
          | nil => exact .inl (List.eq_nil_of_length_eq_zero (by simpa using g1))
          | cons c l =>
            refine .inr ⟨a, _, rfl, ?_, hcl, g2⟩
            obtain ⟨h4, h5⟩ := l3 0 c rfl
            cases c with
            | nil => exact absurd h4.symm h3
            | cons u c => 
              have := cell_lt (h5 0 u rfl)
              rwa [add_block, add_block] at this
      | int _ => simp [fits] at hfit
      | bool => simp [fits] at hfit
      | str => simp [fits] at hfit
      | unit => simp [fits] at hfit
      | pair _ _ => simp [fits] at hfit
    | struct fs =>
      simp only [fits, Bool.and_eq_true] at hfit
      obtain ⟨h1, h2⟩ := trod_struct hu h
      have := fields_tell (w := w) (cs := cs) htab hfit.2 (fun f hf => by
        obtain ⟨y, hy⟩ := h2 f hf
        exact ih _ _ _ hy) (by rw [h1, hsz, Nat.zero_add])
      simpa using this
    | array m e =>
      simp only [fits, Bool.and_eq_true] at hfit
      obtain ⟨_, hfit⟩ := hfit
      split at hfit
      · rename_i a ha
        simp only [Bool.and_eq_true] at hfit
        have hse := cellsOf_size (tab_fact htab ha)
        obtain ⟨h1, h2⟩ := trod_array hu h
        rw [hse] at h2
        have hm : ∀ {m : Nat} {T : Ty}, arrOk a m T = true → T.size = m * a.size := by
          intro m
          induction m with
          | zero => intro T hT; cases T <;> simp_all [arrOk, Ty.size]
          | succ m ihm =>
            intro T hT
            cases T with
            | pair b c =>
              simp only [arrOk, Bool.and_eq_true, beq_iff_eq] at hT
              obtain ⟨rfl, hT⟩ := hT
              simp only [Ty.size]
              rw [ihm hT, Nat.add_mul, Nat.one_mul, Nat.add_comm]
            | int _ => simp [arrOk] at hT
            | bool => simp [arrOk] at hT
            | str => simp [arrOk] at hT
            | unit => simp [arrOk] at hT
            | slice _ _ => simp [arrOk] at hT
        have := arr_tell (w := w) (cs := cs) (n := 0) (o := 0) hfit.2 (fun i _ hi => by
          obtain ⟨y, hy⟩ := h2 i (by omega)
          exact ih _ _ _ hy _ ha) (by rw [h1, hsz, hm hfit.2, Nat.zero_add])
        simpa using this
      · cases hfit
    | _ => simp [fits] at hfit

/-- All arguments at once. -/
inductive TellsAll (tab : List (TypeId × Ty)) (w : World) : List TypeId → List Value → Prop
  | nil : TellsAll tab w [] []
  | cons {t : TypeId} {v : Value} {ts : List TypeId} {vs : List Value} : Tells tab w t v.cells.toList → TellsAll tab w ts vs → TellsAll tab w (t :: ts) (v :: vs)

theorem trodAll_tell (htab : TabOk P tab) : ∀ {ts : List TypeId} {vs : List Value} {ds : List (DataW H)} {ps : List MemPlace}, DataW.TrodAll enc P w base sp hd ts vs ds ps → TellsAll tab w ts vs
  | [], [], [], _, _ => .nil
  | _ :: _, _ :: _, _ :: _, _, ⟨_, _, ⟨n, h1⟩, h2, _⟩ => .cons (trod_tell htab n _ _ _ h1) (trodAll_tell htab h2)

end
end Go.Dn
end

section
/- The call of a law by its contract: every argument as it was, the answer true. -/
namespace Go.Dn
open Go.ChangeShapes Go.WideShapes Go.ChangeAt Go.RowKit

section
variable {H : Type} {enc : TypeId × Value → H} {P : Program} {tab : List (TypeId × Ty)} {w : World} {base : Nat} {r : Reach}

theorem pack_back {t : TypeId} {T : Ty} {v : Value} (hf : TyFact P tab t T) (hv : Value.okWide P w r base t v) : v = pack T v.cells.toList := by
  obtain ⟨d, hu, hfit⟩ := hf.und
  cases d with
  | int k =>
    cases T <;> simp only [fits, Bool.false_eq_true] at hfit
    obtain ⟨n, rfl⟩ := okWide_int hu hv
    rfl
  | bool =>
    cases T <;> simp only [fits, Bool.false_eq_true] at hfit
    obtain ⟨n, rfl⟩ := okWide_bool hu hv
    rfl
  | string =>
    cases T <;> simp only [fits, Bool.false_eq_true] at hfit
    obtain ⟨n, rfl⟩ := okWide_string hu hv
    rfl
  | slice e =>
    cases T <;> (try (simp [fits] at hfit; done))
    obtain ⟨a, l, c, rfl⟩ := okWide_slice hu hv
    rfl
  | struct fs =>
    simp only [fits, Bool.and_eq_true] at hfit
    obtain ⟨cs, rfl, _⟩ := okWide_struct hu hv
    simp [pack, hfit.1, Value.cells]
  | array n e =>
    simp only [fits, Bool.and_eq_true] at hfit
    unfold Value.okWide at hv
    rw [hu] at hv
    obtain ⟨cs, rfl, _⟩ := hv
    simp [pack, hfit.1, Value.cells]
  | _ => simp [fits] at hfit

def WfVs : (ts : List Ty) → PVs ts → Prop
  | [], _ => True
  | t :: ts, x => WfV t x.1 ∧ WfVs ts x.2

def parsB (tab : List (TypeId × Ty)) : List TypeId → List (Mode × Ty) → Bool
  | [], [] => true
  | t :: ts, (m, T) :: ps => (m == .bor) && (lookup tab t == some T) && parsB tab ts ps
  | _, _ => false

def nils {α : Type} (ps : List α) : List (List Nat) := ps.map fun _ => []
theorem nils_flat {α : Type} : ∀ {ps : List α}, (nils ps).flatten = []
  | [] => rfl
  | _ :: ps => nils_flat (ps := ps)

theorem args_of (htab : TabOk P tab) : ∀ {ts : List TypeId} {vs : List Value} {ps : List (Mode × Ty)}, TellsAll tab w ts vs → (∀ (j : Nat) t v, ts[j]? = some t → vs[j]? = some v → Value.okWide P w r base t v) → parsB tab ts ps = true →
    ∃ x : PVs (ps.map (·.2)), ArgsOk w (Old w) ps vs x (nils ps) ∧ WfVs (ps.map (·.2)) x
  | [], [], [], _, _, _ => ⟨(), trivial, trivial⟩
  | t :: ts, v :: vs, (m, T) :: ps, .cons h1 h2, hv, hp => by
    simp only [parsB, Bool.and_eq_true, beq_iff_eq] at hp
    obtain ⟨⟨rfl, hl⟩, hp⟩ := hp
    obtain ⟨pv, r1, q1⟩ := h1 T hl
    obtain ⟨x, r2, q2⟩ := args_of htab h2 (fun j t v a b => hv (j + 1) t v (by simpa using a) (by simpa using b)) hp
    exact ⟨(pv, x), ⟨⟨⟨_, pack_back (tab_fact htab hl) (hv 0 t v rfl rfl), r1⟩, rfl⟩, r2⟩, q1, q2⟩
  | [], [], _ :: _, _, _, h => by cases h
  | _ :: _, _ :: _, [], _, _, h => by cases h

theorem law_call {k : FuncId} {pars : List (Mode × Ty)} {F : PVs (pars.map (·.2)) → Option (PVs [.bool] × PVs (backs pars))} {g : Glob} (hk : FnOk g P k ⟨pars, [(.bool, .b)], F⟩) (hgo : g.ok w) (hgd : ∀ b, g.dom b → b < w.heap.size) (htab : TabOk P tab) {ts : List TypeId} {args : Array Value}
    (hp : parsB tab ts pars = true) (hF : ∀ x, WfVs (pars.map (·.2)) x → ∃ bk, F x = some ((true, ()), bk)) (ht : TellsAll tab w ts args.toList) (hv : ∀ (j : Nat) t v, ts[j]? = some t → args.toList[j]? = some v → Value.okWide P w r base t v) :
    Calls P k args w fun e w' => e = .returned (.bool true) ∧ w'.os = w.os ∧ w'.output = w.output ∧ ∀ b, b < w.heap.size → w'.heap[b]? = w.heap[b]? := by
  obtain ⟨x, h1, h2⟩ := args_of htab ht hv hp
  obtain ⟨bk, hr⟩ := hF x h2
  obtain ⟨_, hc⟩ := hk.2 w (Old w) args.toList x (nils pars) _ (fun b h => h) h1 (by simp only [nils_flat]; exact List.nodup_nil) (by simp only [nils_flat]; intro b hb; cases hb) hgo hgd hr
  refine hc.mono fun e w' ⟨rv, Pr', bv, bms, e1, e2, _, _, _, _, _, e3, _, e4, _, e5⟩ => ?_
  refine ⟨?_, e3, e4, fun b hb => e5 b hb (by simp only [nils_flat]; intro h; cases h)⟩
  subst e1
  obtain ⟨v, rfl, hv⟩ : ∃ v, rv = [v] ∧ v = .bool true := by
    cases rv with
    | nil => exact e2.elim
    | cons v vs =>
      obtain ⟨b1, b2, _, q1, q2⟩ := e2
      cases vs with
      | cons _ _ => exact q2.elim
      | nil =>
        rcases q1 with q1 | ⟨cs, rfl, rfl, _⟩
        · cases q1
        · exact ⟨_, rfl, rfl⟩
  rw [hv]; rfl

end
end Go.Dn

namespace Go.Dn
open Go.ChangeShapes Go.WideShapes Go.ChangeAt Go.RowKit
end Go.Dn
end

section
/- Functions of Go's library, by the library's own contracts, as contracts of this text's form. -/
namespace Go.Dn
open Go.Shelf Go.Proofs

section
variable {P : Program} {g : Glob}

/-- A function that only looks, and whose results hold no rows. -/
theorem fnOk_look {k : FuncId} {pars : List (Mode × Ty)} {rets : List (Ty × Ow)} {F : PVs (pars.map (·.2)) → Option (PVs (rets.map (·.1)) × PVs (backs pars))}
    (hfn : ∃ fn, P.funcs[k]? = some fn ∧ fn.body.isSome = true ∧ (fn.name == "runtime.NumGoroutine") = false) (hunit : (rets.all fun q => !q.1.isUnit) = true)
    (hbor : ∀ {w : World} {Pr : Nat → Prop} {vs : List Value} {xs : PVs (pars.map (·.2))} {bss : List (List Nat)}, ArgsOk w Pr pars vs xs bss → bss.flatten = [] ∧ ∀ (r : PVs (backs pars)), BacksOk w Pr pars vs r (bss.map fun _ => []))
    (h : ∀ (w : World) (Pr : Nat → Prop) (vs : List Value) (xs : PVs (pars.map (·.2))) (bss : List (List Nat)) r, ArgsOk w Pr pars vs xs bss → F xs = some r →
      Calls P k vs.toArray w fun e w' => (∃ rv : List Value, e = .returned (retValue rv) ∧ TupOk w Pr (retList rets r.1) rv []) ∧ w' = w) : FnOk g P k ⟨pars, rets, F⟩ := by
  refine ⟨hunit, fun w Pr vs xs bss r hpl hargs hnd hfr _ _ hr => ⟨hfn, ?_⟩⟩
  obtain ⟨b1, b2⟩ := hbor hargs
  refine (h w Pr vs xs bss r hargs hr).mono fun e w' ⟨⟨rv, e1, e2⟩, ew⟩ => ?_
  subst ew
  have hz : (bss.map fun _ => ([] : List Nat)).flatten = [] := by
    clear hargs hnd hfr b1 b2
    induction bss with
    | nil => rfl
    | cons _ _ ih => simp [ih]
  refine ⟨rv, Pr, [], bss.map fun _ => [], e1, e2, b2 r.2, by rw [hz]; exact List.nodup_nil, fun b hb => absurd (hz ▸ hb) (by simp), fun b hb => hb, fun b hb => .inl hb, rfl, rfl, rfl, Nat.le_refl _, fun b _ _ => rfl⟩

theorem bor2 {t1 t2 : Ty} {w : World} {Pr : Nat → Prop} {vs : List Value} {xs : PVs [t1, t2]} {bss : List (List Nat)} (h : ArgsOk w Pr [(.bor, t1), (.bor, t2)] vs xs bss) :
    ∃ v1 v2, vs = [v1, v2] ∧ bss = [[], []] ∧ ValOk w Pr v1 t1 .b xs.1 [] ∧ ValOk w Pr v2 t2 .b xs.2.1 [] := by
  match vs, bss, h with
  | [v1, v2], [b1, b2], ⟨⟨h1, h2⟩, ⟨h3, h4⟩, _⟩ =>
    cases h2; cases h4
    exact ⟨v1, v2, rfl, rfl, h1, h3⟩
  | [], [], h => exact h.elim
  | [], _ :: _, h => exact h.elim
  | _ :: _, [], h => exact h.elim
  | [_], [_], h => exact h.2.elim
  | [_], _ :: _ :: _, h => exact h.2.elim
  | _ :: _ :: _, [_], h => exact h.2.elim
  | _ :: _ :: _ :: _, [_, _], h => exact h.2.2.elim
  | [_, _], _ :: _ :: _ :: _, h => exact h.2.2.elim
  | _ :: _ :: _ :: _, _ :: _ :: _ :: _, h => exact h.2.2.elim

theorem val_str {w : World} {Pr : Nat → Prop} {v : Value} {s : List UInt8} {bs : List Nat} (h : ValOk w Pr v .str .b s bs) : v = strV s := by
  obtain ⟨cs, rfl, h, _⟩ := h
  rw [h]; rfl

/-- Whether a byte is in a string. -/
def containsF (s sub : List UInt8) : Option (PVs [.bool] × PVs []) :=
  match sub with
  | [c] => some ((s.contains c, ()), ())
  | _ => none

theorem contains_ok {ρ : Ren} (L : Lays.n144 P ρ) : FnOk g P (ρ.f 144) ⟨[(.bor, .str), (.bor, .str)], [(.bool, .b)], fun x => containsF x.1 x.2.1⟩ := by
  refine fnOk_look ⟨_, L.f144, rfl, by rfl⟩ rfl (fun h => ?_) fun w Pr vs xs bss r h hF => ?_
  · obtain ⟨v1, v2, rfl, rfl, _, _⟩ := bor2 h
    exact ⟨rfl, fun r => ⟨rfl, rfl, trivial⟩⟩
  · obtain ⟨v1, v2, rfl, rfl, h1, h2⟩ := bor2 h
    obtain rfl := val_str h1
    obtain rfl := val_str h2
    obtain ⟨s, sub, _⟩ := xs
    dsimp only at hF
    unfold containsF at hF
    split at hF
    · rename_i c
      obtain rfl := Option.some.inj hF
      refine (Any.strings_Contains_one L ⟨⟨s⟩⟩ c w).mono fun e w' ⟨e1, e2⟩ => ⟨⟨[.bool (s.contains c)], by rw [e1, Lib.contains_iff_indexByte]; rfl, ⟨[], [], List.Perm.refl _, .inr ⟨[.bool (s.contains c)], rfl, rfl, rfl⟩, rfl⟩⟩, e2⟩
    · cases hF
end
end Go.Dn
end

section
/- A function that asks whether a slice is nil: both answers lead to the same. -/
namespace Go.Dn

section
variable {P : Program}

/-- How a function's code ends. -/
def finX (cx : Cx) (off : Nat) (ts : List ResultVar) (ps : List (Mode × Ty)) (rs : List (Ty × Ow)) (t : Xt) (E : Env) : Option (PVs (rs.map (·.1)) × PVs (backs ps)) :=
  match t with
  | .normal => finishK cx off ts ps rs E
  | .ret => finishK cx off ts ps rs E
  | .exit _ => none

theorem fnOk_of_wp {cx : Cx} {k : FuncId} {fn : Func} {c : Code} {ts : List ResultVar} {ct : Ct} (hok : Ok0 P cx)
    (hf : P.funcs[k]? = some fn) (hb : fn.body = some c) (hn : (fn.name == "runtime.NumGoroutine") = false) (hres : fn.results = ts.toArray) (hunit : (ct.rets.all fun q => !q.1.isUnit) = true)
    (hwp : ∀ {w0 : World} {Pr M : Nat → Prop} {outer : List Value} {a : Act} {w : World} {xs : PVs (ct.pars.map (·.2))} {r : PVs (ct.rets.map (·.1)) × PVs (backs ct.pars)} {Q : Exit → Act → World → Prop},
      GlOk cx.gl w0 Pr M → ct.F xs = some r → outer.length = outN ct.pars → Sx w0 Pr M outer [] (initE ct.pars xs fn.ntmps) a w → (∀ x E' a' w', finX cx (outN ct.pars) ts ct.pars ct.rets x E' = some r → Sx w0 Pr M outer [] E' a' w' → Q x.to a' w') → c.wp P Q a w) : FnOk cx.gl P k ct := by
  refine ⟨hunit, fun w Pr vs xs bss r hpl hargs hnd hfr hgo hgd hr => ⟨⟨fn, hf, by rw [hb]; rfl, hn⟩, ?_⟩⟩
  obtain ⟨l1, l2, l3, l4, l5, l6⟩ := arg_len hargs
  refine calls_of_wp hf hb ?_
  have hst := init_ok (n := fn.ntmps) hpl hargs hnd hfr
  have hsx : Sx w Pr (fun b => b ∈ bss.flatten) (outerV ct.pars vs) [] (initE ct.pars xs fn.ntmps) { tmps := vs.toArray ++ Array.replicate (fn.ntmps - vs.toArray.size) undef, defers := [] } w := by
    refine ⟨?_, rfl⟩
    simp only [Array.toList_append, Array.toList_replicate, List.size_toArray, l4]
    exact hst
  have fin : ∀ (E' : Env) (a' : Act) (w' : World), finishK cx (outerV ct.pars vs).length ts ct.pars ct.rets E' = some r → Sx w Pr (fun b => b ∈ bss.flatten) (outerV ct.pars vs) [] E' a' w' →
      a'.defers = [] ∧ ∃ v, (results fn a'.tmps).run P w' = .ok v w' ∧ ∃ (rv : List Value) (Pr' : Nat → Prop) (bv : List Nat) (bms : List (List Nat)), Ending.returned v = .returned (retValue rv) ∧ TupOk w' Pr' (retList ct.rets r.1) rv bv ∧ BacksOk w' Pr' ct.pars vs r.2 bms ∧
      (bv ++ bms.flatten).Nodup ∧ (∀ b ∈ bv ++ bms.flatten, (b ∈ bss.flatten ∨ w.heap.size ≤ b) ∧ ¬ Pr' b ∧ b < w'.heap.size) ∧ (∀ b, Pr b → Pr' b) ∧
      (∀ b, Pr' b → Pr b ∨ (b ∈ bss.flatten ∨ w.heap.size ≤ b) ∧ b < w'.heap.size) ∧ w'.os = w.os ∧ w'.tape = w.tape ∧ w'.output = w.output ∧ w.heap.size ≤ w'.heap.size ∧
      (∀ b, b < w.heap.size → b ∉ bss.flatten → w'.heap[b]? = w.heap[b]?) := by
    intro E' a' w' hfin hx
    unfold finishK at hfin
    split at hfin
    · rename_i z E2 ht
      split at hfin
      · rename_i bk hbk
        obtain rfl := Option.some.inj hfin
        obtain ⟨Pr2, B2, h2, hN2⟩ := (hx.st.wkE (l := wkR (outerV ct.pars vs).length ts ct.rets))
        obtain ⟨B3, bv, rv, k1, k2, k3, k0, k4, k5, k6⟩ := takeR_ok hok.tab (hx.fr) h2 (Nat.le_refl _) hN2 ht
        obtain ⟨bms, m1, m2, m3⟩ := backs_ok k1 (j := 0) l4 (fun i v hv => by
          rw [Nat.zero_add, List.getElem?_append_left (List.getElem?_eq_some_iff.1 hv).1]; exact hv) hbk
        have hlt : outN ct.pars ≤ E2.length := by
          have := k1.len
          simp only [List.length_append] at this
          omega
        have hmem : ∀ b ∈ bv ++ bms.flatten, ∃ k, b ∈ B3 k := fun b hb => by
          rcases List.mem_append.1 hb with hb | hb
          · obtain ⟨k, _, h⟩ := k6 b hb; exact ⟨k, h⟩
          · obtain ⟨k, _, _, h⟩ := m3 b hb; exact ⟨k, h⟩
        refine ⟨hx.ds, _, results_list hres k0, rv, Pr2, bv, bms, rfl, k4, m1, ?_, fun b hb => ?_, k1.pr0, fun b hb => ?_, k1.os, k1.tape, k1.output, k1.size, fun b hb hnb => k1.frame b hb hnb⟩
        · refine List.nodup_append.2 ⟨k5, m2, fun x hx y hy hxy => ?_⟩
          subst hxy
          obtain ⟨k, q1, q2⟩ := k6 x hx
          obtain ⟨k', p1, p2, p3⟩ := m3 x hy
          exact k1.disj k k' (by omega) x q2 p3
        · obtain ⟨k, hk⟩ := hmem b hb
          obtain ⟨q1, q2, q3⟩ := k1.free k b hk
          exact ⟨q1.symm, q2, q3⟩
        · rcases k1.prnew b hb with q | q | q
          · exact .inl q
          · exact .inr ⟨.inr q, k1.prlt b hb⟩
          · exact .inr ⟨.inl q, k1.prlt b hb⟩
      · cases hfin
    · cases hfin
  refine hwp ⟨hgo, fun b hb => ⟨hgd b hb, hpl b (hgd b hb), fun hm => (hfr b hm).1 (hgd b hb)⟩⟩ hr l2 hsx fun x E' a' w' hk hx => ?_
  cases x with
  | normal => exact fin E' a' w' (l2 ▸ hk) hx
  | ret => exact fin E' a' w' (l2 ▸ hk) hx
  | exit id => cases hk

theorem eqlnil_wp {w0 : World} {Pr0 M : Nat → Prop} {outer : List Value} {ds : List Deferred} {E : Env} {a : Act} {w : World} {o : Oper} {t3 t4 : Tmp} {ts e : TypeId} {A : Option Addr} {l c : Nat} (hx : Sx w0 Pr0 M outer ds E a w)
    (hop : o.op = .binOp .eql ts (.tmp t3) (.const (.slice none 0 0)) ts) (hd : o.dst = some t4) (hts : P.underlying ts = some (.slice e)) (hv : a.eval (.tmp t3) = .slice A l c) (next : Act → World → Prop) (Q : Exit → Act → World → Prop)
    (hn : ∀ a' w', Sx w0 Pr0 M outer ds (putE outer.length (some t4) ⟨.val .bool .b A.isNone, E, []⟩) a' w' → next a' w') : o.wp P a w next Q := by
  obtain ⟨⟨Pr, B, hst, hN⟩, hds⟩ := hx
  have hf : Fr outer.length (outer ++ a.tmps.toList) a := ⟨outer, rfl, rfl⟩
  have hr : (execOp a.eval o).run P w = .ok (.value (.bool A.isNone)) w := by
    have hb : (binOp .eql ts (.slice A l c) (.slice none 0 0)).run P w = .ok (.bool A.isNone) w := by
      simp only [binOp, Sem.run_bind, run_equal_slice_nil w ts e A l c hts, Result.andThen_ok]
      rfl
    have hg : (eqGuard .eql ts (.tmp t3) (.const (.slice none 0 0)) (.slice A l c) (.slice none 0 0)).run P w = .ok () w := by rw [eqGuard_at_slice]; rfl
    have hc : a.eval (.const (.slice none 0 0)) = .slice none 0 0 := rfl
    simp [execOp, hop, hv, hc, hg, hb]
  have hg := (good_scal (P := P) (o := o) hst hN (s := .val .bool .b A.isNone) (v := .bool A.isNone) (.bool _) hr).does
  refine Oper.wp_mono ?_ (hg Q)
  rintro a' w' ⟨v, rfl, hlen, hh⟩
  have := Hand.putZ (dst := some t4) (z := ⟨.val .bool .b A.isNone, appU E [], [].map U.ix⟩) hh
  exact hn _ _ ⟨by rw [hd]; exact this, by rw [put_defers, hds]⟩

theorem op_once {cx : Cx} {rc : Rc} {w0 : World} {Pr0 M : Nat → Prop} {outer : List Value} {ds : List Deferred} {E : Env} {a : Act} {w : World} {o : Oper} {z : Zv} (hok : Ok P cx rc w0 Pr0 M) (hx : Sx w0 Pr0 M outer ds E a w)
    (h : opK cx rc E outer.length o some = some z) (next : Act → World → Prop) (Q : Exit → Act → World → Prop) (hn : ∀ a' w', Sx w0 Pr0 M outer ds (putE outer.length o.dst z) a' w' → next a' w') : o.wp P a w next Q :=
  opK_ok hok hx h next Q fun z' a' w' hz hx' => by
    obtain rfl := Option.some.inj hz
    exact hn a' w' hx'

/-- A function that copies a slice, nil into nil. -/
theorem fnOk_nil {cx : Cx} {pl : Plan} {dp : Nat} {k : FuncId} {fn : Func} {i0 i1 : Nat} {o0 o1 o2 : Oper} {X Y : Code} {t3 t4 : Tmp} {ts te : TypeId} {T : Ty} {rets : List (Ty × Ow)} {rvs : List ResultVar} {F : PV (.slice te T) → Option (PVs (rets.map (·.1)) × PVs [])}
    {E1 : PV (.slice te T) → Env} {z1 : PV (.slice te T) → Zv} (hok : Ok0 P cx) (hf : P.funcs[k]? = some fn)
    (hb : fn.body = some (.seq (.region i0 #[o0] false) (.seq (.seq (.region i1 #[o1, o2] false) (.cond (.tmp t4) X .skip)) Y)))
    (hnm : (fn.name == "runtime.NumGoroutine") = false) (hres : fn.results = rvs.toArray) (hunit : (rets.all fun q => !q.1.isUnit) = true)
    (hg1 : o1.guard = none) (hg2 : o2.guard = none) (hop : o2.op = .binOp .eql ts (.tmp t3) (.const (.slice none 0 0)) ts) (hd : o2.dst = some t4) (hts : P.underlying ts = some (.slice te))
    (hlo : LoopsOk cx (rcN cx dp) pl 0 (.cond (.tmp t4) X .skip) ∧ LoopsOk cx (rcN cx dp) pl 0 Y)
    (h0 : ∀ x, regionK cx (rcN cx dp) 0 #[o0] false (initE [(.bor, .slice te T)] (x, ()) fn.ntmps) some = some (E1 x))
    (h1 : ∀ x, opK cx (rcN cx dp) (E1 x) 0 o1 some = some (z1 x))
    (h3 : ∀ x, ((putE 0 o1.dst (z1 x)).at t3).s = .val (.slice te T) .b x)
    (hff : ∀ x, denK cx (rcN cx dp) pl 0 (.cond (.tmp t4) X .skip) (putE 0 (some t4) ⟨.val .bool .b false, putE 0 o1.dst (z1 x), []⟩) (fun t E => match t with
      | .normal => denK cx (rcN cx dp) pl 0 Y E (finX cx 0 rvs [(.bor, .slice te T)] rets)
      | t => finX cx 0 rvs [(.bor, .slice te T)] rets t E) = F x)
    (hft : denK cx (rcN cx dp) pl 0 (.cond (.tmp t4) X .skip) (putE 0 (some t4) ⟨.val .bool .b true, putE 0 o1.dst (z1 ([] : List (PV T))), []⟩) (fun t E => match t with
      | .normal => denK cx (rcN cx dp) pl 0 Y E (finX cx 0 rvs [(.bor, .slice te T)] rets)
      | t => finX cx 0 rvs [(.bor, .slice te T)] rets t E) = F ([] : List (PV T))) : FnOk cx.gl P k ⟨[(.bor, .slice te T)], rets, fun x => F x.1⟩ := by
  have hnat := rcN_nat cx dp
  refine fnOk_of_wp (cx := cx) hok hf hb hnm hres hunit ?_
  intro w0 Pr M outer a w xs r Q hgl hF hlen hx hfin
  have hk := hok.ok dp hgl
  obtain rfl : outer = [] := List.eq_nil_of_length_eq_zero hlen
  obtain ⟨x, u⟩ := xs
  cases u
  refine wp_seq (regionK_ok (outer := []) hk hnat (h0 x) hx fun E a1 w1 hE hx1 => ?_)
  obtain rfl := Option.some.inj hE
  refine wp_seq (wp_seq (wp_region ?_))
  rw [show (List.range (#[o1, o2] : Array Oper).size) = List.range' 0 2 from by rw [← List.range_eq_range']; rfl]
  simp only [List.range'_succ, List.range'_zero]
  rw [wpOps_cons]
  unfold wpOp
  rw [show (#[o1, o2] : Array Oper)[0]? = some o1 from rfl]
  simp only
  rw [show Region.wanted o1 (yielded #[o1, o2] a1.tmps) = true from by unfold Region.wanted; rw [hg1]]
  refine .inl (op_once (outer := []) hk hx1 (h1 x) _ _ fun a2 w2 hx2 => ?_)
  rw [wpOps_cons]
  unfold wpOp
  rw [show (#[o1, o2] : Array Oper)[0 + 1]? = some o2 from rfl]
  simp only
  rw [show Region.wanted o2 (yielded #[o1, o2] a2.tmps) = true from by unfold Region.wanted; rw [hg2]]
  -- what is asked
  have hval : ∃ A c, a2.eval (.tmp t3) = .slice A (List.length (α := PV T) x) c ∧ (A = none → x = ([] : List (PV T))) := by
    obtain ⟨⟨Pr', B, hst, hN⟩, hds⟩ := id hx2
    have hso := opdOk_tmp hst (opd_ok hst hx2.fr (.tmp t3)) (k := 0 + t3) rfl
    have hso : SlotOk w2 Pr' _ _ B (0 + t3) ((putE 0 o1.dst (z1 x)).at (0 + t3)).s (a2.eval (.tmp t3)) := hso
    rw [Nat.zero_add, h3 x] at hso
    obtain ⟨cs, q1, q2⟩ := hso
    obtain ⟨q3, A, c, rfl, q4, q5⟩ := rep_bor.1 q2
    refine ⟨A, c, by rw [q1]; rfl, fun hA => ?_⟩
    rcases q5 with q5 | ⟨a, ys, q5, _⟩
    · exact q5
    · rw [hA] at q5; cases q5
  obtain ⟨A, c, hv, hA⟩ := hval
  refine .inl (eqlnil_wp (outer := []) hx2 hop hd hts hv _ _ fun a3 w3 hx3 => ?_)
  have hden : denK cx (rcN cx dp) pl 0 (.cond (.tmp t4) X .skip) (putE 0 (some t4) ⟨.val .bool .b A.isNone, putE 0 o1.dst (z1 x), []⟩) (fun t E => match t with
      | .normal => denK cx (rcN cx dp) pl 0 Y E (finX cx 0 rvs [(.bor, .slice te T)] rets)
      | t => finX cx 0 rvs [(.bor, .slice te T)] rets t E) = some r := by
    cases A with
    | some a => exact (hff x).trans hF
    | none =>
      obtain rfl := hA rfl
      exact hft.trans hF
  show (Code.cond (.tmp t4) X .skip).wp P _ a3 w3
  refine denK_ok (outer := []) hk hnat _ hlo.1 hden hx3 fun t E' a' w' hkk hx' => ?_
  cases t with
  | normal => exact denK_ok (outer := []) hk hnat Y hlo.2 hkk hx' fun t E' a' w' hk' hx'' => hfin t E' a' w' hk' hx''
  | ret => exact hfin .ret E' a' w' hkk hx'
  | exit id => exact hfin (.exit id) E' a' w' hkk hx'

/-- The environment ahead of the question. -/
noncomputable def nilE (cx : Cx) (dp n : Nat) (te : TypeId) (T : Ty) (o0 o1 : Oper) (x : PV (.slice te T)) : Env :=
  putE 0 o1.dst ((opK cx (rcN cx dp) ((regionK cx (rcN cx dp) 0 #[o0] false (initE [(.bor, .slice te T)] (x, ()) n) some).getD []) 0 o1 some).getD (deadZ []))

noncomputable def nilD (cx : Cx) (pl : Plan) (dp n : Nat) (te : TypeId) (T : Ty) (rets : List (Ty × Ow)) (rvs : List ResultVar) (o0 o1 : Oper) (X Y : Code) (t4 : Tmp) (b : Bool) (x : PV (.slice te T)) : Option (PVs (rets.map (·.1)) × PVs []) :=
  denK cx (rcN cx dp) pl 0 (.cond (.tmp t4) X .skip) (putE 0 (some t4) ⟨.val .bool .b b, nilE cx dp n te T o0 o1 x, []⟩) (fun t E => match t with
      | .normal => denK cx (rcN cx dp) pl 0 Y E (finX cx 0 rvs [(.bor, .slice te T)] rets)
      | t => finX cx 0 rvs [(.bor, .slice te T)] rets t E)

theorem fnOk_nil' {cx : Cx} {pl : Plan} {dp : Nat} {k : FuncId} {fn : Func} {i0 i1 : Nat} {o0 o1 o2 : Oper} {X Y : Code} {t3 t4 : Tmp} {ts te : TypeId} {T : Ty} {rets : List (Ty × Ow)} {rvs : List ResultVar} {F : PV (.slice te T) → Option (PVs (rets.map (·.1)) × PVs [])}
    (hok : Ok0 P cx) (hf : P.funcs[k]? = some fn)
    (hb : fn.body = some (.seq (.region i0 #[o0] false) (.seq (.seq (.region i1 #[o1, o2] false) (.cond (.tmp t4) X .skip)) Y)))
    (hnm : (fn.name == "runtime.NumGoroutine") = false) (hres : fn.results = rvs.toArray) (hunit : (rets.all fun q => !q.1.isUnit) = true)
    (hg1 : o1.guard = none) (hg2 : o2.guard = none) (hop : o2.op = .binOp .eql ts (.tmp t3) (.const (.slice none 0 0)) ts) (hd : o2.dst = some t4) (hts : P.underlying ts = some (.slice te))
    (hlo : LoopsOk cx (rcN cx dp) pl 0 (.cond (.tmp t4) X .skip) ∧ LoopsOk cx (rcN cx dp) pl 0 Y)
    (h0 : ∀ x : PV (.slice te T), (regionK cx (rcN cx dp) 0 #[o0] false (initE [(.bor, .slice te T)] (x, ()) fn.ntmps) some).isSome = true)
    (h1 : ∀ x : PV (.slice te T), (opK cx (rcN cx dp) ((regionK cx (rcN cx dp) 0 #[o0] false (initE [(.bor, .slice te T)] (x, ()) fn.ntmps) some).getD []) 0 o1 some).isSome = true)
    (h3 : ∀ x, ((nilE cx dp fn.ntmps te T o0 o1 x).at t3).s = .val (.slice te T) .b x)
    (hff : ∀ x, nilD cx pl dp fn.ntmps te T rets rvs o0 o1 X Y t4 false x = F x)
    (hft : nilD cx pl dp fn.ntmps te T rets rvs o0 o1 X Y t4 true ([] : List (PV T)) = F ([] : List (PV T))) : FnOk cx.gl P k ⟨[(.bor, .slice te T)], rets, fun x => F x.1⟩ :=
  fnOk_nil (E1 := fun x => (regionK cx (rcN cx dp) 0 #[o0] false (initE [(.bor, .slice te T)] (x, ()) fn.ntmps) some).getD [])
    (z1 := fun x => (opK cx (rcN cx dp) ((regionK cx (rcN cx dp) 0 #[o0] false (initE [(.bor, .slice te T)] (x, ()) fn.ntmps) some).getD []) 0 o1 some).getD (deadZ []))
    hok hf hb hnm hres hunit hg1 hg2 hop hd hts hlo (fun x => by
    obtain ⟨y, hy⟩ := Option.isSome_iff_exists.1 (h0 x)
    rw [hy]; rfl) (fun x => by
    obtain ⟨y, hy⟩ := Option.isSome_iff_exists.1 (h1 x)
    rw [hy]; rfl) h3 hff hft
end
end Go.Dn
end

section
/- Numbers as texts: strconv.Itoa by the library's own contract; functions that call themselves. -/
namespace Go.Dn
open Go.Shelf Go.Proofs

section
variable {P : Program} {g : Glob}

/-- A function that calls itself: told at every depth, told whole. -/
theorem fnOk_fuel {k : FuncId} {pars : List (Mode × Ty)} {rets : List (Ty × Ow)} {Fs : Nat → PVs (pars.map (·.2)) → Option (PVs (rets.map (·.1)) × PVs (backs pars))} {N : PVs (pars.map (·.2)) → Nat}
    (h : ∀ n, FnOk g P k ⟨pars, rets, Fs n⟩) : FnOk g P k ⟨pars, rets, fun x => Fs (N x) x⟩ :=
  ⟨(h 0).1, fun w Pr vs xs bss r a1 a2 a3 a4 a5 a6 hr => (h (N xs)).2 w Pr vs xs bss r a1 a2 a3 a4 a5 a6 hr⟩

theorem fnOk_none {k : FuncId} {pars : List (Mode × Ty)} {rets : List (Ty × Ow)} (h : (rets.all fun q => !q.1.isUnit) = true) : FnOk g P k ⟨pars, rets, fun _ => none⟩ :=
  ⟨h, fun _ _ _ _ _ _ _ _ _ _ _ _ hr => by cases hr⟩

theorem bor1 {t1 : Ty} {w : World} {Pr : Nat → Prop} {vs : List Value} {xs : PVs [t1]} {bss : List (List Nat)} (h : ArgsOk w Pr [(.bor, t1)] vs xs bss) :
    ∃ v1, vs = [v1] ∧ bss = [[]] ∧ ValOk w Pr v1 t1 .b xs.1 [] := by
  match vs, bss, h with
  | [v1], [b1], ⟨⟨h1, h2⟩, _⟩ =>
    cases h2
    exact ⟨v1, rfl, rfl, h1⟩
  | [], [], h => exact h.elim
  | [], _ :: _, h => exact h.elim
  | _ :: _, [], h => exact h.elim
  | [_], _ :: _ :: _, h => exact h.2.elim
  | _ :: _ :: _, [_], h => exact h.2.elim
  | _ :: _ :: _, _ :: _ :: _, h => exact h.2.elim

theorem val_int {w : World} {Pr : Nat → Prop} {k : IntKind} {v : Value} {n : Int} {bs : List Nat} (h : ValOk w Pr v (.int k) .b n bs) : v = .int k n := by
  obtain ⟨cs, rfl, h, _⟩ := h
  rw [h]; rfl

/-- The table that strconv reads. -/
def tabGlob (P : Program) (G : Nat) : Glob where
  dom b := b = G
  ok w := P.globalNamed "internal/strconv.uint64pow10" = some G ∧ Lib.TabIs P w "internal/strconv.uint64pow10" .u64 Lib.pow10Tab
  stable w w' h hb := ⟨h.1, by
    have e := hb G rfl
    have h2 := h.2
    unfold Lib.TabIs World.var? at h2 ⊢
    rw [h.1] at h2 ⊢
    simp only [Option.bind_some] at h2 ⊢
    rw [e]
    exact h2⟩
  strs := []
  strs_ok _ _ _ h := by cases h

theorem tabGlob_dom {G : Nat} {w : World} (h : (tabGlob P G).ok w) : ∀ b, (tabGlob P G).dom b → b < w.heap.size := by
  rintro b rfl
  have h2 := h.2
  unfold Lib.TabIs World.var? at h2
  rw [h.1] at h2
  simp only [Option.bind_some] at h2
  split at h2
  · rename_i hq
    exact (Array.getElem?_eq_some_iff.1 hq).1
  · cases h2

theorem tabGlob_tab {G : Nat} : ∀ w, (tabGlob P G).ok w → Lib.TabIs P w "internal/strconv.uint64pow10" .u64 Lib.pow10Tab := fun _ h => h.2

def itoaF (n : Int) : Option (PVs [.str] × PVs []) := bif decide (-9223372036854775808 ≤ n) && decide (n ≤ 9223372036854775807) then some ((Lib.itoa n, ()), ()) else none

theorem itoa_ok (hg : ∀ w, g.ok w → Lib.TabIs P w "internal/strconv.uint64pow10" .u64 Lib.pow10Tab) {ρ : Ren} (L : LaysM.n171 P ρ) : FnOk g P (ρ.f 171) ⟨[(.bor, .int .i64)], [(.str, .b)], fun x => itoaF x.1⟩ := by
  refine ⟨rfl, fun w Pr vs xs bss r hpl hargs hnd hfr hgo hgd hr => ⟨⟨_, L.f171, rfl, by rfl⟩, ?_⟩⟩
  obtain ⟨v1, rfl, rfl, h1⟩ := bor1 hargs
  obtain rfl := val_int h1
  obtain ⟨n, _⟩ := xs
  dsimp only at hr
  unfold itoaF at hr
  simp only [Bool.cond_eq_ite, Bool.and_eq_true, decide_eq_true_eq] at hr
  split at hr
  · rename_i hc
    obtain rfl := Option.some.inj hr
    refine (Any.strconv_Itoa L n hc.1 hc.2 w (hg w hgo)).mono fun e w' ⟨e1, k, os, e2⟩ => ?_
    subst e2
    refine ⟨[.string ⟨(Lib.itoa n).toArray⟩], Pr, [], [[]], by rw [e1]; rfl, ⟨[], [], List.Perm.refl _, .inr ⟨[.string ⟨(Lib.itoa n).toArray⟩], rfl, rfl, rfl⟩, rfl⟩, ⟨rfl, trivial⟩, by simp, fun b hb => by simp at hb, fun b hb => hb, fun b hb => .inl hb, rfl, rfl, rfl, ?_, fun b hb _ => ?_⟩
    · show w.heap.size ≤ (w.heap ++ os).size
      simp
    · show (w.heap ++ os)[b]? = _
      rw [Array.getElem?_append_left hb]
  · cases hr
end
end Go.Dn
end

section
/- A law's row where package-level variables are laid. -/
namespace Go.Dn
open Go.ChangeShapes Go.WideShapes Go.ChangeAt Go.RowKit

end Go.Dn
end

section
/- strings.Join and slices.Grow, by the library's own contracts. -/
namespace Go.Dn
open Go.Shelf Go.Proofs Go.RowKit

section
variable {P : Program} {g : Glob}

theorem repL_strs {w : World} {Pr : Nat → Prop} {o : Ow} : ∀ {xs : List (List UInt8)} {ys : List Value} {bs : List Nat}, RepL (Rep w Pr .str o) ys xs bs → ys = xs.map strV
  | [], _, _, h => h.1
  | x :: xs, _, _, h => by
    obtain ⟨c1, c2, b1, b2, e1, e2, h1, h2⟩ := h
    rw [e1, h1.1, repL_strs h2]; rfl

theorem spot_none {w : World} {a : Addr} {v : Value} (h : w.cell? a = some v) : a = ⟨a.block, a.off, none⟩ := by
  obtain ⟨b, o, s⟩ := a
  cases s with
  | none => rfl
  | some s =>
    simp only [World.cell?] at h
    split at h
    · simp at h
    · cases h

theorem cell_below {w : World} {a : Addr} {v : Value} (h : w.cell? a = some v) : a.block < w.heap.size := World.block_lt_of_cell? _ _ h

/-- All texts behind one another. -/
def joinF (xs : List (List UInt8)) (sep : List UInt8) : Option (PVs [.str] × PVs []) :=
  bif decide ((Lib.join xs sep).length ≤ 1099511627776) && decide (xs.length ≤ 1099511627776) then some ((Lib.join xs sep, ()), ()) else none

theorem map_bytes (xs : List (List UInt8)) : (xs.map fun l => (⟨⟨l⟩⟩ : ByteArray)).map (·.data.toList) = xs := by
  rw [List.map_map]
  exact List.map_id'' (fun _ => rfl) xs

theorem join_ok {ρ : Ren} {te : TypeId} (L : Lays.n156 P ρ) (X : Builder.Extra P ρ) : FnOk g P (ρ.f 156) ⟨[(.bor, .slice te .str), (.bor, .str)], [(.str, .b)], fun x => joinF x.1 x.2.1⟩ := by
  refine ⟨rfl, fun w Pr vs xs bss r hpl hargs hnd hfr hgo hgd hr => ⟨⟨_, L.f156, rfl, by rfl⟩, ?_⟩⟩
  obtain ⟨v1, v2, rfl, rfl, h1, h2⟩ := bor2 hargs
  obtain rfl := val_str h2
  obtain ⟨xs, sep, u⟩ := xs
  dsimp only at hr h1 h2
  unfold joinF at hr
  simp only [Bool.cond_eq_ite, Bool.and_eq_true, decide_eq_true_eq] at hr
  split at hr
  · rename_i hc
    obtain rfl := Option.some.inj hr
    obtain ⟨cs, rfl, hrep⟩ := h1
    obtain ⟨_, A, c, rfl, hle, hor⟩ := rep_bor.1 hrep
    have fin : ∀ (e : Ending) (w' : World), (e = .returned (.string ⟨(Lib.join xs sep).toArray⟩) ∧ Below w.heap.size w w') → ∃ (rv : List Value) (Pr' : Nat → Prop) (bv : List Nat) (bms : List (List Nat)), e = .returned (retValue rv) ∧ TupOk w' Pr' (retList [(.str, .b)] (Lib.join xs sep, ())) rv bv ∧ BacksOk w' Pr' [(.bor, .slice te .str), (.bor, .str)] [pack (.slice te .str) [.slice A (List.length (α := List UInt8) xs) c], strV sep] () bms ∧
        (bv ++ bms.flatten).Nodup ∧ (∀ b ∈ bv ++ bms.flatten, (b ∈ ([[], []] : List (List Nat)).flatten ∨ w.heap.size ≤ b) ∧ ¬ Pr' b ∧ b < w'.heap.size) ∧ (∀ b, Pr b → Pr' b) ∧
        (∀ b, Pr' b → Pr b ∨ (b ∈ ([[], []] : List (List Nat)).flatten ∨ w.heap.size ≤ b) ∧ b < w'.heap.size) ∧ w'.os = w.os ∧ w'.tape = w.tape ∧ w'.output = w.output ∧ w.heap.size ≤ w'.heap.size ∧
        (∀ b, b < w.heap.size → b ∉ ([[], []] : List (List Nat)).flatten → w'.heap[b]? = w.heap[b]?) := by
      rintro e w' ⟨rfl, hb⟩
      exact ⟨[strV (Lib.join xs sep)], Pr, [], [[], []], rfl, ⟨[], [], List.Perm.refl _, .inr ⟨[strV (Lib.join xs sep)], rfl, rfl, rfl⟩, rfl⟩, ⟨rfl, rfl, trivial⟩, by simp, fun b hb => by simp at hb, fun b hb => hb, fun b hb => .inl hb, hb.os, hb.tape, hb.output, hb.size, fun b h _ => hb.block b h⟩
    have hcase : xs = [] ∨ ∃ a ys, A = some a ∧ xs ≠ [] ∧ Cells w a ys ∧ RepL (Rep w Pr .str .b) ys xs [] := by
      rcases hor with h | ⟨a, ys, q1, _, q3, q4⟩
      · exact .inl h
      · cases xs with
        | nil => exact .inl rfl
        | cons x xs => exact .inr ⟨a, ys, q1, by simp, q3, q4⟩
    rcases hcase with rfl | ⟨a, ys, rfl, hne, hcl, hrl⟩
    · refine (Any.strings_Join_none L X A c ⟨⟨sep⟩⟩ w).mono fun e w' ⟨e1, e2⟩ => ?_
      subst e2
      exact fin e w' ⟨by rw [e1]; rfl, Below.refl _ _⟩
    · obtain rfl := repL_strs hrl
      have hcell : ∀ (j : Nat) (x : List UInt8), xs[j]? = some x → w.cell? (a.add j) = some (strV x) := fun j x hj => hcl j _ (by simp [hj])
      obtain ⟨x0, xs0, rfl⟩ := List.exists_cons_of_ne_nil hne
      have h0 := hcell 0 x0 rfl
      have ha : a = ⟨a.block, a.off, none⟩ := spot_none (w := w) (v := strV x0) (by simpa [Addr.add] using h0)
      obtain ⟨bk, o, sp⟩ := a
      simp only [Addr.mk.injEq, true_and] at ha
      subst ha
      have key := Any.strings_Join L X bk o c ((x0 :: xs0).map fun l => ⟨⟨l⟩⟩) ⟨⟨sep⟩⟩ w (fun j x hj => by
        rw [List.getElem?_map, Option.map_eq_some_iff] at hj
        obtain ⟨y, hy, rfl⟩ := hj
        have := hcell j y hy
        have e0 : (⟨bk, o, none⟩ : Addr).add j = ⟨bk, o + j, none⟩ := by
          by_cases hz : j = 0 <;> simp [Addr.add, hz]
        rw [e0] at this
        exact this) (cell_below (by simpa [Addr.add] using h0)) (by rw [List.length_map]; have := hc.2; simp at this ⊢; omega) (by rw [List.length_map]; exact hle) (by rw [map_bytes]; have := hc.1; show (Lib.join (x0 :: xs0) sep).length ≤ _; omega)
      rw [map_bytes, List.length_map] at key
      exact key.mono fun e w' h => fin e w' h
  · cases hr

end
end Go.Dn
end

section
/- Go's library, more of it: pieces of a text, places in a text. -/
namespace Go.Dn
open Go.Shelf Go.Proofs Go.RowKit

/-! ### what is known of package-level variables, put together -/
def Glob.both (a b : Glob) : Glob where
  dom x := a.dom x ∨ b.dom x
  ok w := a.ok w ∧ b.ok w
  stable w w' h hb := ⟨a.stable w w' h.1 fun x hx => hb x (.inl hx), b.stable w w' h.2 fun x hx => hb x (.inr hx)⟩
  strs := a.strs ++ b.strs
  strs_ok w h q hq := by
    rcases List.mem_append.1 hq with hq | hq
    · obtain ⟨h1, h2⟩ := a.strs_ok w h.1 q hq; exact ⟨.inl h1, h2⟩
    · obtain ⟨h1, h2⟩ := b.strs_ok w h.2 q hq; exact ⟨.inr h1, h2⟩

/-- A number whose value does not matter. -/
def numGlob (G : Nat) : Glob where
  dom b := b = G
  ok w := ∃ m, w.cell? ⟨G, 0, none⟩ = some (.int .i64 m)
  stable w w' h hb := by
    obtain ⟨m, hm⟩ := h
    refine ⟨m, ?_⟩
    unfold World.cell? at hm ⊢
    rw [show (⟨G, 0, none⟩ : Addr).block = G from rfl] at hm ⊢
    rw [hb G rfl]
    exact hm
  strs := []
  strs_ok _ _ _ h := by cases h

theorem numGlob_dom {G : Nat} {w : World} (h : (numGlob G).ok w) : ∀ b, (numGlob G).dom b → b < w.heap.size := by
  rintro b rfl
  obtain ⟨m, hm⟩ := h
  exact cell_below hm

/-- An error that is one of the package's own. -/
def errGlob (P : Program) (name : String) (G : Nat) : Glob where
  dom b := b = G
  ok w := P.globalNamed name = some G ∧ ∃ tp p, w.var? P name = some #[.iface tp p]
  stable w w' h hb := ⟨h.1, by
    obtain ⟨tp, p, h2⟩ := h.2
    refine ⟨tp, p, ?_⟩
    unfold World.var? at h2 ⊢
    rw [h.1] at h2 ⊢
    simp only [Option.bind_some] at h2 ⊢
    rw [hb G rfl]
    exact h2⟩
  strs := []
  strs_ok _ _ _ h := by cases h

theorem errGlob_dom {P : Program} {name : String} {G : Nat} {w : World} (h : (errGlob P name G).ok w) : ∀ b, (errGlob P name G).dom b → b < w.heap.size := by
  rintro b rfl
  obtain ⟨h1, tp, p, h2⟩ := h
  unfold World.var? at h2
  rw [h1] at h2
  simp only [Option.bind_some] at h2
  split at h2
  · rename_i hq
    exact (Array.getElem?_eq_some_iff.1 hq).1
  · cases h2

/-- A row of texts. -/
def strGlob (G : Nat) (l : List (List UInt8)) : Glob where
  dom b := b = G
  ok w := ∃ T, w.heap[G]? = some (.cells (l.map strV).toArray T (0, 0))
  stable w w' h hb := by
    obtain ⟨T, h⟩ := h
    exact ⟨T, by rw [hb G rfl]; exact h⟩
  strs := [(G, l)]
  strs_ok w h q hq := by
    obtain rfl : q = (G, l) := by simpa using hq
    exact ⟨rfl, h⟩

theorem strGlob_dom {G : Nat} {l : List (List UInt8)} {w : World} (h : (strGlob G l).ok w) : ∀ b, (strGlob G l).dom b → b < w.heap.size := by
  rintro b rfl
  obtain ⟨T, h⟩ := h
  exact (Array.getElem?_eq_some_iff.1 h).1

section
variable {P : Program} {g : Glob}

/-- The first place of a text in another one, -1 where there is none. -/
def indexF (s sub : List UInt8) : Option (PVs [.int .i64] × PVs []) :=
  match sub with
  | [c] => some ((Lib.indexByte s c, ()), ())
  | _ => bif decide (s.length < 4294967281) then some ((Lib.index s sub, ()), ()) else none

theorem tup_int {w : World} {Pr : Nat → Prop} {k : IntKind} (n : Int) : TupOk w Pr (retList [(.int k, .b)] (n, ())) [.int k n] [] :=
  ⟨[], [], List.Perm.refl _, .inr ⟨[.int k n], rfl, rfl, rfl⟩, rfl⟩

theorem indexLite_ok {ρ : Ren} (hg : ∀ w, g.ok w → ∃ m, w.cell? ⟨ρ.g 1, 0, none⟩ = some (.int .i64 m)) (L : Lays.n219 P ρ) : FnOk g P (ρ.f 219) ⟨[(.bor, .str), (.bor, .str)], [(.int .i64, .b)], fun x => indexF x.1 x.2.1⟩ := by
  refine ⟨rfl, fun w Pr vs xs bss r hpl hargs hnd hfr hgo hgd hr => ⟨⟨_, L.f219, rfl, by rfl⟩, ?_⟩⟩
  obtain ⟨v1, v2, rfl, rfl, h1, h2⟩ := bor2 hargs
  obtain rfl := val_str h1
  obtain rfl := val_str h2
  obtain ⟨s, sub, u⟩ := xs
  dsimp only at hr
  have fin : ∀ (n : Int) (e : Ending) (w' : World), (e = .returned (.int .i64 n) ∧ w' = w) → ∃ (rv : List Value) (Pr' : Nat → Prop) (bv : List Nat) (bms : List (List Nat)), e = .returned (retValue rv) ∧ TupOk w' Pr' (retList [(.int .i64, .b)] (n, ())) rv bv ∧ BacksOk w' Pr' [(.bor, .str), (.bor, .str)] [strV s, strV sub] () bms ∧
      (bv ++ bms.flatten).Nodup ∧ (∀ b ∈ bv ++ bms.flatten, (b ∈ ([[], []] : List (List Nat)).flatten ∨ w.heap.size ≤ b) ∧ ¬ Pr' b ∧ b < w'.heap.size) ∧ (∀ b, Pr b → Pr' b) ∧
      (∀ b, Pr' b → Pr b ∨ (b ∈ ([[], []] : List (List Nat)).flatten ∨ w.heap.size ≤ b) ∧ b < w'.heap.size) ∧ w'.os = w.os ∧ w'.tape = w.tape ∧ w'.output = w.output ∧ w.heap.size ≤ w'.heap.size ∧
      (∀ b, b < w.heap.size → b ∉ ([[], []] : List (List Nat)).flatten → w'.heap[b]? = w.heap[b]?) := by
    rintro n e w' ⟨rfl, rfl⟩
    exact ⟨[.int .i64 n], Pr, [], [[], []], rfl, tup_int n, ⟨rfl, rfl, trivial⟩, by simp, fun b hb => by simp at hb, fun b hb => hb, fun b hb => .inl hb, rfl, rfl, rfl, Nat.le_refl _, fun b _ _ => rfl⟩
  unfold indexF at hr
  split at hr
  · rename_i c
    obtain rfl := Option.some.inj hr
    exact (Any.stringslite_Index_one L ⟨⟨s⟩⟩ c w).mono fun e w' h => fin _ e w' h
  · simp only [Bool.cond_eq_ite, decide_eq_true_eq] at hr
    split at hr
    · rename_i hc
      obtain rfl := Option.some.inj hr
      obtain ⟨m, hm⟩ := hg w hgo
      exact (Any.stringslite_Index L ⟨⟨s⟩⟩ ⟨⟨sub⟩⟩ m w hc hm).mono fun e w' h => fin _ e w' h
    · cases hr

/-- A text in pieces, each with the byte behind it. -/
def splitF (te : TypeId) (s sep : List UInt8) (sv n : Int) : Option (PVs [.slice te .str] × PVs []) :=
  match sep with
  | [c] => bif (sv == 1) && ((n == -1) && decide (s.length ≤ 1073741824)) then some ((Lib.splitK [c] 1 (s.count c) s, ()), ()) else none
  | _ => none

theorem bor4 {t1 t2 t3 t4 : Ty} {w : World} {Pr : Nat → Prop} {vs : List Value} {xs : PVs [t1, t2, t3, t4]} {bss : List (List Nat)} (h : ArgsOk w Pr [(.bor, t1), (.bor, t2), (.bor, t3), (.bor, t4)] vs xs bss) :
    ∃ v1 v2 v3 v4, vs = [v1, v2, v3, v4] ∧ bss = [[], [], [], []] ∧ ValOk w Pr v1 t1 .b xs.1 [] ∧ ValOk w Pr v2 t2 .b xs.2.1 [] ∧ ValOk w Pr v3 t3 .b xs.2.2.1 [] ∧ ValOk w Pr v4 t4 .b xs.2.2.2.1 [] := by
  cases vs with
  | nil => cases bss <;> exact h.elim
  | cons v1 vs =>
    cases bss with
    | nil => exact h.elim
    | cons b1 bss =>
      obtain ⟨⟨h1, e1⟩, h⟩ := h
      cases vs with
      | nil => cases bss <;> exact h.elim
      | cons v2 vs =>
        cases bss with
        | nil => exact h.elim
        | cons b2 bss =>
          obtain ⟨⟨h2, e2⟩, h⟩ := h
          cases vs with
          | nil => cases bss <;> exact h.elim
          | cons v3 vs =>
            cases bss with
            | nil => exact h.elim
            | cons b3 bss =>
              obtain ⟨⟨h3, e3⟩, h⟩ := h
              cases vs with
              | nil => cases bss <;> exact h.elim
              | cons v4 vs =>
                cases bss with
                | nil => exact h.elim
                | cons b4 bss =>
                  obtain ⟨⟨h4, e4⟩, h⟩ := h
                  cases vs with
                  | cons _ _ => cases bss <;> exact h.elim
                  | nil =>
                    cases bss with
                    | cons _ _ => exact h.elim
                    | nil =>
                      cases e1; cases e2; cases e3; cases e4
                      exact ⟨v1, v2, v3, v4, rfl, rfl, h1, h2, h3, h4⟩

theorem repL_of_strs {w : World} {Pr : Nat → Prop} {o : Ow} : ∀ (l : List (List UInt8)), RepL (Rep w Pr .str o) (l.map strV) l []
  | [] => ⟨rfl, rfl⟩
  | x :: l => ⟨[strV x], l.map strV, [], [], rfl, List.Perm.refl _, ⟨rfl, rfl⟩, repL_of_strs l⟩

theorem split_ok {ρ : Ren} {te : TypeId} (hte : ρ.t 9 = te) (L : Lays.n221 P ρ) (hi : (P.info? te).map (fun i => (i.zero, i.size, i.bytes)) = some (some (.string ByteArray.empty), 1, 16)) :
    FnOk g P (ρ.f 221) ⟨[(.bor, .str), (.bor, .str), (.bor, .int .i64), (.bor, .int .i64)], [(.slice te .str, .row .b)], fun x => splitF te x.1 x.2.1 x.2.2.1 x.2.2.2.1⟩ := by
  subst hte
  refine ⟨rfl, fun w Pr vs xs bss r hpl hargs hnd hfr hgo hgd hr => ⟨⟨_, L.f221, rfl, by rfl⟩, ?_⟩⟩
  obtain ⟨v1, v2, v3, v4, rfl, rfl, h1, h2, h3, h4⟩ := bor4 hargs
  obtain rfl := val_str h1
  obtain rfl := val_str h2
  obtain rfl := val_int h3
  obtain rfl := val_int h4
  obtain ⟨s, sep, sv, n, u⟩ := xs
  dsimp only at hr
  unfold splitF at hr
  split at hr
  · rename_i c
    simp only [Bool.cond_eq_ite, Bool.and_eq_true, beq_iff_eq, decide_eq_true_eq] at hr
    split at hr
    · rename_i hc
      obtain ⟨rfl, rfl, hlen⟩ := hc
      obtain rfl := Option.some.inj hr
      have hcount : s.count c ≤ s.length := List.count_le_length
      have hcB : Lib.countB ⟨⟨s⟩⟩ ⟨⟨[c]⟩⟩ = s.count c := Lib.count_one c s
      have hall := Lib.splitB_all (⟨⟨[c]⟩⟩ : ByteArray) (by show 1 ≤ 1; omega) 1 _ (⟨⟨s⟩⟩ : ByteArray) hcB
      have hdat := Lib.splitB_data (⟨⟨[c]⟩⟩ : ByteArray) 1 (s.count c) (⟨⟨s⟩⟩ : ByteArray)
      have hsz : (⟨⟨s⟩⟩ : ByteArray).size = s.length := rfl
      refine (Any.strings_genSplit_core L hi ⟨⟨s⟩⟩ ⟨⟨[c]⟩⟩ 1 (-1) (s.count c + 1) w (by rw [hsz]; omega) (by show 1 ≤ 1; omega) (by show 1 ≤ 1; omega)
        (fun x cs hx => by
          have := Any.strings_Index_one { L with } x c (w.alloc (.cells cs (ρ.t 9)))
          rw [← Lib.index_one] at this
          exact this)
        (by
          have := Any.strings_Count_one { L with } ⟨⟨s⟩⟩ c w
          rw [hcB]
          exact this) (by decide) (by decide) (by rw [if_pos (by decide), hcB, hsz]; omega)).mono fun e w' ⟨e1, e2⟩ => ?_
      rw [Nat.add_sub_cancel] at e1 e2
      have hpl2 : (Lib.splitK [c] 1 (s.count c) s).length = s.count c + 1 := by
        have := congrArg List.length hdat
        rw [List.length_map, hall] at this
        exact this.symm
      have hcells : Lib.cellsOf (Lib.splitB ⟨⟨[c]⟩⟩ 1 (s.count c) ⟨⟨s⟩⟩) (s.count c + 1) = ((Lib.splitK [c] 1 (s.count c) s).map strV).toArray := by
        rw [← hall, Lib.cellsOf_full]
        congr 1
        have e3 : Lib.splitK [c] 1 (s.count c) s = (Lib.splitB ⟨⟨[c]⟩⟩ 1 (s.count c) ⟨⟨s⟩⟩).map (·.data.toList) := hdat.symm
        rw [e3, List.map_map]
        rfl
      rw [hcells] at e2
      rw [hall] at e1
      subst e2
      have hnew : (w.alloc (.cells ((Lib.splitK [c] 1 (s.count c) s).map strV).toArray (ρ.t 9))).heap[w.heap.size]? = some (.cells ((Lib.splitK [c] 1 (s.count c) s).map strV).toArray (ρ.t 9) (0, 0)) := heap_alloc_new w _
      have hlt : w.heap.size < (w.alloc (.cells ((Lib.splitK [c] 1 (s.count c) s).map strV).toArray (ρ.t 9))).heap.size := (Array.getElem?_eq_some_iff.1 hnew).1
      refine ⟨[.slice (some ⟨w.heap.size, 0, none⟩) (s.count c + 1) (s.count c + 1)], Pr, [w.heap.size], [[], [], [], []], e1, ⟨[w.heap.size], [], by simp, .inr ⟨_, rfl, rep_row.2 ⟨_, (Lib.splitK [c] 1 (s.count c) s).map strV, [], rfl, ?_, by simp [Value.ownBlock], repL_of_strs _⟩⟩, rfl⟩, ⟨rfl, rfl, rfl, rfl, trivial⟩, by simp, fun b hb => ?_, fun b hb => hb, fun b hb => .inl hb, rfl, rfl, rfl, by omega, fun b hb _ => heap_alloc_ne w _ _ hb⟩
      · refine ⟨by simp [Ty.size], .inr ⟨w.heap.size, s.count c + 1, _, by rw [hpl2], Nat.zero_le _, hnew, by rw [hpl2]; exact Nat.le_refl _, by simp only [maxLen]; omega, by simp [hpl2, Ty.size], ?_⟩⟩
        rw [List.toList_toArray]
        exact List.take_of_length_le (by simp [Ty.size])
      · obtain rfl : b = w.heap.size := by simpa using hb
        exact ⟨.inr (Nat.le_refl _), fun hp => absurd (hpl _ hp) (by omega), hlt⟩
    · cases hr
  · cases hr
end
end Go.Dn
end

section
/- A law's row: package-level variables that are laid or named, and what a world's shape tells. -/
namespace Go.Dn
open Go.ChangeShapes Go.WideShapes Go.ChangeAt Go.RowKit

section
variable {P : Program} {W : World}

/-- A variable of the list. -/
theorem laid_mem : ∀ {l : List (String × DataW Unit)} {ps : List MemPlace} {n : String} {D : DataW Unit}, DataW.LaidVars P W l ps → (n, D) ∈ l →
    ∃ g t cs fuel p, P.globalNamed n = some g ∧ (P.globals[g]?).map (·.type) = some t ∧ W.var? P n = some cs ∧ DataW.trod (fun _ => ()) P W 0 (fun _ => true) false fuel t cs.toList = some (D, p) ∧ ∀ x ∈ MemPlace.row ⟨g, 0, none⟩ cs.size, x ∈ ps
  | (m, d) :: r, ps, n, D, ⟨g, t, cs, fuel, p, q, h1, h2, h3, h4, h5, e⟩, hm => by
    rcases List.mem_cons.1 hm with hm | hm
    · obtain ⟨rfl, rfl⟩ := Prod.mk.inj hm
      exact ⟨g, t, cs, fuel, p, h1, h2, h3, h4, fun x hx => by rw [e]; simp [hx]⟩
    · obtain ⟨g', t', cs', fuel', p', k1, k2, k3, k4, k5⟩ := laid_mem h5 hm
      exact ⟨g', t', cs', fuel', p', k1, k2, k3, k4, fun x hx => by rw [e]; simp [k5 x hx]⟩

theorem laid_tab {l : List (String × DataW Unit)} {name : String} {k : IntKind} {zs : List Int} {G : Nat} {t e : TypeId} {n : Nat} (h : laidMet P l W) (hm : (name, Lib.tabData k zs) ∈ l)
    (hg : P.globalNamed name = some G) (hty : (P.globals[G]?).map (·.type) = some t) (ht : P.underlying t = some (.array n e)) (he : P.underlying e = some (.int k)) (hce : P.cellsOf e = 1) (hct : P.cellsOf t = n) : Lib.TabIs P W name k zs := by
  obtain ⟨ps, hl, _, _⟩ := h
  obtain ⟨g, t', cs, fuel, p, k1, k2, k3, k4, _⟩ := laid_mem hl hm
  obtain rfl := Option.some.inj (hg.symm.trans k1)
  obtain rfl := Option.some.inj (hty.symm.trans k2)
  unfold Lib.TabIs
  rw [k3, ← Lib.cells_of_tab ht he hce hct k4]

theorem laid_err {l : List (String × DataW Unit)} {name nm : String} {D : DataW Unit} {G : Nat} {t : TypeId} {ms : Array (String × TypeId)} (h : laidMet P l W) (hm : (name, .iface nm D) ∈ l)
    (hg : P.globalNamed name = some G) (hty : (P.globals[G]?).map (·.type) = some t) (ht : P.underlying t = some (.interface ms)) : (errGlob P name G).ok W := by
  obtain ⟨ps, hl, _, _⟩ := h
  obtain ⟨g, t', cs, fuel, p, k1, k2, k3, k4, _⟩ := laid_mem hl hm
  obtain rfl := Option.some.inj (hg.symm.trans k1)
  obtain rfl := Option.some.inj (hty.symm.trans k2)
  obtain ⟨_, u, v, e, _, _⟩ := iface_of_trod ht k4
  refine ⟨hg, u, v, ?_⟩
  rw [k3]
  obtain ⟨c⟩ := cs
  simp only at e
  rw [e]

/-- A row of texts, as a datum. -/
def strData (l : List (List UInt8)) : DataW Unit := .agg (l.map fun s => .lit (.string s))

theorem mapM_some {α β : Type} {f : α → Option β} : ∀ {l : List α} {r : List β}, l.mapM f = some r → l.length = r.length ∧ ∀ (i : Nat) (a : α) (b : β), l[i]? = some a → r[i]? = some b → f a = some b
  | [], r, h => by
    simp at h
    subst h
    exact ⟨rfl, fun i a b ha => by simp at ha⟩
  | x :: l, r, h => by
    rw [List.mapM_cons] at h
    obtain ⟨y, hy, h⟩ := Option.bind_eq_some_iff.1 h
    obtain ⟨ys, hys, h⟩ := Option.bind_eq_some_iff.1 h
    obtain rfl := Option.some.inj h
    obtain ⟨q1, q2⟩ := mapM_some hys
    refine ⟨by simp [q1], fun i a b ha hb => ?_⟩
    cases i with
    | zero =>
      simp only [List.getElem?_cons_zero, Option.some.injEq] at ha hb
      rw [← ha, ← hb]; exact hy
    | succ i => exact q2 i a b (by simpa using ha) (by simpa using hb)

theorem cells_of_strs {fuel : Nat} {t e : TypeId} {n : Nat} {cs : List Value} {l : List (List UInt8)} {p : List MemPlace} {base : Nat} {sp : Nat → Bool} {hd : Bool}
    (ht : P.underlying t = some (.array n e)) (he : P.underlying e = some .string) (hce : P.cellsOf e = 1) (hct : P.cellsOf t = n)
    (h : DataW.trod (fun _ => ()) P W base sp hd fuel t cs = some (strData l, p)) : cs = l.map strV := by
  cases fuel with
  | zero => simp [DataW.trod] at h
  | succ fuel =>
    simp only [DataW.trod, ht, hce, hct, Nat.mul_one] at h
    split at h
    · rename_i hl
      obtain ⟨xs, hm, hx⟩ := Option.map_eq_some_iff.1 h
      have hxs : xs.map (·.1) = l.map fun s => (DataW.lit (.string s) : DataW Unit) := by
        have := congrArg Prod.fst hx
        simpa [strData] using this
      obtain ⟨q1, q2⟩ := mapM_some hm
      have hxl : xs.length = n := by rw [← q1]; simp
      have hzl : l.length = n := by
        have := congrArg List.length hxs
        simp at this
        omega
      apply List.ext_getElem?
      intro i
      by_cases hi : i < n
      · have hf := q2 i i (xs[i]'(by omega)) (by simp [hi]) (List.getElem?_eq_getElem (by omega))
        obtain ⟨s, hc, hd, _⟩ := DataW.trod_string he hf
        have h1 : cs[i]? = some (.string s) := by
          have := congrArg (·[0]?) hc
          simpa [List.getElem?_take, List.getElem?_drop] using this
        have h2 : (xs.map (·.1))[i]? = some (DataW.lit (.string s.data.toList) : DataW Unit) := by
          rw [List.getElem?_map, List.getElem?_eq_getElem (by omega : i < xs.length), Option.map_some, hd]
        rw [hxs, List.getElem?_map, List.getElem?_eq_getElem (by omega : i < l.length)] at h2
        simp only [Option.map_some, Option.some.injEq, DataW.lit.injEq, Lit.string.injEq] at h2
        rw [h1, List.getElem?_map, List.getElem?_eq_getElem (by omega : i < l.length), Option.map_some, h2]
        rfl
      · rw [List.getElem?_eq_none (by omega), List.getElem?_eq_none (by simp; omega)]
    · cases h

theorem laid_strs {l : List (String × DataW Unit)} {name : String} {zs : List (List UInt8)} {G : Nat} {t e : TypeId} {n : Nat} (h : laidMet P l W) (hm : (name, strData zs) ∈ l) (hz : zs ≠ [])
    (hg : P.globalNamed name = some G) (hty : (P.globals[G]?).map (·.type) = some t) (ht : P.underlying t = some (.array n e)) (he : P.underlying e = some .string) (hce : P.cellsOf e = 1) (hct : P.cellsOf t = n) : (strGlob G zs).ok W := by
  obtain ⟨ps, hl, _, hrows⟩ := h
  obtain ⟨g, t', cs, fuel, p, k1, k2, k3, k4, k5⟩ := laid_mem hl hm
  obtain rfl := Option.some.inj (hg.symm.trans k1)
  obtain rfl := Option.some.inj (hty.symm.trans k2)
  have hc := cells_of_strs ht he hce hct k4
  have hcs : cs = (zs.map strV).toArray := by
    apply Array.ext'
    rw [hc]
  have hpos : 0 < cs.size := by
    rw [hcs]
    have := List.length_pos_iff.2 hz
    simpa using this
  obtain ⟨⟨c, T, h1⟩, _⟩ := hrows G 0 (k5 _ (by simp [MemPlace.row]; omega))
  have hv := k3
  unfold World.var? at hv
  rw [hg] at hv
  simp only [Option.bind_some] at hv
  rw [h1] at hv
  simp only [Option.some.injEq] at hv
  exact ⟨T, by rw [h1, hv, hcs]⟩

variable {H : Type} {enc : TypeId × Value → H}

theorem carryVars {T : TypeId → Prop} (K : Kids P T) (hz : ∀ t e, T t → P.underlying t = some (.slice e) → 0 < P.cellsOf e) {W W' : World} (hk : ∀ b, b < W.heap.size → W'.heap[b]? = W.heap[b]?) {sp' : Nat → Bool} :
    ∀ {ns : List String} {ds : List (DataW H)} {ps : List MemPlace}, (∀ n ∈ ns, ∀ g t, P.globalNamed n = some g → (P.globals[g]?).map (·.type) = some t → T t) → DataW.TrodVars enc P W (fun _ => true) ns ds ps → (∀ p ∈ ps, p.block < W.heap.size) → (∀ p ∈ ps, sp' p.block = true) → DataW.TrodVars enc P W' sp' ns ds ps
  | [], [], _, _, h, _, _ => h
  | [], _ :: _, _, _, h, _, _ => h.elim
  | _ :: _, [], _, _, h, _, _ => h.elim
  | n :: ns, d :: ds, ps, hT, h, hp, hs => by
    obtain ⟨g, t, cs, fuel, p, q, h1, h2, h3, h4, h5, e⟩ := h
    have hp2 : ∀ x ∈ p, x.block < W.heap.size := fun x hx => hp x (by rw [e]; simp [hx])
    refine ⟨g, t, cs, fuel, p, q, h1, h2, ?_, DataW.trod_carry fuel _ _ _ (DataW.trod_respare K hz fuel _ _ _ (hT n (List.mem_cons_self ..) g t h1 h2) h4 fun x hx => hs x (by rw [e]; simp at hx ⊢; exact .inr (.inl hx))) (fun x hx => ?_), carryVars K hz hk (fun m hm => hT m (List.mem_cons_of_mem _ hm)) h5 (fun x hx => hp x (by rw [e]; simp [hx])) (fun x hx => hs x (by rw [e]; simp [hx])), e⟩
    · unfold World.var? at h3 ⊢
      rw [h1] at h3 ⊢
      simp only [Option.bind_some] at h3 ⊢
      have hg : g < W.heap.size := by
        cases hh : W.heap[g]? with
        | none => rw [hh] at h3; cases h3
        | some o => exact (Array.getElem?_eq_some_iff.1 hh).1
      rw [hk g hg]; exact h3
    · have := hp2 x hx
      cases x with
      | cell b off => exact cell_same hk this
      | map b => exact hk b this

theorem post_law' {T : TypeId → Prop} (K : Kids P T) (hz : ∀ t e, T t → P.underlying t = some (.slice e) → 0 < P.cellsOf e) {f : Func} {s : ChangeSpec} (hT : ∀ t ∈ f.params.toList, T t) (hTv : ∀ n ∈ s.vars, ∀ g t, P.globalNamed n = some g → (P.globals[g]?).map (·.type) = some t → T t) {W W' : World} {args : Array Value} {ds gs : List (DataW H)} {before : List MemPlace}
    (hW : DataW.Whole enc P f.params.toList s.vars false W args.toList ds gs before) (hk : ∀ b, b < W.heap.size → W'.heap[b]? = W.heap[b]?) (hos : W'.os = W.os) (hout : W'.output = W.output)
    (hs1 : (s.fn H (ds ++ gs)).results = [.lit (.bool true)]) (hs2 : (s.fn H (ds ++ gs)).args = ds) (hs3 : (s.fn H (ds ++ gs)).vars = gs) {tb : TypeId} (hrt : f.resultTypes = #[tb]) (hb : P.underlying tb = some .bool) : s.post enc P f false true false false W args (.bool true) W' := by
  have hlt := hW.lt
  obtain ⟨p, q, h1, h2, h3, h4, h5⟩ := id hW
  have hlp : ∀ x ∈ p, x.block < W.heap.size := fun x hx => hlt x (by rw [h3]; exact List.mem_append_left _ hx)
  have hlq : ∀ x ∈ q, x.block < W.heap.size := fun x hx => hlt x (by rw [h3]; exact List.mem_append_right _ hx)
  refine ⟨ds, gs, before, [], p, q, hW, ?_, ?_, ?_, ⟨hos, hout, fun i hi => ?_⟩, fun h => by cases h⟩
  · rw [hs1, hrt]
    exact trodAll_cons_mk (shut_bool hb _) trodAll_mk0
  · rw [hs2]
    exact carryAll hk (h1.respare K hz hT fun x hx => by simpa using hlp x hx) hlp
  · rw [hs3]
    exact carryVars K hz hk hTv h2 hlq (fun x hx => by simpa using hlq x hx)
  · rw [hk i hi]
    cases h : W.heap[i]? with
    | none => rfl
    | some o => cases o <;> simp
end

/-- A law's row, out of the contract of the law and the plain law, where variables are laid and named; the world's shape may be asked. -/
theorem law_row_vars {C : Checked} {tab : List (TypeId × Ty)} {os : Os} {k : FuncId} {fn : Func} {s : ChangeSpec} {conds : List PathCond} {H : Type} {enc : TypeId × Value → H} {tb : TypeId}
    {pars : List (Mode × Ty)} {F : PVs (pars.map (·.2)) → Option (PVs [.bool] × PVs (backs pars))} {laid : List (String × DataW Unit)} {g : Glob} {nv : Nat}
    (own : ownKnob C.prog.godebug = none) (started : os.Started) (noInit : C.prog.inits.idxOf? k = none) (hfn : C.prog.funcs[k]? = some fn)
    (witness : ∃ (w : World) (tape : Tape) (i : Input), w.os = os ∧ (w.forCall tape i).Shaped C.prog ∧ i.vars = [] ∧ Input.okWide C.prog (w.forCall tape i) .any w.heap.size k i ∧
      ((s.pre enc C.prog fn conds false (w.forCall tape i).memory i.args ∧ laidMetH C.prog laid (w.forCall tape i).memory) ∧ sizedMet enc C.prog fn (OpenSpec.ofChange s) false (w.forCall tape i).memory i.args) ∧ ({} : Assume).holds C.prog (lone (Frame.enter C.prog k i.args .normal) [] (w.forCall tape i)))
    (hlaid : laidOutB C.prog = true) (hmaps : mapsRowed C.prog = true)
    (hslices : ((List.range C.prog.types.size).all fun t => match C.prog.underlying t with | some (.slice e) => decide (0 < C.prog.cellsOf e) | _ => true) = true)
    (hps : fn.params.toList.all (fun t => decide (t < C.prog.types.size)) = true)
    (hvs : (s.vars.all fun n => match C.prog.globalNamed n with | some g => (match (C.prog.globals[g]?).map (·.type) with | some t => decide (t < C.prog.types.size) | none => true) | none => true) = true)
    (hnv : s.vars.length = nv) (hrt : fn.resultTypes = #[tb]) (hb : C.prog.underlying tb = some .bool)
    (hspec : ∀ ds gs : List (DataW H), ds.length = pars.length → gs.length = nv → (s.fn H (ds ++ gs)).results = [.lit (.bool true)] ∧ (s.fn H (ds ++ gs)).args = ds ∧ (s.fn H (ds ++ gs)).vars = gs)
    (htab : TabOk C.prog tab) (hk : FnOk g C.prog k ⟨pars, [(.bool, .b)], F⟩) (hp : parsB tab fn.params.toList pars = true)
    (hF : ∀ x, WfVs (pars.map (·.2)) x → ∃ bk, F x = some ((true, ()), bk))
    (hgl : ∀ W : World, laidMetH C.prog laid W → W.ShapedOpen C.prog → g.ok W ∧ ∀ b, g.dom b → b < W.heap.size) :
    ReturnsInHanded {} C os k .any (fun w args => (s.pre enc C.prog fn conds false w args ∧ laidMetH C.prog laid w) ∧ sizedMet enc C.prog fn (OpenSpec.ofChange s) false w args) (s.post enc C.prog fn false true false false) := by
  refine returnsInHanded_of_calls own started noInit witness ?_
  intro w tape i _ hshape _ hok hpre hholds
  obtain ⟨_, _, _, fn', hfn', _, _, _, _, hval⟩ := hok
  have e : fn' = fn := Option.some.inj (hfn'.symm.trans hfn)
  subst e
  obtain ⟨⟨⟨ds, gs, before, hw, _⟩, hx⟩, _⟩ := hpre
  have hW := DataW.Whole.of_heap (w' := w.forCall tape i) (by rfl) hw
  have hL : laidMetH C.prog laid (w.forCall tape i) := laidMetH.of_heap (by rfl) hx
  obtain ⟨p, q, hA, hV, _, _, _⟩ := id hW
  have hT : ∀ t ∈ fn'.params.toList, t < C.prog.types.size := fun t ht => by simpa using List.all_eq_true.1 hps t ht
  have hlen : ds.length = pars.length := by
    have h1 : ∀ {ts : List TypeId} {vs : List Value} {ds : List (DataW H)} {ps : List MemPlace}, DataW.TrodAll enc C.prog (w.forCall tape i) 0 (fun _ => true) true ts vs ds ps → ds.length = ts.length := by
      intro ts
      induction ts with
      | nil => intro vs ds ps h; cases vs <;> cases ds <;> simp_all [DataW.TrodAll]
      | cons t ts ih =>
        intro vs ds ps h
        cases vs with
        | nil => exact h.elim
        | cons v vs =>
          cases ds with
          | nil => exact h.elim
          | cons d ds =>
            obtain ⟨_, _, _, h, _⟩ := h
            simp [ih h]
    have h2 : ∀ {ts : List TypeId} {ps : List (Mode × Ty)}, parsB tab ts ps = true → ts.length = ps.length := by
      intro ts
      induction ts with
      | nil => intro ps h; cases ps <;> simp_all [parsB]
      | cons t ts ih =>
        intro ps h
        cases ps with
        | nil => simp [parsB] at h
        | cons p ps =>
          obtain ⟨m, T⟩ := p
          simp only [parsB, Bool.and_eq_true] at h
          simp [ih h.2]
    rw [h1 hA, h2 hp]
  have hgs : gs.length = nv := by
    have h1 : ∀ {ns : List String} {gs : List (DataW H)} {ps : List MemPlace}, DataW.TrodVars enc C.prog (w.forCall tape i) (fun _ => true) ns gs ps → gs.length = ns.length := by
      intro ns
      induction ns with
      | nil =>
        intro gs ps h
        cases gs with
        | nil => rfl
        | cons => exact h.elim
      | cons n ns ih =>
        intro gs ps h
        cases gs with
        | nil => exact h.elim
        | cons d gs =>
          obtain ⟨_, _, _, _, _, _, _, _, _, _, h, _⟩ := h
          simp [ih h]
    rw [h1 hV, hnv]
  have hTv : ∀ n ∈ s.vars, ∀ g t, C.prog.globalNamed n = some g → (C.prog.globals[g]?).map (·.type) = some t → t < C.prog.types.size := fun n hn g t h1 h2 => by
    have := List.all_eq_true.1 hvs n hn
    rw [h1] at this
    simp only [h2] at this
    simpa using this
  obtain ⟨s1, s2, s3⟩ := hspec ds gs hlen hgs
  obtain ⟨g1, g2⟩ := hgl _ hL hshape
  refine (law_call hk g1 g2 htab hp hF (trodAll_tell htab hA) (fun j t v h1 h2 => hval j t v (by rw [← Array.getElem?_toList]; exact h1) (by rw [← Array.getElem?_toList]; exact h2))).mono fun e W' ⟨he, h1, h2, h3⟩ => ?_
  subst he
  exact ChangeSpec.post_blind (post_law' (kids_rows hlaid hmaps) (slices_full_of _ hslices) hT hTv hW h3 h1 h2 s1 s2 s3 hrt hb)
end Go.Dn
end

section
/- Numbers read out of texts, as a contract of this text's form. -/
namespace Go.Dn
open Go.Shelf Go.Proofs Go.RowKit

def numV (s : List UInt8) : Int := match Lib.atoiAll s with
  | .ok v => v
  | .range => Lib.atoiSat s
  | _ => 0
def numB (s : List UInt8) : Bool := match Lib.atoiAll s with
  | .ok v => decide (0 ≤ v) && (decide (s.length ≤ 4) && (Lib.itoa v == s))
  | _ => false
def numF (s : List UInt8) : Option (PVs [.int .i64, .bool] × PVs []) := bif decide (s.length ≤ 1000000) then some ((numV s, numB s, ()), ()) else none

theorem atoi_bound {s : List UInt8} {v : Int} (h : Lib.atoiAll s = .ok v) : -9223372036854775808 ≤ v ∧ v ≤ 9223372036854775807 := by
  unfold Lib.atoiAll at h
  split at h
  · cases h
  · dsimp only at h
    split at h
    · cases h
    · cases h
    · split at h
      · cases h
      · split at h
        · cases h
        · rename_i h1 h2
          injection h with h
          split at h
          · rename_i hn
            have : ¬ (9223372036854775808 < _) := fun hh => h2 ⟨hn, hh⟩
            omega
          · rename_i hn
            have : ¬ (9223372036854775808 ≤ _) := fun hh => h1 ⟨hn, hh⟩
            omega

section
variable {P : Program} {g : Glob}

theorem var_below {w w' : World} {n : String} {cs : Array Value} (h : w.var? P n = some cs) (hb : Below w.heap.size w w') : w'.var? P n = some cs := by
  unfold World.var? at h ⊢
  cases hg : P.globalNamed n with
  | none => rw [hg] at h; cases h
  | some G =>
    rw [hg] at h
    simp only [Option.bind_some] at h ⊢
    have hlt : G < w.heap.size := by
      cases hh : w.heap[G]? with
      | none => rw [hh] at h; cases h
      | some o => exact (Array.getElem?_eq_some_iff.1 hh).1
    rw [hb.block G hlt]
    exact h

theorem tab_below {w w' : World} {n : String} {k : IntKind} {zs : List Int} (h : Lib.TabIs P w n k zs) (hb : Below w.heap.size w w') : Lib.TabIs P w' n k zs := var_below h hb

theorem fnOk_number {k : FuncId} (hfn : ∃ fn, P.funcs[k]? = some fn ∧ fn.body.isSome = true ∧ (fn.name == "runtime.NumGoroutine") = false)
    (h : ∀ (s : ByteArray) (w : World), s.size ≤ 1000000 → g.ok w → Calls P k #[.string s] w fun e w' => e = .returned (.tuple #[.int .i64 (numV s.data.toList), .bool (numB s.data.toList)]) ∧ Below w.heap.size w w') :
    FnOk g P k ⟨[(.bor, .str)], [(.int .i64, .b), (.bool, .b)], fun x => numF x.1⟩ := by
  refine ⟨rfl, fun w Pr vs xs bss r hpl hargs hnd hfr hgo hgd hr => ⟨hfn, ?_⟩⟩
  obtain ⟨v1, rfl, rfl, h1⟩ := bor1 hargs
  obtain rfl := val_str h1
  obtain ⟨s, u⟩ := xs
  dsimp only at hr
  unfold numF at hr
  simp only [Bool.cond_eq_ite, decide_eq_true_eq] at hr
  split at hr
  · rename_i hc
    obtain rfl := Option.some.inj hr
    refine (h ⟨⟨s⟩⟩ w hc hgo).mono fun e w' ⟨e1, hb⟩ => ?_
    subst e1
    exact ⟨[.int .i64 (numV s), .bool (numB s)], Pr, [], [[]], rfl, ⟨[], [], List.Perm.refl _, .inr ⟨[.int .i64 (numV s)], rfl, rfl, rfl⟩, ⟨[], [], List.Perm.refl _, .inr ⟨[.bool (numB s)], rfl, rfl, rfl⟩, rfl⟩⟩, ⟨rfl, trivial⟩, by simp, fun b hb => by simp at hb, fun b hb => hb, fun b hb => .inl hb, hb.os, hb.tape, hb.output, hb.size, fun b h _ => hb.block b h⟩
  · cases hr
end
end Go.Dn
end

section
/- Rows of hunks, copied whole: each hunk with a row of texts of its own. -/
namespace Go.Dn
open Go.Shelf Go.Proofs Go.RowKit

section
variable {P : Program} {g : Glob} {eH eS : TypeId}

theorem one_row {w' : World} {Pr' : Nat → Prop} {eT : TypeId} {t : Ty} {oe : Ow} {x : PV (.slice eT t)} {rv : List Value} {bv : List Nat}
    (h : TupOk w' Pr' (retList [(.slice eT t, .row oe)] (x, ())) rv bv) : ∃ v, rv = [v] ∧ Rep w' Pr' (.slice eT t) (.row oe) [v] x bv := by
  match rv, h with
  | [], h => exact h.elim
  | v :: vs, ⟨b1, b2, e, h1, h2⟩ =>
    cases vs with
    | cons _ _ => exact h2.elim
    | nil =>
      obtain rfl : b2 = [] := h2
      rcases h1 with h1 | ⟨cs, h1, h3⟩
      · cases h1
      · obtain ⟨v', ys, b', rfl, k⟩ := rep_row.1 h3
        obtain rfl : v = v' := h1
        exact ⟨v, rfl, h3.perm (by simpa using e.symm)⟩

end
end Go.Dn
end

section
/- slices.Replace: one element in the place of two: as a contract of this text's form. -/
namespace Go.Dn
open Go.Shelf Go.Proofs Go.RowKit

/-- Two worlds that differ in what was drawn alone. -/
def LikeW (a b : World) : Prop := a.heap = b.heap ∧ a.os = b.os ∧ a.tape = b.tape ∧ a.output = b.output
theorem LikeW.refl (a : World) : LikeW a a := ⟨rfl, rfl, rfl, rfl⟩

section
variable {P : Program} {g : Glob} {e1 : TypeId} {T : Ty}

end
end Go.Dn
end

section
/- strings.IndexRune at a rune past ASCII in a text of ASCII bytes; strings.IndexAny of ASCII bytes in whatever text. -/
namespace Go.Proofs
open Go.Shelf Go.RowKit Go.Lib
variable {P : Program} {ρ : Ren}

set_option maxHeartbeats 4000000 in
set_option maxRecDepth 1000000 in
theorem Any.strings_IndexRune_err (L : Lays.n152 P ρ) (s : ByteArray) (w : World) (hascii : ∀ (j : Nat) b, s.data.toList[j]? = some b → b.toNat < 128) :
    Calls P (ρ.f 152) #[.string s, .int .i32 65533] w fun e w' => e = .returned (.int .i64 (-1)) ∧ Below w.heap.size w w' := by
  have HA : Aside (∀ (j : Nat) b, s.data.toList[j]? = some b → b.toNat < 128) := hascii
  clear hascii
  have t3 := L.t3; have a3 := L.a3; have z3 := L.z3; have v3 := L.v3
  have t4 := L.t4; have a4 := L.a4; have z4 := L.z4; have v4 := L.v4
  have t5 := L.t5; have a5 := L.a5; have z5 := L.z5; have v5 := L.v5
  have t9 := L.t9; have a9 := L.a9; have z9 := L.z9; have v9 := L.v9
  have t21 := L.t21; have a21 := L.a21; have z21 := L.z21; have v21 := L.v21
  go_enter L.f152, Body.n152_ntmps ρ
  go_wp2
  go_loopg [5, 6] s.size (fun g _ _ wx => ∃ i : Nat, i + g = s.size ∧ wx = w.iter s i)
  case atStart => exact ⟨0, by omega, rfl⟩
  case round =>
    obtain ⟨i, hig, rfl⟩ := hrel
    cases gk with
    | zero =>
      obtain rfl : i = s.size := by omega
      have hnx := run_next_end (P := P) w s s.size
      go_wp2
      go_ret
      exact ⟨rfl, (Below.refl _ _).alloc (Nat.le_refl _) _⟩
    | succ g =>
      have hi : i < s.size := by omega
      obtain ⟨x, hx⟩ : ∃ x : UInt8, s[i]'hi = x := ⟨_, rfl⟩
      have hxl : s.data.toList[i]? = some x := by rw [← hx]; exact Lib.data_getElem? s i hi
      have hx128 : x.toNat < 128 := HA.out i x hxl
      have hnx := fun ty => run_next_ascii (P := P) w s i ty hi (by rw [hx]; exact hx128)
      rw [hx] at hnx
      clear hxl hx
      have hne : ((x.toNat : Int) == 65533) = false := beq_eq_false_iff_ne.2 (by omega)
      go_wp2
      go_roundg g
      case measure => omega
      case rel => exact ⟨i + 1, by omega, rfl⟩

theorem below_drawn (w : World) (q : Nat) : Below w.heap.size w (w.drewN q) := ⟨rfl, rfl, rfl, Nat.le_refl _, fun _ _ => rfl⟩

theorem indexByte_ascii : ∀ (l : List UInt8) (c : UInt8), (∀ b ∈ l, b.toNat < 128) → 128 ≤ c.toNat → Lib.indexByte l c = -1
  | [], _, _, _ => rfl
  | b :: l, c, h, hc => by
    have ih := indexByte_ascii l c (fun b hb => h b (List.mem_cons_of_mem _ hb)) hc
    have hb := h b (List.mem_cons_self ..)
    have hne : (b == c) = false := by
      rw [beq_eq_false_iff_ne]
      rintro rfl
      omega
    rw [Lib.indexByte, hne, ih]
    rfl

set_option maxHeartbeats 8000000 in
set_option maxRecDepth 1000000 in
theorem Any.strings_IndexRune_deep (L : Lays.n152 P ρ) (s : ByteArray) (r : Int) (w : World) (h1 : 128 ≤ r) (h2 : r ≠ 65533) (hs : s.size < 4294967281) (hascii : ∀ b ∈ s.data.toList, b.toNat < 128) :
    Calls P (ρ.f 152) #[.string s, .int .i32 r] w fun e w' => e = .returned (.int .i64 (-1)) ∧ Below w.heap.size w w' := by
  have hr0 : (0 : Int) ≤ r := by omega
  have hr1 : ¬ (r < 128) := by omega
  have hre : (r == 65533) = false := beq_eq_false_iff_ne.2 h2
  have t3 := L.t3; have a3 := L.a3; have z3 := L.z3; have v3 := L.v3
  have t4 := L.t4; have a4 := L.a4; have z4 := L.z4; have v4 := L.v4
  have t5 := L.t5; have a5 := L.a5; have z5 := L.z5; have v5 := L.v5
  have t9 := L.t9; have a9 := L.a9; have z9 := L.z9; have v9 := L.v9
  have t21 := L.t21; have a21 := L.a21; have z21 := L.z21; have v21 := L.v21
  have mixed := L.mixed
  have e119 : ∀ args w, (callFunc (ρ.f 119) args).run P w = .ok (.enter (ρ.f 119) args) w := enters_of L.f119 (by kernel_rfl) rfl
  have e137 : ∀ args w, (callFunc (ρ.f 137) args).run P w = .ok (.enter (ρ.f 137) args) w := enters_of L.f137 (by kernel_rfl) rfl
  cases hv : Lib.validRune r with
  | false =>
    go_enter L.f152, Body.n152_ntmps ρ
    go_wp2_with (go_at_fn (ρ.f 119); refine (Any.utf8_ValidRune { L with } _ _).mono ?_; rintro e w' ⟨rfl, hw⟩; rw [hw, hv])
    go_ret
    exact ⟨rfl, Below.refl _ _⟩
  | true =>
    obtain ⟨hn2, hn4, hz⟩ := encode_facts r (by rw [validRune_eq]; exact hv) h1
    obtain ⟨E, hE⟩ : ∃ E, Utf8.encode r = E := ⟨_, rfl⟩
    rw [hE] at hn2 hn4 hz
    have hk : E.size - 1 < E.size := by omega
    obtain ⟨z, hzz⟩ : ∃ z : UInt8, E[E.size - 1]'hk = z := ⟨_, rfl⟩
    have hz128 : 128 ≤ z.toNat := by rw [← hzz]; exact hz hk
    clear hz
    go_enter L.f152, Body.n152_ntmps ρ
    go_wp2_with (go_at_fn (ρ.f 119); refine (Any.utf8_ValidRune { L with } _ _).mono ?_; rintro e w' ⟨rfl, hw⟩; rw [hw, hv])
    have hcv : ∀ w, (convert (ρ.t 21) (ρ.t 9) (.int .i32 r)).run P w = .ok (.string E) w := fun w => by rw [run_convert_int_string w _ _ _ _ (by rw [t21]; rfl) t9, hE]
    have hsub : ((E.size : Int) - 1) = ((E.size - 1 : Nat) : Int) := by omega
    go_step3
    go_wp2
    go_loopg [9, 10, 11, 12] 1 (fun g s9 _ _ _ wx => s9 = .int .i64 ((E.size - 1 : Nat) : Int) ∧ wx = w)
    case atStart => exact ⟨rfl, rfl⟩
    case round =>
      obtain ⟨rfl, rfl⟩ := hrel
      by_cases hl : E.size - 1 < s.size
      · have hlz : (((E.size - 1 : Nat) : Int) < (s.size : Int)) := by omega
        obtain ⟨x, hx⟩ : ∃ x : UInt8, s[E.size - 1]'hl = x := ⟨_, rfl⟩
        have hx128 : x.toNat < 128 := hascii x (by rw [← hx]; exact Array.getElem_mem_toList (xs := s.data) hl)
        have hne : ((x.toNat : Int) != (z.toNat : Int)) = true := by simp; omega
        have hback : ((z.toNat : Int)).toNat.toUInt8 = z := by simp
        have hnone : ∀ a b, Lib.indexByte (s.extract a b).data.toList z = -1 := fun a b => indexByte_ascii _ _ (fun y hy => hascii y (mem_extract hy)) hz128
        have HI : Aside (∀ a b w, Calls P (ρ.f 137) #[.string (s.extract a b), .int .u8 z.toNat] w fun e w' => e = .returned (.int .i64 (-1)) ∧ w' = w) := fun a b w => by
          have h := Any.strings_IndexByte (ρ := ρ) { L with } (s.extract a b) (z.toNat : Int) w
          rwa [hback, hnone] at h
        have hi1 : ((E.size - 1 : Nat) : Int) + 1 = ((E.size : Nat) : Int) := by omega
        have hEs : E.size ≤ s.size := by omega
        have hwr : IntKind.i64.wrap (E.size : Int) = (E.size : Int) := wrap_small _ (by omega) (by omega)
        have hzl : E.data.toList[E.size - 1]? = some z := by rw [← hzz]; exact Lib.data_getElem? E (E.size - 1) hk
        go_wp2
        go_step3
        go_wp2
        go_quiet_o (fail)
        go_wp2
        go_quiet_o (first | (exact (HI.out _ _ _).mono fun _ _ h => ⟨h.1, _, h.2⟩))
        go_wp2
        rw [Exit.noGoto_ret]
        go_wp2
        try rw [Exit.noGoto_ret]
        go_ret
        exact ⟨rfl, below_drawn _ _⟩
      · have hlz : ¬ (((E.size - 1 : Nat) : Int) < (s.size : Int)) := by omega
        go_wp2
        go_ret
        exact ⟨rfl, Below.refl _ _⟩

theorem Any.strings_IndexRune_high (L : Lays.n152 P ρ) (s : ByteArray) (r : Int) (w : World) (h1 : 128 ≤ r) (hs : s.size < 4294967281) (hascii : ∀ b ∈ s.data.toList, b.toNat < 128) :
    Calls P (ρ.f 152) #[.string s, .int .i32 r] w fun e w' => e = .returned (.int .i64 (-1)) ∧ Below w.heap.size w w' := by
  by_cases h : r = 65533
  · subst h
    exact Any.strings_IndexRune_err L s w fun j b hb => hascii b (List.mem_of_getElem? hb)
  · exact Any.strings_IndexRune_deep L s r w h1 h hs hascii

theorem get_toNat (s : ByteArray) (k : Nat) (h : k < s.size) : (s.get! k).toNat = (s[k]'h).toNat := by rw [show s.get! k = s[k]'h from get_at s k h]

/-- Where a byte past ASCII stands, the whole rune is of such bytes, and it lies within the text. -/
theorem decode_step (s : ByteArray) (i : Nat) (h : i < s.size) (hx : 128 ≤ (s[i]'h).toNat) : i + (Utf8.decode s i).2 ≤ s.size ∧ ∀ j (hj : j < s.size), i ≤ j → j < i + (Utf8.decode s i).2 → 128 ≤ (s[j]'hj).toNat := by
  have hn : ¬ (s[i]'h).toNat < 128 := by omega
  have cont : ∀ k, (decide (i + k < s.size) && (s.get! (i + k)).toNat / 64 == 2) = true → ∃ h' : i + k < s.size, 128 ≤ (s[i + k]'h').toNat := fun k hk => by
    simp only [Bool.and_eq_true, decide_eq_true_eq, beq_iff_eq] at hk
    refine ⟨hk.1, ?_⟩
    rw [get_toNat s _ hk.1] at hk
    omega
  have one : i + 1 ≤ s.size ∧ ∀ j (hj : j < s.size), i ≤ j → j < i + 1 → 128 ≤ (s[j]'hj).toNat := ⟨by omega, fun j hj h1 h2 => by
    obtain rfl : j = i := by omega
    exact hx⟩
  simp only [Utf8.decode, get_at s i h, hn, if_false]
  split
  · rename_i hc
    rw [Bool.and_eq_true] at hc
    obtain ⟨c1, c2⟩ := cont 1 hc.2
    split
    · refine ⟨by dsimp only; omega, fun j hj h1 h2 => ?_⟩
      have : j = i ∨ j = i + 1 := by dsimp only at h2; omega
      rcases this with rfl | rfl
      · exact hx
      · exact c2
    · exact one
  · split
    · rename_i hc
      rw [Bool.and_eq_true, Bool.and_eq_true] at hc
      obtain ⟨c1, c2⟩ := cont 1 hc.1.2
      obtain ⟨c3, c4⟩ := cont 2 hc.2
      split
      · refine ⟨by dsimp only; omega, fun j hj h1 h2 => ?_⟩
        have : j = i ∨ j = i + 1 ∨ j = i + 2 := by dsimp only at h2; omega
        rcases this with rfl | rfl | rfl
        · exact hx
        · exact c2
        · exact c4
      · exact one
    · split
      · rename_i hc
        rw [Bool.and_eq_true, Bool.and_eq_true, Bool.and_eq_true] at hc
        obtain ⟨c1, c2⟩ := cont 1 hc.1.1.2
        obtain ⟨c3, c4⟩ := cont 2 hc.1.2
        obtain ⟨c5, c6⟩ := cont 3 hc.2
        split
        · refine ⟨by dsimp only; omega, fun j hj h1 h2 => ?_⟩
          have : j = i ∨ j = i + 1 ∨ j = i + 2 ∨ j = i + 3 := by dsimp only at h2; omega
          rcases this with rfl | rfl | rfl | rfl
          · exact hx
          · exact c2
          · exact c4
          · exact c6
        · exact one
      · exact one

theorem noAny_high {s : ByteArray} {chars : List UInt8} {i K : Nat} (h : NoAny s.data.toList chars i) (hc : ∀ b ∈ chars, b.toNat < 128) (hh : ∀ j (hj : j < s.size), i ≤ j → j < i + K → 128 ≤ (s[j]'hj).toNat) : NoAny s.data.toList chars (i + K) := by
  intro j b hj hb
  by_cases hji : j < i
  · exact h j b hji hb
  · obtain ⟨h1, h2⟩ := List.getElem?_eq_some_iff.1 hb
    have hjs : j < s.size := by rw [Lib.size_eq]; exact h1
    have h3 := hh j hjs (by omega) hj
    have h4 : s[j]'hjs = b := by
      have := Lib.data_getElem? s j hjs
      rw [hb] at this
      exact (Option.some.inj this).symm
    rw [h4] at h3
    cases hcon : chars.contains b with
    | false => rfl
    | true =>
      have := hc b (by simpa using hcon)
      omega

set_option maxHeartbeats 8000000 in
set_option maxRecDepth 1000000 in
/-- At most 8 bytes, whatever they are; what is looked for: two ASCII bytes or more. -/
theorem Any.strings_IndexAny_short_any (L : Lays.n153 P ρ) (s chars : ByteArray) (w : World) (h2 : 2 ≤ chars.size) (h8 : s.size ≤ 8) (hcs : chars.size < 4294967281) (hac : ∀ b ∈ chars.data.toList, b.toNat < 128) :
    Calls P (ρ.f 153) #[.string s, .string chars] w fun e w' => e = .returned (.int .i64 (Lib.indexAny s.data.toList chars.data.toList)) ∧ Below w.heap.size w w' := by
  have HC : Aside (∀ b ∈ chars.data.toList, b.toNat < 128) := hac
  clear hac
  have hemp : chars.toList.isEmpty = false := by
    rw [Lib.toList_data]
    cases h : chars.data.toList with
    | nil => have := Lib.size_eq chars; rw [h, List.length_nil] at this; omega
    | cons _ _ => rfl
  have hn1 : ((chars.size : Int) == 1) = false := beq_eq_false_iff_ne.2 (by omega)
  have h8z : decide ((8 : Int) < (s.size : Int)) = false := decide_eq_false (by omega)
  have t3 := L.t3; have a3 := L.a3; have z3 := L.z3; have v3 := L.v3
  have t4 := L.t4; have a4 := L.a4; have z4 := L.z4; have v4 := L.v4
  have t5 := L.t5; have a5 := L.a5; have z5 := L.z5; have v5 := L.v5
  have t9 := L.t9; have a9 := L.a9; have z9 := L.z9; have v9 := L.v9
  have t21 := L.t21; have a21 := L.a21; have z21 := L.z21; have v21 := L.v21
  have e152 : ∀ args w, (callFunc (ρ.f 152) args).run P w = .ok (.enter (ρ.f 152) args) w := enters_of L.f152 (by kernel_rfl) rfl
  have e226 : ∀ args w, (callFunc (ρ.f 226) args).run P w = .ok (.enter (ρ.f 226) args) w := enters_of L.f226 (by kernel_rfl) rfl
  go_enter L.f153, Body.n153_ntmps ρ
  go_wp2_with (go_at_fn (ρ.f 226); refine (Any.strings_shouldUseASCIISet { L with } _ _).mono ?_; rintro e w' ⟨rfl, hw⟩; rw [hw, h8z])
  go_loopg [9, 10] s.size (fun g _ _ wx => ∃ i : Nat, i + g = s.size ∧ wx.heap[w.heap.size]? = some (.stringIter s i) ∧ Below w.heap.size w wx ∧ Lib.NoAny s.data.toList chars.data.toList i)
  case atStart => exact ⟨0, by omega, World.iter_heap w s 0, (Below.refl _ w).alloc (Nat.le_refl _) _, Lib.NoAny.zero _ _⟩
  case round =>
    obtain ⟨i, hig, hit, hbw, hno⟩ := hrel
    have HN : Aside (Lib.NoAny s.data.toList chars.data.toList i) := hno
    clear hno
    by_cases hi : i < s.size
    · have hnx : ∀ ty, (Instr.next (.pointer (some ⟨w.heap.size, 0, none⟩)) true ty).run P wr = _ := fun ty => Lib.run_next_any_at wr w.heap.size s i ty hit hi
      obtain ⟨x, hx⟩ : ∃ x : UInt8, s[i]'hi = x := ⟨_, rfl⟩
      have hxl : s.data.toList[i]? = some x := by rw [← hx]; exact Lib.data_getElem? s i hi
      have Hx : Aside (s.data.toList[i]? = some x) := hxl
      clear hxl
      by_cases ha : x.toNat < 128
      · have hde : Utf8.decode s i = (x.toNat, 1) := by rw [decode_ascii s i hi (by rw [hx]; exact ha), hx]
        rw [hde] at hnx
        have hit2 := Lib.iterAt_heap wr w.heap.size s i (i + 1) hit
        have hbw2 := Lib.below_iterAt hbw (k := w.heap.size) (Nat.le_refl _) s (i + 1)
        obtain ⟨W, hWd⟩ : ∃ W, wr.iterAt w.heap.size s (i + 1) = W := ⟨_, rfl⟩
        rw [show (i + (x.toNat, 1).2) = i + 1 from rfl, hWd] at hnx
        rw [hWd] at hit2 hbw2
        clear hx hde
        have hcon := Lib.contains_iff_indexByte chars.data.toList x
        have hback : ((x.toNat : Int)).toNat.toUInt8 = x := by simp
        cases hin : chars.data.toList.contains x
        · rw [hin] at hcon
          have hlt : ¬ ((0 : Int) ≤ Lib.indexByte chars.data.toList x) := of_decide_eq_false hcon.symm
          clear hcon
          go_wp2_with (go_at_fn (ρ.f 152); refine (Any.strings_IndexRune_ascii { L with } _ _ _ (by omega) (by omega)).mono ?_; rintro e w' ⟨rfl, hw⟩; rw [hw, hback])
          go_roundg (s.size - (i + 1))
          case measure => omega
          case rel => exact ⟨i + 1, by omega, hit2, hbw2, HN.out.succ Hx.out hin⟩
        · rw [hin] at hcon
          have hge : (0 : Int) ≤ Lib.indexByte chars.data.toList x := of_decide_eq_true hcon.symm
          clear hcon
          go_wp2_with (go_at_fn (ρ.f 152); refine (Any.strings_IndexRune_ascii { L with } _ _ _ (by omega) (by omega)).mono ?_; rintro e w' ⟨rfl, hw⟩; rw [hw, hback])
          go_ret
          exact ⟨by rw [Lib.indexAny_hit HN.out Hx.out hin]; rfl, hbw2⟩
      · have hx128 : 128 ≤ (s[i]'hi).toNat := by rw [hx]; omega
        obtain ⟨d1, d2⟩ := decode_high s i hi hx128
        obtain ⟨d3, d4⟩ := decode_step s i hi hx128
        obtain ⟨R, hR⟩ : ∃ R, (Utf8.decode s i).1 = R := ⟨_, rfl⟩
        obtain ⟨K, hK⟩ : ∃ K, (Utf8.decode s i).2 = K := ⟨_, rfl⟩
        rw [hR] at d1
        rw [hK] at d2 d3 d4
        rw [hR, hK] at hnx
        have hno2 := noAny_high HN.out HC.out d4
        have HN2 : Aside (Lib.NoAny s.data.toList chars.data.toList (i + K)) := hno2
        clear hno2 d4 hx
        have hit2 := Lib.iterAt_heap wr w.heap.size s i (i + K) hit
        have hbw2 := Lib.below_iterAt hbw (k := w.heap.size) (Nat.le_refl _) s (i + K)
        obtain ⟨W, hWd⟩ : ∃ W, wr.iterAt w.heap.size s (i + K) = W := ⟨_, rfl⟩
        rw [hWd] at hnx hit2 hbw2
        have hltW : w.heap.size < W.heap.size := (Array.getElem?_eq_some_iff.1 hit2).1
        have cS := Any.strings_IndexRune_high (L := { L with }) chars (R : Int) W (by omega) hcs HC.out
        go_wp2_with (go_at_fn (ρ.f 152); refine cS.mono ?_; rintro e W' ⟨rfl, hbc⟩)
        go_roundg (s.size - (i + K))
        case measure => omega
        case rel => exact ⟨i + K, by omega, (hbc.block _ hltW).trans hit2, hbw2.trans (hbc.mono hbw2.size), HN2.out⟩
    · obtain rfl : i = s.size := by omega
      have hnx : ∀ ty, (Instr.next (.pointer (some ⟨w.heap.size, 0, none⟩)) true ty).run P wr = _ := fun ty => Lib.run_next_end_at wr w.heap.size s s.size ty hit hi
      go_wp2
      go_ret
      exact ⟨by rw [Lib.indexAny_none (by rw [← Lib.size_eq]; exact HN.out)]; rfl, hbw⟩

/-- What is looked for: two ASCII bytes or more; the text is whatever it is. -/
theorem Any.strings_IndexAny_any (L : Lays.n153 P ρ) (h116 : (P.info? (ρ.t 116)).map (fun i => (i.zero, i.size)) = some (some (.agg (Array.replicate 256 (.bool false))), 256)) (s chars : ByteArray) (w : World) (h2 : 2 ≤ chars.size) (hs : s.size < 4294967281) (hcs : chars.size < 4294967281) (hac : ∀ b ∈ chars.data.toList, b.toNat < 128) :
    Calls P (ρ.f 153) #[.string s, .string chars] w fun e w' => e = .returned (.int .i64 (Lib.indexAny s.data.toList chars.data.toList)) ∧ Below w.heap.size w w' := by
  by_cases h8 : s.size ≤ 8
  · exact Any.strings_IndexAny_short_any L s chars w h2 h8 hcs hac
  · refine (Any.strings_IndexAny_long L (zero_of_info h116).1 (zero_of_info h116).2 s chars w h2 (by omega) hs hcs (fun j b hb => hac b (List.mem_of_getElem? hb))).mono fun e w' ⟨e1, e2⟩ => ⟨e1, ?_⟩
    rw [e2]
    exact ((Below.refl _ _).alloc (Nat.le_refl _) _).alloc (by simp) _

#print axioms Any.strings_IndexAny_any
end Go.Proofs

namespace Go.Dn
open Go.Shelf Go.Proofs Go.RowKit
section
variable {P : Program} {g : Glob}

/-- The first place of one of some ASCII bytes (two or more) in a text. -/
def indexAnyF (s chars : List UInt8) : Option (PVs [.int .i64] × PVs []) :=
  bif decide (2 ≤ chars.length) && (decide (chars.length ≤ 100) && (decide (s.length ≤ 4000000000) && chars.all fun b => decide (b.toNat < 128))) then some ((Lib.indexAny s chars, ()), ()) else none

theorem indexAny_ok {ρ : Ren} (h116 : (P.info? (ρ.t 116)).map (fun i => (i.zero, i.size)) = some (some (.agg (Array.replicate 256 (.bool false))), 256)) (L : Lays.n153 P ρ) : FnOk g P (ρ.f 153) ⟨[(.bor, .str), (.bor, .str)], [(.int .i64, .b)], fun x => indexAnyF x.1 x.2.1⟩ := by
  refine ⟨rfl, fun w Pr vs xs bss r hpl hargs hnd hfr hgo hgd hr => ⟨⟨_, L.f153, rfl, by rfl⟩, ?_⟩⟩
  obtain ⟨v1, v2, rfl, rfl, h1, h2⟩ := bor2 hargs
  obtain rfl := val_str h1
  obtain rfl := val_str h2
  obtain ⟨s, chars, u⟩ := xs
  dsimp only at hr
  unfold indexAnyF at hr
  simp only [Bool.cond_eq_ite] at hr
  split at hr
  · rename_i hc
    simp only [Bool.and_eq_true, decide_eq_true_eq, List.all_eq_true] at hc
    obtain ⟨c1, c2, c3, c4⟩ := hc
    obtain rfl := Option.some.inj hr
    refine (Any.strings_IndexAny_any L h116 ⟨⟨s⟩⟩ ⟨⟨chars⟩⟩ w c1 (by show s.length < _; omega) (by show chars.length < _; omega) c4).mono fun e w' h => ?_
    obtain ⟨rfl, hb⟩ := h
    exact ⟨[.int .i64 (Lib.indexAny s chars)], Pr, [], [[], []], rfl, tup_int _, ⟨rfl, rfl, trivial⟩, by simp, fun b hb => by simp at hb, fun b hb => hb, fun b hb => .inl hb, hb.os, hb.tape, hb.output, hb.size, fun b h _ => hb.block b h⟩
  · cases hr
end
end Go.Dn
end

section
/- The head of an order (numbers, then one of some words), read by hand, as a contract of this text's form. -/
namespace Go.Dn
open Go.Shelf Go.Proofs
/-- A byte of the numbers of a head. -/
def hdB (x : UInt8) : Bool := (decide (48 ≤ x.toNat) && decide (x.toNat ≤ 57)) || x == 44
/-- The last of the words from the second on that is u. -/
def kdW (W : Nat → ByteArray) (u : ByteArray) : Nat → Int
  | 0 => 0
  | k + 1 => if 0 < k ∧ W k = u then (k : Int) else kdW W u k
structure Hd4 (w0 wy : World) (br bx g : Nat) (T : TypeId) (k n m : Int) (W : Nat → ByteArray) : Prop where
  below : RowKit.Below w0.heap.size w0 wy
  x : wy.heap[bx]? = some (.cells #[.int .i64 k, .int .i64 n, .int .i64 m, .slice none 0 0] T)
  r : wy.heap[br]? = some (.cells #[.int .i64 0, .int .i64 0, .int .i64 0, .slice none 0 0] T)
  wd : ∀ j, j < 6 → wy.cell? ⟨g, j, none⟩ = some (.string (W j))
  ne : br < bx ∧ bx < g ∧ w0.heap.size ≤ br

theorem heap_alloc_me (w : World) (o : Obj) : (w.alloc o).heap[w.heap.size]? = some o := by
  show (w.heap.push o)[w.heap.size]? = _
  simp
theorem Hd4.start {w w0 w1 w2 : World} {T : TypeId} {n m : Int} {g : Nat} {W : Nat → ByteArray} (hw0 : w.alloc (.cells #[.int .i64 0, .int .i64 0, .int .i64 0, .slice none 0 0] T) = w0) (hb1 : RowKit.Below w0.heap.size w0 w1)
    (hbx : RowKit.Below w.heap.size w (w1.alloc (.cells #[.int .i64 0, .int .i64 n, .int .i64 m, .slice none 0 0] T))) (hg : (w1.alloc (.cells #[.int .i64 0, .int .i64 n, .int .i64 m, .slice none 0 0] T)).heap.size ≤ g)
    (hb2 : RowKit.Below (w1.alloc (.cells #[.int .i64 0, .int .i64 n, .int .i64 m, .slice none 0 0] T)).heap.size (w1.alloc (.cells #[.int .i64 0, .int .i64 n, .int .i64 m, .slice none 0 0] T)) w2)
    (hwd : ∀ j, j < 6 → w2.cell? ⟨g, j, none⟩ = some (.string (W j))) : Hd4 w w2 w.heap.size w1.heap.size g T 0 n m W := by
  have hs0 : w0.heap.size = w.heap.size + 1 := by rw [← hw0]; simp
  have hs1 := hb1.size
  have hsx : (w1.alloc (.cells #[.int .i64 0, .int .i64 n, .int .i64 m, .slice none 0 0] T)).heap.size = w1.heap.size + 1 := by simp
  refine ⟨hbx.trans (hb2.mono hbx.size), ?_, ?_, hwd, by omega, by omega, Nat.le_refl _⟩
  · rw [hb2.block _ (by omega)]
    exact heap_alloc_me _ _
  · rw [hb2.block _ (by omega), RowKit.Below.heap_alloc _ _ _ (by omega), hb1.block _ (by omega), ← hw0]
    exact heap_alloc_me _ _
theorem cell_of_heap {w : World} {b j : Nat} {cs : Array Value} {T : TypeId} (h : w.heap[b]? = some (.cells cs T)) : w.cell? ⟨b, j, none⟩ = cs[j]? := by
  simp [World.cell?, h]
theorem Hd4.set {w0 wy : World} {br bx g : Nat} {T : TypeId} {k n m : Int} {W : Nat → ByteArray} (h : Hd4 w0 wy br bx g T k n m W) (k' : Int) : Hd4 w0 (wy.setCell ⟨bx, 0, none⟩ (.int .i64 k')) br bx g T k' n m W := by
  obtain ⟨n1, n2, n3⟩ := h.ne
  refine ⟨h.below.setCell (by show _ ≤ bx; omega) _, ?_, ?_, fun j hj => ?_, h.ne⟩
  · simp only [World.setCell, Array.getElem?_modify, if_pos, h.x, Option.map_some]
    rfl
  · rw [RowKit.Below.heap_setCell _ _ _ _ (by show br ≠ bx; omega)]; exact h.r
  · rw [World.cell?_setCell_other _ _ _ _ (by first | (simp; done) | (simp; omega))]
    exact h.wd j hj
theorem Hd4.fz {w0 wy : World} {br bx g : Nat} {T : TypeId} {k n m : Int} {W : Nat → ByteArray} (h : Hd4 w0 wy br bx g T k n m W) (j : Nat) : wy.frozen? ⟨bx, j, none⟩ = false ∧ wy.frozen? ⟨br, j, none⟩ = false := by
  constructor
  · simp [World.frozen?, h.x]
  · simp [World.frozen?, h.r]
theorem ba_eq (a : ByteArray) : (a.toList == a.toList) = true := beq_self_eq_true _
theorem ba_ne {a b : ByteArray} (h : a ≠ b) : (a.toList == b.toList) = false := by
  rw [beq_eq_false_iff_ne]
  intro e
  rw [Lib.toList_data, Lib.toList_data] at e
  exact h (ByteArray.ext (Array.toList_inj.1 e))

theorem hd_no {x : UInt8} (h : hdB x = false) : ((¬ (48 : Int) ≤ (x.toNat : Int)) ∨ ((48 : Int) ≤ (x.toNat : Int) ∧ ¬ (x.toNat : Int) ≤ 57)) ∧ ((x.toNat : Int) == 44) = false := by
  unfold hdB at h
  rw [Bool.or_eq_false_iff] at h
  obtain ⟨h1, h2⟩ := h
  constructor
  · rw [Bool.and_eq_false_iff, decide_eq_false_iff_not, decide_eq_false_iff_not] at h1
    omega
  · rw [beq_eq_false_iff_ne] at h2 ⊢
    intro e
    apply h2
    have : x.toNat = 44 := by omega
    exact UInt8.toNat_inj.1 this
theorem hd_44 {x : UInt8} (h : hdB x = true) (h' : (48 : Int) ≤ (x.toNat : Int) → ¬ (x.toNat : Int) ≤ 57) : ((x.toNat : Int) == 44) = true := by
  unfold hdB at h
  rw [Bool.or_eq_true] at h
  rcases h with h | h
  · simp only [Bool.and_eq_true, decide_eq_true_eq] at h
    omega
  · obtain rfl : x = 44 := by simpa using h
    rfl

/-! ### the same on lists -/
def kdS (ws : List (List UInt8)) (u : List UInt8) : Nat → Int
  | 0 => 0
  | k + 1 => bif decide (0 < k) && ws.getD k [] == u then (k : Int) else kdS ws u k
theorem kdW_S (ws : List (List UInt8)) (u : List UInt8) : ∀ k, kdW (fun k => ⟨⟨ws.getD k []⟩⟩) ⟨⟨u⟩⟩ k = kdS ws u k
  | 0 => rfl
  | k + 1 => by
    unfold kdW kdS
    rw [kdW_S ws u k]
    by_cases h : 0 < k
    · by_cases h2 : ws.getD k [] = u
      · rw [if_pos ⟨h, by rw [h2]⟩, h2, decide_eq_true h, beq_self_eq_true]; rfl
      · rw [if_neg fun q => h2 (by simpa using q.2), decide_eq_true h, beq_eq_false_iff_ne.2 h2]; rfl
    · rw [if_neg fun q => h q.1, decide_eq_false h]; rfl

abbrev HdTy (e : TypeId) : Ty := .pair (.int .i64) (.pair (.int .i64) (.pair (.int .i64) (.pair (.slice e .str) .unit)))
/-- The numbers' bytes, read as a pair; behind them one of the words from the second on. -/
def headF (e : TypeId) (RP : List UInt8 → Option (PVs [.int .i64, .int .i64, .bool] × PVs [])) (ws : List (List UInt8)) (s : List UInt8) : Option (PVs [HdTy e, .bool] × PVs []) :=
  bif decide (s.length ≤ 100000) then
    (RP (s.takeWhile hdB)).bind fun r => some (((kdS ws (s.dropWhile hdB) 6, (r.1.1, (r.1.2.1, ([], ())))), r.1.2.2.1 && decide (0 < kdS ws (s.dropWhile hdB) 6), ()), ())
  else none

theorem tw_len : ∀ (s : List UInt8), (s.takeWhile hdB).length ≤ s.length
  | [] => Nat.le_refl _
  | b :: s => by
    rw [List.takeWhile_cons]
    split
    · have := tw_len s
      simp only [List.length_cons]; omega
    · exact Nat.zero_le _
theorem tw_take : ∀ (s : List UInt8), s.take (s.takeWhile hdB).length = s.takeWhile hdB ∧ s.drop (s.takeWhile hdB).length = s.dropWhile hdB
  | [] => ⟨rfl, rfl⟩
  | b :: s => by
    rw [List.takeWhile_cons, List.dropWhile_cons]
    split
    · have := tw_take s
      simp only [List.length_cons, List.take_succ_cons, List.drop_succ_cons]
      exact ⟨by rw [this.1], this.2⟩
    · exact ⟨rfl, rfl⟩
theorem tw_at : ∀ (s : List UInt8) (i : Nat) (x : UInt8), s[i]? = some x → (i < (s.takeWhile hdB).length → hdB x = true) ∧ (i = (s.takeWhile hdB).length → hdB x = false)
  | [], _, _, h => by simp at h
  | b :: s, i, x, h => by
    rw [List.takeWhile_cons]
    cases hb : hdB b with
    | true =>
      simp only [if_true, List.length_cons]
      cases i with
      | zero =>
        simp at h
        subst h
        exact ⟨fun _ => hb, fun q => by omega⟩
      | succ i =>
        have := tw_at s i x (by simpa using h)
        exact ⟨fun q => this.1 (by omega), fun q => this.2 (by omega)⟩
    | false =>
      simp only [Bool.false_eq_true, if_false, List.length_nil]
      refine ⟨fun q => by omega, fun q => ?_⟩
      subst q
      simp at h
      subst h
      exact hb

theorem three_tup {w' : World} {Pr' : Nat → Prop} {n m : Int} {b : Bool} {rv : List Value} {bv : List Nat} (h : TupOk w' Pr' (retList [(.int .i64, .b), (.int .i64, .b), (.bool, .b)] (n, (m, (b, ())))) rv bv) : rv = [.int .i64 n, .int .i64 m, .bool b] := by
  match rv, h with
  | [], h => exact h.elim
  | [_], ⟨_, _, _, _, h⟩ => exact h.elim
  | [_, _], ⟨_, _, _, _, ⟨_, _, _, _, h⟩⟩ => exact h.elim
  | v1 :: v2 :: v3 :: vs, ⟨_, _, _, h1, ⟨_, _, _, h2, ⟨_, _, _, h3, h4⟩⟩⟩ =>
    cases vs with
    | cons _ _ => exact h4.elim
    | nil =>
      rcases h1 with h1 | ⟨c1, rfl, q1, _⟩
      · cases h1
      rcases h2 with h2 | ⟨c2, rfl, q2, _⟩
      · cases h2
      rcases h3 with h3 | ⟨c3, rfl, q3, _⟩
      · cases h3
      rw [q1, q2, q3]
      rfl

theorem cells_strs {w : World} {Pr : Nat → Prop} {a : Addr} : ∀ {ws : List (List UInt8)} {ys : List Value} {bs : List Nat}, RepL (Rep w Pr .str .b) ys ws bs → ys = ws.map strV
  | [], _, _, h => h.1
  | x :: ws, ys, bs, ⟨c1, c2, b1, b2, e, _, h1, h2⟩ => by
    rw [e, h1.1, cells_strs (a := a) h2]
    rfl

theorem head_ok {P : Program} {g : Glob} {e : TypeId} {kK kR kW : FuncId} {RP : List UInt8 → Option (PVs [.int .i64, .int .i64, .bool] × PVs [])} {ws : List (List UInt8)} (hws : ws.length = 6)
    (hfn : ∃ fn, P.funcs[kK]? = some fn ∧ fn.body.isSome = true ∧ (fn.name == "runtime.NumGoroutine") = false)
    (okR : FnOk g P kR ⟨[(.bor, .str)], [(.int .i64, .b), (.int .i64, .b), (.bool, .b)], fun x => RP x.1⟩)
    (okW : FnOk g P kW ⟨[], [(.slice e .str, .row .b)], fun _ => some ((ws, ()), ())⟩)
    (main : ∀ (s : ByteArray) (w : World) (n m : Int) (b : Bool) (p : Nat) (W : Nat → ByteArray), s.size ≤ 100000 → p ≤ s.size →
      (∀ i (h : i < s.size), i < p → hdB (s[i]'h) = true) → (∀ h : p < s.size, hdB (s[p]'h) = false) →
      (∀ w1, RowKit.Below w.heap.size w w1 → Calls P kR #[.string (s.extract 0 p)] w1 fun e w' => e = .returned (.tuple #[.int .i64 n, .int .i64 m, .bool b]) ∧ RowKit.Below w1.heap.size w1 w') →
      (∀ w1, RowKit.Below w.heap.size w w1 → Calls P kW #[] w1 fun e w' => ∃ g c, e = .returned (.slice (some ⟨g, 0, none⟩) 6 c) ∧ w1.heap.size ≤ g ∧ RowKit.Below w1.heap.size w1 w' ∧ ∀ k, k < 6 → w'.cell? ⟨g, k, none⟩ = some (.string (W k))) →
      Calls P kK #[.string s] w fun e w' => e = .returned (.tuple #[.agg #[.int .i64 (kdW W (s.extract p s.size) 6), .int .i64 n, .int .i64 m, .slice none 0 0], .bool (b && decide (0 < kdW W (s.extract p s.size) 6))]) ∧ RowKit.Below w.heap.size w w') :
    FnOk g P kK ⟨[(.bor, .str)], [(HdTy e, .pr .b (.pr .b (.pr .b (.pr (.row .b) .b)))), (.bool, .b)], fun x => headF e RP ws x.1⟩ := by
  refine ⟨rfl, fun w Pr vs xs bss r hpl hargs hnd hfr hgo hgd hr => ⟨hfn, ?_⟩⟩
  obtain ⟨v1, rfl, rfl, h1⟩ := bor1 hargs
  obtain rfl := val_str h1
  obtain ⟨s, u⟩ := xs
  replace hr : headF e RP ws s = some r := hr
  unfold headF at hr
  simp only [Bool.cond_eq_ite, decide_eq_true_eq] at hr
  split at hr
  · rename_i hc
    obtain ⟨⟨⟨n, m, b, u1⟩, u2⟩, hRP, hr⟩ := Option.bind_eq_some_iff.1 hr
    obtain rfl := Option.some.inj hr
    have hlen := tw_len s
    obtain ⟨ht1, ht2⟩ := tw_take s
    have hex1 : (⟨⟨s⟩⟩ : ByteArray).extract 0 (s.takeWhile hdB).length = ⟨⟨s.takeWhile hdB⟩⟩ := by
      apply ByteArray.ext
      rw [ByteArray.data_extract]
      apply Array.toList_inj.1
      rw [Array.toList_extract]
      show (s.drop 0).take _ = _
      simpa using ht1
    have hex2 : (⟨⟨s⟩⟩ : ByteArray).extract (s.takeWhile hdB).length s.length = ⟨⟨s.dropWhile hdB⟩⟩ := by
      apply ByteArray.ext
      rw [ByteArray.data_extract]
      apply Array.toList_inj.1
      rw [Array.toList_extract]
      show (s.drop _).take _ = _
      rw [ht2]
      apply List.take_of_length_le
      rw [← ht2, List.length_drop]
      exact Nat.le_refl _
    have stay : ∀ w1, RowKit.Below w.heap.size w w1 → g.ok w1 := fun w1 hb => g.stable w w1 hgo fun q hq => hb.block q (hpl q (hgd q hq))
    have hM := main ⟨⟨s⟩⟩ w n m b (s.takeWhile hdB).length (fun k => ⟨⟨ws.getD k []⟩⟩) hc hlen (fun i h hi => ?_) (fun h => ?_) (fun w1 hb => ?_) (fun w1 hb => ?_)
    · refine hM.mono fun en w' hE => ?_
      obtain ⟨he, hb⟩ := hE
      rw [show (⟨⟨s⟩⟩ : ByteArray).size = s.length from rfl, hex2, kdW_S] at he
      refine ⟨[.agg #[.int .i64 (kdS ws (s.dropWhile hdB) 6), .int .i64 n, .int .i64 m, .slice none 0 0], .bool (b && decide (0 < kdS ws (s.dropWhile hdB) 6))], Pr, [], [[]], he, ?_, ⟨rfl, trivial⟩, by simp, fun b hb => by simp at hb, fun b hb => hb, fun b hb => .inl hb, hb.os, hb.tape, hb.output, hb.size, fun b h _ => hb.block b h⟩
      refine ⟨[], [], List.Perm.refl _, .inr ⟨[.int .i64 _, .int .i64 n, .int .i64 m, .slice none 0 0], rfl, ?_⟩, ⟨[], [], List.Perm.refl _, .inr ⟨[.bool _], rfl, rfl, rfl⟩, rfl⟩⟩
      refine ⟨[_], _, [], [], rfl, List.Perm.refl _, ⟨rfl, rfl⟩, [_], _, [], [], rfl, List.Perm.refl _, ⟨rfl, rfl⟩, [_], _, [], [], rfl, List.Perm.refl _, ⟨rfl, rfl⟩, [_], _, [], [], rfl, List.Perm.refl _, ?_, rfl, rfl⟩
      exact rep_row.2 ⟨.slice none 0 0, [], [], rfl, World.ownsRow_nil _ _ _ _, by simp [Value.ownBlock], rfl, rfl⟩
    · have := tw_at s i _ (Lib.data_getElem? ⟨⟨s⟩⟩ i h)
      exact this.1 hi
    · have := tw_at s _ _ (Lib.data_getElem? ⟨⟨s⟩⟩ _ h)
      exact this.2 rfl
    · rw [hex1]
      refine (okR.2 w1 Pr [strV (s.takeWhile hdB)] (s.takeWhile hdB, ()) [[]] ((n, m, b, u1), u2) (fun q hq => Nat.lt_of_lt_of_le (hpl q hq) hb.size) ⟨⟨⟨[strV (s.takeWhile hdB)], rfl, rfl, rfl⟩, rfl⟩, trivial⟩ (by simp) (fun q hq => by simp at hq) (stay w1 hb) hgd hRP).2.mono fun en w' hp => ?_
      obtain ⟨rv, Pr1, bv, bms, rfl, htup, hback, hnd, hfr, hp1, hp2, ho, ht, hou, hsz, hkeep⟩ := hp
      obtain rfl := three_tup htup
      exact ⟨rfl, ho, ht, hou, hsz, fun k hk => hkeep k hk (by simp)⟩
    · refine (okW.2 w1 Pr [] () [] ((ws, ()), ()) (fun q hq => Nat.lt_of_lt_of_le (hpl q hq) hb.size) trivial (by simp) (fun q hq => by simp at hq) (stay w1 hb) hgd rfl).2.mono fun en w' hp => ?_
      obtain ⟨rv, Pr1, bv, bms, rfl, htup, hback, hnd, hfr, hp1, hp2, ho, ht, hou, hsz, hkeep⟩ := hp
      obtain ⟨v, rfl, hrep⟩ := one_row htup
      obtain ⟨v', ys, b', hv, hown, hperm, hl⟩ := rep_row.1 hrep
      obtain rfl : v = v' := (List.cons.inj hv).1
      rcases ownsRow_form hown with ⟨_, h0, _⟩ | ⟨gb, c, rfl, hob, _⟩
      · have h0 : List.length ws = 0 := h0
        omega
      · have hcs := ownsRow_cells hown rfl rfl
        have hys := cells_strs (a := ⟨gb, 0, none⟩) hl
        have hgb := hfr gb (List.mem_append_left _ (hperm.mem_iff.2 (List.mem_append_left _ (by rw [hob]; simp))))
        refine ⟨gb, c, by rw [show List.length ws = 6 from hws]; rfl, hgb.1.elim (fun q => by simp at q) id, ⟨ho, ht, hou, hsz, fun k hk => hkeep k hk (by simp)⟩, fun k hk => ?_⟩
        have := hcs k (strV (ws.getD k [])) (by rw [hys]; simp [List.getD, hws, hk])
        rw [add_ptr, Nat.zero_add] at this
        exact this
  · cases hr
end Go.Dn
end

section
/- Loops of pure functions, in plain words: a run over a list. -/
namespace Go.Dn

section
variable {α σ ρ S R : Type}

theorem fix_go {B : S → Option (S ⊕ R)} {s t : S} (h : B s = some (.inl t)) : fix B s = fix B t := by rw [fix_step, h]
theorem fix_end {B : S → Option (S ⊕ R)} {s : S} {r : R} (h : B s = some (.inr r)) : fix B s = some r := by rw [fix_step, h]

/-- A run over a list that may end early. -/
def run (g : σ → α → σ ⊕ ρ) : σ → List α → σ ⊕ ρ
  | a, [] => .inl a
  | a, x :: xs => match g a x with
    | .inl b => run g b xs
    | .inr r => .inr r

theorem fix_run_at {B : S → Option (S ⊕ R)} (xs : List α) (g : σ → α → σ ⊕ ρ) (mk : σ → Nat → S) (fin : σ → R) (ex : ρ → R) (I : Nat → σ → Prop)
    (hgo : ∀ i (hi : i < xs.length) a b, I i a → g a xs[i] = .inl b → I (i + 1) b ∧ B (mk a i) = some (.inl (mk b (i + 1))))
    (hex : ∀ i (hi : i < xs.length) a r, I i a → g a xs[i] = .inr r → B (mk a i) = some (.inr (ex r)))
    (hend : ∀ a, I xs.length a → B (mk a xs.length) = some (.inr (fin a))) :
    ∀ (n i : Nat) (a : σ), i + n = xs.length → I i a → fix B (mk a i) = some (match run g a (xs.drop i) with | .inl b => fin b | .inr r => ex r) ∧ (∀ b, run g a (xs.drop i) = .inl b → I xs.length b)
  | 0, i, a, hn, hI => by
    have : i = xs.length := by omega
    subst this
    rw [List.drop_length]
    exact ⟨fix_end (hend a hI), fun b hb => by simp only [run, Sum.inl.injEq] at hb; exact hb ▸ hI⟩
  | n + 1, i, a, hn, hI => by
    have hi : i < xs.length := by omega
    rw [List.drop_eq_getElem_cons hi]
    simp only [run]
    cases hg : g a xs[i] with
    | inl b =>
      obtain ⟨h1, h2⟩ := hgo i hi a b hI hg
      have := fix_run_at xs g mk fin ex I hgo hex hend n (i + 1) b (by omega) h1
      rw [fix_go h2]
      exact this
    | inr r => exact ⟨fix_end (hex i hi a r hI hg), fun b hb => by cases hb⟩

theorem fix_run {B : S → Option (S ⊕ R)} (xs : List α) (g : σ → α → σ ⊕ ρ) (mk : σ → Nat → S) (fin : σ → R) (ex : ρ → R) (I : Nat → σ → Prop)
    (hgo : ∀ i (hi : i < xs.length) a b, I i a → g a xs[i] = .inl b → I (i + 1) b ∧ B (mk a i) = some (.inl (mk b (i + 1))))
    (hex : ∀ i (hi : i < xs.length) a r, I i a → g a xs[i] = .inr r → B (mk a i) = some (.inr (ex r)))
    (hend : ∀ a, I xs.length a → B (mk a xs.length) = some (.inr (fin a))) (a : σ) (h0 : I 0 a) :
    fix B (mk a 0) = some (match run g a xs with | .inl b => fin b | .inr r => ex r) ∧ (∀ b, run g a xs = .inl b → I xs.length b) := by
  simpa using fix_run_at xs g mk fin ex I hgo hex hend xs.length 0 a (by omega) h0

/-- A loop that goes through a number of known states. -/
theorem fix_iter {B : S → Option (S ⊕ R)} (st : Nat → S) : ∀ (n i : Nat), (∀ j, i ≤ j → j < i + n → B (st j) = some (.inl (st (j + 1)))) → fix B (st i) = fix B (st (i + n))
  | 0, _, _ => rfl
  | n + 1, i, h => by
    rw [fix_go (h i (by omega) (by omega)), fix_iter st n (i + 1) (fun j h1 h2 => h j (by omega) (by omega))]
    congr 2; omega

theorem fix_all {B : S → Option (S ⊕ R)} (st : Nat → S) (n : Nat) {r : R} (h : ∀ j, j < n → B (st j) = some (.inl (st (j + 1)))) (he : B (st n) = some (.inr r)) : fix B (st 0) = some r := by
  rw [fix_iter st n 0 (fun j _ h2 => h j (by omega)), Nat.zero_add]
  exact fix_end he
end

/-! ### small -/
theorem wrap64 {x : Int} (h1 : -9223372036854775808 ≤ x) (h2 : x ≤ 9223372036854775807) : IntKind.wrap .i64 x = x := by
  simp [IntKind.wrap, IntKind.signed, IntKind.bits]
  omega

theorem inB_lt {i n : Nat} (h : i < n) : inB (i : Int) n = true := by
  unfold inB
  simp
  omega

theorem roomB_ok {n : Nat} (h : n ≤ 1099511627776) : roomB n = true := decide_eq_true h

/-- How much there is in all. -/
def tot : (t : Ty) → PV t → Nat
  | .int _, _ => 0
  | .bool, _ => 0
  | .str, s => List.length s
  | .unit, _ => 0
  | .pair a b, x => tot a x.1 + tot b x.2
  | .slice _ t, xs => List.length (α := PV t) xs + ((xs : List (PV t)).map (tot t)).sum

theorem tot_slice {e : TypeId} {t : Ty} {xs : List (PV t)} : tot (.slice e t) xs = xs.length + (xs.map (tot t)).sum := by simp only [tot]
theorem tot_str {s : List UInt8} : tot .str s = s.length := by simp only [tot]

theorem sum_take_succ {l : List Nat} {i : Nat} (h : i < l.length) : (l.take (i + 1)).sum = (l.take i).sum + l[i] := by
  rw [← List.take_append_getElem h, List.sum_append]
  simp
theorem sum_take_le (l : List Nat) (i : Nat) : (l.take i).sum ≤ l.sum := by
  conv => rhs; rw [← List.take_append_drop i l, List.sum_append]
  omega
theorem le_sum {l : List Nat} {i : Nat} (h : i < l.length) : l[i] ≤ l.sum := by
  have := sum_take_succ h
  have := sum_take_le l (i + 1)
  omega
end Go.Dn

namespace Go.Dn
section
variable {α σ S R : Type}

/-- A loop that ends at the first element of a kind. -/
theorem fix_any {B : S → Option (S ⊕ R)} (xs : List α) (q : α → Bool) (st : Nat → S) (yes : Nat → R) (no : R)
    (hgo : ∀ i (hi : i < xs.length), q xs[i] = false → B (st i) = some (.inl (st (i + 1)))) (hex : ∀ i (hi : i < xs.length), q xs[i] = true → B (st i) = some (.inr (yes i)))
    (hend : B (st xs.length) = some (.inr no)) : fix B (st 0) = some (if xs.any q then yes (xs.findIdx q) else no) := by
  by_cases ha : xs.any q = true
  · rw [if_pos ha]
    have hlt : xs.findIdx q < xs.length := List.findIdx_lt_length.2 (by simpa using ha)
    rw [fix_iter st (xs.findIdx q) 0 (fun j _ h2 => hgo j (by omega) (by
      have := List.not_of_lt_findIdx (xs := xs) (p := q) (i := j) (by omega)
      simpa using this)), Nat.zero_add]
    exact fix_end (hex _ hlt List.findIdx_getElem)
  · rw [if_neg ha]
    refine fix_all st xs.length (fun j hj => hgo j hj ?_) hend
    have := List.any_eq_false.1 (by simpa using ha) xs[j] (List.getElem_mem hj)
    simpa using this

/-- A loop that goes through all elements. -/
theorem fix_fold {B : S → Option (S ⊕ R)} (xs : List α) (g : σ → α → σ) (mk : σ → Nat → S) (fin : σ → R) (I : Nat → σ → Prop)
    (hgo : ∀ i (hi : i < xs.length) a, I i a → I (i + 1) (g a xs[i]) ∧ B (mk a i) = some (.inl (mk (g a xs[i]) (i + 1))))
    (hend : ∀ a, I xs.length a → B (mk a xs.length) = some (.inr (fin a))) (a : σ) (h0 : I 0 a) :
    fix B (mk a 0) = some (fin (xs.foldl g a)) ∧ I xs.length (xs.foldl g a) := by
  have := fix_run (B := B) (ρ := Empty) xs (fun a x => .inl (g a x)) mk fin (fun e => nomatch e) I
    (fun i hi a b hI hg => by
      simp only [Sum.inl.injEq] at hg
      subst hg
      exact hgo i hi a hI)
    (fun i hi a r => nomatch r) hend a h0
  have hr : ∀ (ys : List α) (a : σ), run (ρ := Empty) (fun a x => .inl (g a x)) a ys = .inl (ys.foldl g a) := by
    intro ys
    induction ys with
    | nil => intro a; rfl
    | cons y ys ih => intro a; simp only [run, List.foldl_cons]; exact ih _
  rw [hr] at this
  exact ⟨this.1, this.2 _ rfl⟩
end
end Go.Dn
end

section
/- Loops of the laws' own helpers: counting, copying, comparing, marking. -/
namespace Go.Dn

theorem eq_loop {α : Type} {xs : List α} {B : List α × List α × Int × Unit → Option ((List α × List α × Int × Unit) ⊕ (Unit ⊕ (Bool × Unit)))}
    (hstep : ∀ (i : Nat), i < xs.length → B (xs, xs, (i : Int), ()) = some (.inl (xs, xs, (i : Int) + 1, ()))) (hend : B (xs, xs, (xs.length : Int), ()) = some (.inr (.inl ()))) :
    fix B (xs, xs, 0, ()) = some (.inl ()) := by
  exact fix_all (B := B) (fun i => (xs, xs, (i : Int), ())) xs.length (fun i hi => by rw [hstep i hi]; simp) hend

theorem tot_mem {e : TypeId} {t : Ty} {xs : List (PV t)} {i : Nat} (hi : i < xs.length) : tot t xs[i] ≤ tot (.slice e t) xs := by
  have := le_sum (l := xs.map (tot t)) (i := i) (by simpa using hi)
  rw [List.getElem_map] at this
  rw [tot_slice]
  omega
theorem getD_of {α : Type} {xs : List α} {d : α} {i : Nat} (h : i < xs.length) : xs.getD i d = xs[i] := by
  simp [List.getD, h]

theorem toNat_cast (i : Nat) : ((i : Int)).toNat = i := by simp
end Go.Dn
end

section
/- Plain facts on lists: any over places, equality by places, bytes. -/
namespace Go.Dn

/-- Over the places of a list. -/
def anyN (n : Nat) (q : Nat → Bool) : Bool := (List.range n).any q

theorem anyN_iff {n : Nat} {q : Nat → Bool} : anyN n q = true ↔ ∃ i, i < n ∧ q i = true := by
  unfold anyN
  rw [List.any_eq_true]
  simp

theorem anyN_list {α : Type} {xs : List α} {f : α → Bool} {d : α} : anyN xs.length (fun i => f (xs.getD i d)) = xs.any f := by
  rw [Bool.eq_iff_iff, anyN_iff, List.any_eq_true]
  constructor
  · rintro ⟨i, hi, h⟩
    rw [getD_of hi] at h
    exact ⟨_, List.getElem_mem hi, h⟩
  · rintro ⟨x, hx, h⟩
    obtain ⟨i, hi, rfl⟩ := List.mem_iff_getElem.1 hx
    exact ⟨i, hi, by rw [getD_of hi]; exact h⟩

section
variable {S R : Type}
/-- A loop that ends at the first place of a kind. -/
theorem fix_anyN {B : S → Option (S ⊕ R)} (n : Nat) (q : Nat → Bool) (st : Nat → S) (yes : Nat → R) (no : R)
    (hgo : ∀ i, i < n → q i = false → B (st i) = some (.inl (st (i + 1)))) (hex : ∀ i, i < n → q i = true → B (st i) = some (.inr (yes i)))
    (hend : B (st n) = some (.inr no)) : fix B (st 0) = some (if anyN n q then yes ((List.range n).findIdx q) else no) := by
  unfold anyN
  refine fix_any (List.range n) q st yes no (fun i hi h => hgo i (by simpa using hi) (by simpa using h)) (fun i hi h => hex i (by simpa using hi) (by simpa using h)) (by simpa using hend)
end

theorem byte_eq {c : UInt8} {n : Nat} (hn : n < 256) : ((c.toNat : Int) == (n : Int)) = (c == UInt8.ofNat n) := by
  rw [Bool.eq_iff_iff, beq_iff_eq, beq_iff_eq]
  constructor
  · intro h
    have : c.toNat = n := by omega
    rw [← this, UInt8.ofNat_toNat]
  · rintro rfl
    simp
    omega

theorem contains_take {s : List UInt8} {n : Nat} {c : UInt8} (h : n ≤ s.length) : anyN n (fun i => s.getD i 0 == c) = (s.take n).contains c := by
  rw [Bool.eq_iff_iff, anyN_iff, List.contains_iff_mem]
  simp only [beq_iff_eq]
  constructor
  · rintro ⟨i, hi, rfl⟩
    rw [getD_of (by omega), ← List.getElem_take (j := n) (h := by simp; omega)]
    exact List.getElem_mem _
  · intro hm
    obtain ⟨i, hi, rfl⟩ := List.mem_iff_getElem.1 hm
    simp only [List.length_take] at hi
    exact ⟨i, by omega, by rw [getD_of (by omega), List.getElem_take]⟩
end Go.Dn
end

section
/- Marking all of a value, and looking whether the marks stand. -/
namespace Go.Dn

def markL {α : Type} (m : α → Int → α × Int) : List α → Int → List α × Int
  | [], k => ([], k)
  | x :: xs, k => ((m x k).1 :: (markL m xs (m x k).2).1, (markL m xs (m x k).2).2)

/-- Every number and text in a value replaced by the next mark. -/
def mk (tx : Int → List UInt8) : (t : Ty) → PV t → Int → PV t × Int
  | .int _, _, k => (k, k + 1)
  | .bool, b, k => (b, k)
  | .str, _, k => (tx k, k + 1)
  | .unit, _, k => ((), k)
  | .pair a b, x, k => (((mk tx a x.1 k).1, (mk tx b x.2 (mk tx a x.1 k).2).1), (mk tx b x.2 (mk tx a x.1 k).2).2)
  | .slice _ t, xs, k => markL (mk tx t) xs k

/-- How many marks. -/
def cn : (t : Ty) → PV t → Nat
  | .int _, _ => 1
  | .bool, _ => 0
  | .str, _ => 1
  | .unit, _ => 0
  | .pair a b, x => cn a x.1 + cn b x.2
  | .slice _ t, xs => ((xs : List (PV t)).map (cn t)).sum

theorem markL_cn {α : Type} {m : α → Int → α × Int} {c : α → Nat} : ∀ {xs : List α}, (∀ x ∈ xs, ∀ k, (m x k).2 = k + c x) → ∀ k, (markL m xs k).2 = k + ((xs.map c).sum : Nat)
  | [], _, k => by simp [markL]
  | x :: xs, h, k => by
    simp only [markL, List.map_cons, List.sum_cons]
    rw [markL_cn (fun y hy => h y (List.mem_cons_of_mem _ hy)), h x (List.mem_cons_self ..)]
    omega

theorem mk_cn (tx : Int → List UInt8) : ∀ (t : Ty) (x : PV t) (k : Int), (mk tx t x k).2 = k + (cn t x : Nat)
  | .int _, _, k => by simp [mk, cn]
  | .bool, _, k => by simp [mk, cn]
  | .str, _, k => by simp [mk, cn]
  | .unit, _, k => by simp [mk, cn]
  | .pair a b, x, k => by
    simp only [mk, cn]
    rw [mk_cn tx b, mk_cn tx a]
    omega
  | .slice _ t, xs, k => by
    simp only [mk, cn]
    exact markL_cn (fun x _ k => mk_cn tx t x k) k

theorem mk_pair (tx : Int → List UInt8) (a b : Ty) (x : PV a × PV b) (k : Int) : mk tx (.pair a b) x k = (((mk tx a x.1 k).1, (mk tx b x.2 (mk tx a x.1 k).2).1), (mk tx b x.2 (mk tx a x.1 k).2).2) := by simp only [mk]
theorem mk_int (tx : Int → List UInt8) (q : IntKind) (x k : Int) : mk tx (.int q) x k = (k, k + 1) := by simp only [mk]
theorem mk_str (tx : Int → List UInt8) (x : List UInt8) (k : Int) : mk tx .str x k = (tx k, k + 1) := by simp only [mk]
theorem mk_unit (tx : Int → List UInt8) (x : Unit) (k : Int) : mk tx .unit x k = ((), k) := by simp only [mk]

section
variable {T : Ty} {e : TypeId} {tx : Int → List UInt8} {Q : PV T → Prop}

theorem mark_at {B : List (PV T) × Int × Int × Unit → Option ((List (PV T) × Int × Int × Unit) ⊕ (List (PV T) × Int × Unit))} {N : Nat}
    (hstep : ∀ (i : Nat) (ys : List (PV T)) (k : Int) (hi : i < ys.length), ys.length = N → Q ys[i] → 0 ≤ k → k + (cn T ys[i] : Nat) ≤ 4611686018427387904 → B (ys, k, (i : Int), ()) = some (.inl (ys.set i (mk tx T ys[i] k).1, (mk tx T ys[i] k).2, (i : Int) + 1, ())))
    (hend : ∀ (ys : List (PV T)) (k : Int), ys.length = N → B (ys, k, (N : Int), ()) = some (.inr (ys, k, ()))) :
    ∀ (rest done : List (PV T)) (k : Int), done.length + rest.length = N → (∀ x ∈ rest, Q x) → 0 ≤ k → k + ((rest.map (cn T)).sum : Nat) ≤ 4611686018427387904 →
      fix B (done ++ rest, k, (done.length : Int), ()) = some (done ++ (markL (mk tx T) rest k).1, (markL (mk tx T) rest k).2, ())
  | [], done, k, hl, hQ, h0, h1 => by
    rw [List.append_nil]
    have hl' : done.length = N := by simpa using hl
    rw [hl', fix_end (hend done k hl')]
    simp [markL]
  | x :: rest, done, k, hl, hQ, h0, h1 => by
    simp only [List.map_cons, List.sum_cons, List.length_cons] at h1 hl
    have hi : done.length < (done ++ x :: rest).length := by simp
    have hx : (done ++ x :: rest)[done.length] = x := by simp
    have hs := hstep done.length (done ++ x :: rest) k hi (by simp; omega) (by rw [hx]; exact hQ x (List.mem_cons_self ..)) h0 (by rw [hx]; omega)
    rw [fix_go hs, hx]
    have e1 : (done ++ x :: rest).set done.length (mk tx T x k).1 = (done ++ [(mk tx T x k).1]) ++ rest := by
      rw [List.set_append_right _ _ (Nat.le_refl _), Nat.sub_self]
      simp
    have e2 : ((done.length : Int) + 1) = (((done ++ [(mk tx T x k).1]).length : Nat) : Int) := by simp
    have e3 := mk_cn tx T x k
    rw [e1, e2, mark_at hstep hend rest (done ++ [(mk tx T x k).1]) (mk tx T x k).2 (by simp; omega) (fun y hy => hQ y (List.mem_cons_of_mem _ hy)) (by omega) (by omega)]
    simp [markL]

theorem mark_loop {B : List (PV T) × Int × Int × Unit → Option ((List (PV T) × Int × Int × Unit) ⊕ (List (PV T) × Int × Unit))} {xs : List (PV T)} {k : Int}
    (hstep : ∀ (i : Nat) (ys : List (PV T)) (k : Int) (hi : i < ys.length), ys.length = xs.length → Q ys[i] → 0 ≤ k → k + (cn T ys[i] : Nat) ≤ 4611686018427387904 → B (ys, k, (i : Int), ()) = some (.inl (ys.set i (mk tx T ys[i] k).1, (mk tx T ys[i] k).2, (i : Int) + 1, ())))
    (hend : ∀ (ys : List (PV T)) (k : Int), ys.length = xs.length → B (ys, k, (xs.length : Int), ()) = some (.inr (ys, k, ()))) (hQ : ∀ x ∈ xs, Q x) (h0 : 0 ≤ k) (h1 : k + (cn (.slice e T) xs : Nat) ≤ 4611686018427387904) :
    fix B (xs, k, 0, ()) = some ((mk tx (.slice e T) xs k).1, (mk tx (.slice e T) xs k).2, ()) := by
  simp only [cn] at h1
  have := mark_at (tx := tx) hstep hend xs [] k (by simp) hQ h0 h1
  simpa [mk] using this

theorem held_at {B : List (PV T) × Int × Int × Unit → Option ((List (PV T) × Int × Int × Unit) ⊕ ((Int × Unit) ⊕ (Int × Unit)))} {N : Nat}
    (hstep : ∀ (i : Nat) (ys : List (PV T)) (x : PV T) (k : Int) (hi : i < ys.length), ys.length = N → ys[i] = (mk tx T x k).1 → Q x → 0 ≤ k → k + (cn T x : Nat) ≤ 4611686018427387904 → B (ys, k, (i : Int), ()) = some (.inl (ys, (mk tx T x k).2, (i : Int) + 1, ())))
    (hend : ∀ (ys : List (PV T)) (k : Int), ys.length = N → B (ys, k, (N : Int), ()) = some (.inr (.inl (k, ())))) :
    ∀ (rest done : List (PV T)) (k : Int), done.length + rest.length = N → (∀ x ∈ rest, Q x) → 0 ≤ k → k + ((rest.map (cn T)).sum : Nat) ≤ 4611686018427387904 →
      fix B (done ++ (markL (mk tx T) rest k).1, k, (done.length : Int), ()) = some (.inl ((markL (mk tx T) rest k).2, ()))
  | [], done, k, hl, hQ, h0, h1 => by
    simp only [markL, List.append_nil]
    have hl' : done.length = N := by simpa using hl
    rw [hl', fix_end (hend done k hl')]
  | x :: rest, done, k, hl, hQ, h0, h1 => by
    simp only [List.map_cons, List.sum_cons, List.length_cons] at h1 hl
    have hml : ∀ (l : List (PV T)) (k : Int), (markL (mk tx T) l k).1.length = l.length := by
      intro l
      induction l with
      | nil => intro k; rfl
      | cons a l ih => intro k; simp [markL, ih]
    simp only [markL]
    have hi : done.length < (done ++ (mk tx T x k).1 :: (markL (mk tx T) rest (mk tx T x k).2).1).length := by simp
    have hx : (done ++ (mk tx T x k).1 :: (markL (mk tx T) rest (mk tx T x k).2).1)[done.length] = (mk tx T x k).1 := by simp
    rw [fix_go (hstep done.length _ x k hi (by simp [hml]; omega) hx (hQ x (List.mem_cons_self ..)) h0 (by omega))]
    have e2 : ((done.length : Int) + 1) = (((done ++ [(mk tx T x k).1]).length : Nat) : Int) := by simp
    have e3 := mk_cn tx T x k
    have e1 : done ++ (mk tx T x k).1 :: (markL (mk tx T) rest (mk tx T x k).2).1 = (done ++ [(mk tx T x k).1]) ++ (markL (mk tx T) rest (mk tx T x k).2).1 := by simp
    rw [e1, e2, held_at hstep hend rest (done ++ [(mk tx T x k).1]) (mk tx T x k).2 (by simp; omega) (fun y hy => hQ y (List.mem_cons_of_mem _ hy)) (by omega) (by omega)]

theorem held_loop {B : List (PV T) × Int × Int × Unit → Option ((List (PV T) × Int × Int × Unit) ⊕ ((Int × Unit) ⊕ (Int × Unit)))} {xs : List (PV T)} {k : Int}
    (hstep : ∀ (i : Nat) (ys : List (PV T)) (x : PV T) (k : Int) (hi : i < ys.length), ys.length = xs.length → ys[i] = (mk tx T x k).1 → Q x → 0 ≤ k → k + (cn T x : Nat) ≤ 4611686018427387904 → B (ys, k, (i : Int), ()) = some (.inl (ys, (mk tx T x k).2, (i : Int) + 1, ())))
    (hend : ∀ (ys : List (PV T)) (k : Int), ys.length = xs.length → B (ys, k, (xs.length : Int), ()) = some (.inr (.inl (k, ())))) (hQ : ∀ x ∈ xs, Q x) (h0 : 0 ≤ k) (h1 : k + (cn (.slice e T) xs : Nat) ≤ 4611686018427387904) :
    fix B ((mk tx (.slice e T) xs k).1, k, 0, ()) = some (.inl ((mk tx (.slice e T) xs k).2, ())) := by
  simp only [cn] at h1
  have := held_at (tx := tx) hstep hend xs [] k (by simp) hQ h0 h1
  simpa [mk] using this

theorem getD_set_self {α : Type} {ys : List α} {i : Nat} {a d : α} (h : i < ys.length) : (ys.set i a).getD i d = a := by
  simp [List.getD, h]

theorem tot_all {t : Ty} {xs : List (PV t)} {n : Nat} (h : tot (.slice e t) xs ≤ n) : ∀ x ∈ xs, tot t x ≤ n := by
  intro x hx
  obtain ⟨i, hi, rfl⟩ := List.mem_iff_getElem.1 hx
  exact Nat.le_trans (tot_mem (e := e) hi) h

theorem bytes_one (n : Int) : (bytesOfInts [n]).length = 1 := rfl

end
end Go.Dn

namespace Go.Dn
def wd : Ty → Nat
  | .int _ => 1
  | .bool => 0
  | .str => 1
  | .unit => 0
  | .pair a b => wd a + wd b
  | .slice _ _ => 0
def mx : Ty → Nat
  | .pair a b => max (mx a) (mx b)
  | .slice _ t => max (wd t) (mx t)
  | _ => 0

theorem cn_tot : ∀ (t : Ty) (x : PV t), cn t x ≤ wd t + mx t * tot t x
  | .int _, _ => by simp [cn, wd]
  | .bool, _ => by simp [cn]
  | .str, _ => by simp [cn, wd]
  | .unit, _ => by simp [cn]
  | .pair a b, x => by
    have h1 := cn_tot a x.1
    have h2 := cn_tot b x.2
    simp only [cn, wd, mx, tot]
    have h3 : mx a * tot a x.1 ≤ max (mx a) (mx b) * tot a x.1 := Nat.mul_le_mul_right _ (Nat.le_max_left ..)
    have h4 : mx b * tot b x.2 ≤ max (mx a) (mx b) * tot b x.2 := Nat.mul_le_mul_right _ (Nat.le_max_right ..)
    rw [Nat.mul_add]
    omega
  | .slice _ t, xs => by
    simp only [cn, wd, mx, tot]
    have h : ∀ l : List (PV t), (l.map (cn t)).sum ≤ max (wd t) (mx t) * (l.length + (l.map (tot t)).sum) := by
      intro l
      induction l with
      | nil => simp
      | cons x l ih =>
        have h1 := cn_tot t x
        have h2 : mx t * tot t x ≤ max (wd t) (mx t) * tot t x := Nat.mul_le_mul_right _ (Nat.le_max_right ..)
        have h3 : wd t ≤ max (wd t) (mx t) := Nat.le_max_left ..
        simp only [List.map_cons, List.sum_cons, List.length_cons]
        generalize max (wd t) (mx t) = M at *
        have e : M * (l.length + 1 + (tot t x + (l.map (tot t)).sum)) = M * (l.length + (l.map (tot t)).sum) + M * tot t x + M := by
          rw [show l.length + 1 + (tot t x + (l.map (tot t)).sum) = (l.length + (l.map (tot t)).sum) + tot t x + 1 from by omega, Nat.mul_add, Nat.mul_add, Nat.mul_one]
        omega
    have := h xs
    omega

theorem cn_tot_le {t : Ty} {x : PV t} {a b : Nat} (ha : wd t ≤ a) (hb : mx t ≤ b) : cn t x ≤ a + b * tot t x := by
  have h1 := cn_tot t x
  have h2 : mx t * tot t x ≤ b * tot t x := Nat.mul_le_mul_right _ hb
  omega
end Go.Dn
end

section
/- The lines of a text. -/
namespace Go.Dn
open Go

/-- The lines of a text, each with its end. -/
def cutP : List UInt8 → List (List UInt8)
  | [] => []
  | b :: s => if b = 10 then [10] :: cutP s else match cutP s with
    | [] => [[b]]
    | h :: t => (b :: h) :: t

theorem cutP_end (s : List UInt8) : cutP (10 :: s) = [10] :: cutP s := by simp [cutP]
theorem cutP_go {b : UInt8} (h : b ≠ 10) (s : List UInt8) : cutP (b :: s) = match cutP s with
    | [] => [[b]]
    | h :: t => (b :: h) :: t := by simp [cutP, h]

theorem cutP_flat : ∀ s : List UInt8, (cutP s).flatten = s
  | [] => rfl
  | b :: s => by
    by_cases h : b = 10
    · subst h; rw [cutP_end, List.flatten_cons, cutP_flat s]; rfl
    · rw [cutP_go h]
      have := cutP_flat s
      cases hc : cutP s with
      | nil => rw [hc] at this; rw [← this]; rfl
      | cons x t => rw [hc] at this; rw [← this]; rfl

theorem cutP_ne : ∀ {s : List UInt8} {l : List UInt8}, l ∈ cutP s → l ≠ []
  | [], _, h => by cases h
  | b :: s, l, hl => by
    by_cases h : b = 10
    · subst h
      rw [cutP_end] at hl
      rcases List.mem_cons.1 hl with rfl | hl
      · simp
      · exact cutP_ne hl
    · rw [cutP_go h] at hl
      cases hc : cutP s with
      | nil => rw [hc] at hl; obtain rfl := List.mem_singleton.1 hl; simp
      | cons x t =>
        rw [hc] at hl
        rcases List.mem_cons.1 hl with rfl | hl
        · simp
        · exact cutP_ne (by rw [hc]; exact List.mem_cons_of_mem _ hl)

theorem cutP_nil {s : List UInt8} (h : s ≠ []) : cutP s ≠ [] := by
  intro h2
  have := cutP_flat s
  rw [h2] at this
  exact h this.symm

/-- A line with its end. -/
def isL (l : List UInt8) : Prop := ∃ t, l = t ++ [10] ∧ (10 : UInt8) ∉ t

theorem cutP_line : ∀ {t : List UInt8} (s : List UInt8), (10 : UInt8) ∉ t → cutP (t ++ 10 :: s) = (t ++ [10]) :: cutP s
  | [], s, _ => cutP_end s
  | b :: t, s, h => by
    rw [List.cons_append, cutP_go (fun e => h (by rw [e]; exact List.mem_cons_self ..)), cutP_line (t := t) s fun m => h (List.mem_cons_of_mem _ m)]
    rfl

theorem cutP_rest : ∀ {t : List UInt8}, (10 : UInt8) ∉ t → t ≠ [] → cutP t = [t]
  | [], _, h => absurd rfl h
  | [b], h, _ => by rw [cutP_go (fun e => h (by rw [e]; exact List.mem_cons_self ..))]; rfl
  | b :: c :: t, h, _ => by
    rw [cutP_go (fun e => h (by rw [e]; exact List.mem_cons_self ..)), cutP_rest (t := c :: t) (fun m => h (List.mem_cons_of_mem _ m)) (by simp)]

theorem cutP_isL {l : List UInt8} (h : isL l) (s : List UInt8) : cutP (l ++ s) = l :: cutP s := by
  obtain ⟨t, rfl, ht⟩ := h
  rw [List.append_assoc, List.singleton_append, cutP_line s ht]

theorem cutP_lines : ∀ {ls : List (List UInt8)}, (∀ l ∈ ls, isL l) → cutP ls.flatten = ls
  | [], _ => rfl
  | l :: ls, h => by rw [List.flatten_cons, cutP_isL (h l (List.mem_cons_self ..)), cutP_lines fun x hx => h x (List.mem_cons_of_mem _ hx)]

theorem cutP_len : ∀ s : List UInt8, (cutP s).length ≤ s.length
  | [] => Nat.le_refl _
  | b :: s => by
    have ih := cutP_len s
    by_cases h : b = 10
    · subst h; rw [cutP_end, List.length_cons, List.length_cons]; omega
    · rw [cutP_go h]
      cases hc : cutP s with
      | nil => simp
      | cons x t => rw [hc] at ih; simp at ih ⊢; omega

theorem mem_flat_len {l : List UInt8} : ∀ {ls : List (List UInt8)}, l ∈ ls → l.length ≤ ls.flatten.length
  | x :: ls, h => by
    rw [List.flatten_cons, List.length_append]
    rcases List.mem_cons.1 h with rfl | h
    · omega
    · have := mem_flat_len h; omega

theorem cutP_mem {s l : List UInt8} (h : l ∈ cutP s) : l.length ≤ s.length := by
  have := mem_flat_len h
  rwa [cutP_flat] at this

/-- .. as strings.SplitAfter cuts it: with what stands behind the last end. -/
def spl : List UInt8 → List (List UInt8)
  | [] => [[]]
  | b :: s => if b = 10 then [10] :: spl s else match spl s with
    | [] => [[b]]
    | h :: t => (b :: h) :: t

theorem spl_end (s : List UInt8) : spl (10 :: s) = [10] :: spl s := by simp [spl]
theorem spl_go {b : UInt8} (h : b ≠ 10) (s : List UInt8) : spl (b :: s) = match spl s with
    | [] => [[b]]
    | h :: t => (b :: h) :: t := by simp [spl, h]
theorem spl_line : ∀ {t : List UInt8} (s : List UInt8), (10 : UInt8) ∉ t → spl (t ++ 10 :: s) = (t ++ [10]) :: spl s
  | [], s, _ => spl_end s
  | b :: t, s, h => by
    rw [List.cons_append, spl_go (fun e => h (by rw [e]; exact List.mem_cons_self ..)), spl_line (t := t) s fun m => h (List.mem_cons_of_mem _ m)]
    rfl
theorem spl_rest : ∀ {t : List UInt8}, (10 : UInt8) ∉ t → spl t = [t]
  | [], _ => rfl
  | b :: t, h => by
    rw [spl_go (fun e => h (by rw [e]; exact List.mem_cons_self ..)), spl_rest (t := t) fun m => h (List.mem_cons_of_mem _ m)]

theorem indexByte_at (c : UInt8) (r : List UInt8) : ∀ {t : List UInt8}, c ∉ t → Lib.indexByte (t ++ c :: r) c = (t.length : Int)
  | [], _ => by simp [Lib.indexByte]
  | b :: t, h => by
    have hb : (b == c) = false := beq_eq_false_iff_ne.2 fun e => h (by rw [e]; exact List.mem_cons_self ..)
    have ih := indexByte_at c r (t := t) fun m => h (List.mem_cons_of_mem _ m)
    rw [List.cons_append]
    unfold Lib.indexByte
    rw [hb, ih]
    simp
theorem indexByte_not (c : UInt8) : ∀ {t : List UInt8}, c ∉ t → Lib.indexByte t c = -1
  | [], _ => rfl
  | b :: t, h => by
    have hb : (b == c) = false := beq_eq_false_iff_ne.2 fun e => h (by rw [e]; exact List.mem_cons_self ..)
    have ih := indexByte_not c (t := t) fun m => h (List.mem_cons_of_mem _ m)
    unfold Lib.indexByte
    rw [hb, ih]
    simp

theorem first_of {c : UInt8} : ∀ {s : List UInt8}, c ∈ s → ∃ t r, s = t ++ c :: r ∧ c ∉ t
  | b :: s, h => by
    by_cases hb : b = c
    · exact ⟨[], s, by rw [hb]; rfl, by simp⟩
    · obtain ⟨t, r, e, ht⟩ := first_of (c := c) (s := s) ((List.mem_cons.1 h).resolve_left fun e => hb e.symm)
      exact ⟨b :: t, r, by rw [e]; rfl, fun m => (List.mem_cons.1 m).elim (fun e => hb e.symm) ht⟩

theorem splitK_spl : ∀ (k : Nat) (s : List UInt8), s.count 10 = k → Lib.splitK [10] 1 k s = spl s
  | 0, s, h => by
    rw [spl_rest (List.count_eq_zero.1 h)]
    rfl
  | k + 1, s, h => by
    obtain ⟨t, r, rfl, ht⟩ := first_of (c := 10) (s := s) (List.count_pos_iff.1 (by omega))
    have hc : r.count 10 = k := by
      rw [List.count_append, List.count_eq_zero.2 ht, List.count_cons_self] at h
      omega
    unfold Lib.splitK
    rw [Lib.index_one, indexByte_at 10 r ht, if_neg (by simp), spl_line r ht]
    have e1 : ((t.length : Int)).toNat = t.length := by simp
    rw [e1]
    have e2 : (t ++ 10 :: r).take (t.length + 1) = t ++ [10] := by
      rw [show t ++ (10 : UInt8) :: r = (t ++ [10]) ++ r by simp, List.take_left' (by simp)]
    have e3 : (t ++ (10 : UInt8) :: r).drop (t.length + [(10 : UInt8)].length) = r := by
      rw [show t ++ (10 : UInt8) :: r = (t ++ [10]) ++ r by simp, List.drop_left' (by simp)]
    rw [e2, e3, splitK_spl k r hc]

/-- What stands behind the last end. -/
def tailP (s : List UInt8) : List (List UInt8) := bif s.isEmpty || (s.getLast? == some 10) then [[]] else []

theorem spl_cut : ∀ s : List UInt8, spl s = cutP s ++ tailP s
  | [] => rfl
  | b :: s => by
    have ih := spl_cut s
    by_cases h : b = 10
    · subst h
      rw [spl_end, cutP_end, ih, List.cons_append]
      cases s with
      | nil => rfl
      | cons c s => simp [tailP]
    · rw [spl_go h, cutP_go h, ih]
      cases s with
      | nil =>
        have hb : (b == 10) = false := beq_eq_false_iff_ne.2 h
        simp [cutP, tailP, hb]
      | cons c s =>
        have hn := cutP_nil (s := c :: s) (by simp)
        cases hc : cutP (c :: s) with
        | nil => exact absurd hc hn
        | cons x t => simp [tailP]

/-- The lines, out of the pieces. -/
theorem spl_lines {s : List UInt8} (hs : s ≠ []) : ∃ q, spl s = q ++ [(spl s).getLastD []] ∧ (if (spl s).getLastD [] = [] then q else spl s) = cutP s := by
  have h := spl_cut s
  have hn := cutP_nil hs
  cases ht : (s.getLast? == some 10) with
  | true =>
    have e : tailP s = [[]] := by simp [tailP, ht]
    rw [e] at h
    refine ⟨cutP s, ?_, ?_⟩ <;> rw [h] <;> simp
  | false =>
    have e : tailP s = [] := by
      cases s with
      | nil => exact absurd rfl hs
      | cons b s => unfold tailP; rw [ht]; rfl
    rw [e, List.append_nil] at h
    rw [h]
    rcases List.eq_nil_or_concat (cutP s) with h0 | ⟨q, x, hq⟩
    · exact absurd h0 hn
    · have hx : x ≠ [] := cutP_ne (s := s) (by rw [hq]; simp)
      refine ⟨q, ?_, ?_⟩ <;> rw [hq] <;> simp [hx]
end Go.Dn
end

section
/- Numbers of at most four digits, in their one form. -/
namespace Go.Dn
open Go

def isDg (c : UInt8) : Bool := decide (48 ≤ c.toNat) && decide (c.toNat ≤ 57)
def dstep (n : Nat) (c : UInt8) : Nat := 10 * n + (c.toNat - 48)
def dval (s : List UInt8) : Nat := s.foldl dstep 0
/-- No zero ahead. -/
def lead (s : List UInt8) : Bool := match s with
  | [] => false
  | [_] => true
  | c :: _ => !(c == 48)
def canon (s : List UInt8) : Bool := decide (s.length ≤ 4) && (s.all isDg && lead s)

theorem dval_snoc (t : List UInt8) (c : UInt8) : dval (t ++ [c]) = 10 * dval t + (c.toNat - 48) := by
  unfold dval; rw [List.foldl_append]; rfl

theorem lead_init {t : List UInt8} {c : UInt8} (ht : t ≠ []) (h : lead (t ++ [c]) = true) : lead t = true := by
  match t, ht with
  | [a], _ => rfl
  | a :: b :: t, _ => exact h

theorem dig_char {c : UInt8} (h : isDg c = true) : UInt8.ofNat (48 + (c.toNat - 48)) = c := by
  unfold isDg at h
  rw [Bool.and_eq_true, decide_eq_true_eq, decide_eq_true_eq] at h
  rw [show 48 + (c.toNat - 48) = c.toNat by omega, UInt8.ofNat_toNat]
theorem dig_lt {c : UInt8} (h : isDg c = true) : c.toNat - 48 < 10 := by
  unfold isDg at h
  rw [Bool.and_eq_true, decide_eq_true_eq, decide_eq_true_eq] at h
  omega

/-- With no zero ahead a number of two digits or more is ten at least. -/
theorem dval_pos : ∀ (n : Nat) {t : List UInt8}, t.length = n → t ≠ [] → t.all isDg = true → (∀ a r, t = a :: r → (a == 48) = false) → 1 ≤ dval t
  | 0, t, hn, h, _, _ => absurd (List.eq_nil_of_length_eq_zero hn) h
  | n + 1, t, hn, _, hd, h0 => by
    rcases List.eq_nil_or_concat t with rfl | ⟨u, c, rfl⟩
    · cases hn
    · rw [List.concat_eq_append] at *
      rw [dval_snoc]
      cases u with
      | nil =>
        have hc := h0 c [] rfl
        have hd' : isDg c = true := by simpa using hd
        unfold isDg at hd'
        rw [Bool.and_eq_true, decide_eq_true_eq, decide_eq_true_eq] at hd'
        have : c.toNat ≠ 48 := fun e => by
          have : c = 48 := by rw [← UInt8.ofNat_toNat (x := c), e]; rfl
          rw [this] at hc; cases hc
        omega
      | cons a r =>
        have ih := dval_pos n (t := a :: r) (by simpa using hn) (by simp) (by
          rw [List.all_append, Bool.and_eq_true] at hd; exact hd.1) (fun a' r' e => by
          obtain ⟨rfl, rfl⟩ := List.cons.inj e
          exact h0 _ (r ++ [c]) rfl)
        omega

theorem dec_dval : ∀ (n : Nat) {s : List UInt8}, s.length = n → s.all isDg = true → lead s = true → Lib.decDigits (dval s) = s
  | 0, s, hn, _, hl => by
    obtain rfl := List.eq_nil_of_length_eq_zero hn
    cases hl
  | n + 1, s, hn, hd, hl => by
    rcases List.eq_nil_or_concat s with rfl | ⟨t, c, rfl⟩
    · cases hn
    · rw [List.concat_eq_append] at *
      have hd2 := hd
      rw [List.all_append, Bool.and_eq_true] at hd2
      have hc : isDg c = true := by simpa using hd2.2
      have h10 := dig_lt hc
      rw [dval_snoc]
      by_cases ht : t = []
      · subst ht
        rw [show dval [] = 0 from rfl, Lib.decDigits_one (by omega)]
        rw [show 48 + (10 * 0 + (c.toNat - 48)) = 48 + (c.toNat - 48) by omega, dig_char hc]
        rfl
      · have hne : ∀ a r, t = a :: r → (a == 48) = false := fun a r e => by
          subst e
          have : lead (a :: (r ++ [c])) = true := hl
          cases hr : r ++ [c] with
          | nil => simp at hr
          | cons b q => rw [hr] at this; simpa [lead] using this
        have hp := dval_pos t.length rfl ht hd2.1 hne
        rw [Lib.decDigits, dif_neg (by omega)]
        rw [show (10 * dval t + (c.toNat - 48)) / 10 = dval t by omega, show (10 * dval t + (c.toNat - 48)) % 10 = c.toNat - 48 by omega, dig_char hc, dec_dval n (by simpa using hn) hd2.1 (lead_init ht hl)]

theorem digits_ok : ∀ (u : Nat), (Lib.decDigits u).all isDg = true ∧ lead (Lib.decDigits u) = true ∧ dval (Lib.decDigits u) = u ∧ (Lib.decDigits u) ≠ [] ∧ (1 ≤ u → ∀ a r, Lib.decDigits u = a :: r → (a == 48) = false) := by
  intro u
  induction u using Nat.strongRecOn with
  | _ u ih =>
    have hch : ∀ d, d < 10 → (UInt8.ofNat (48 + d)).toNat = 48 + d := fun d hd => by simp; omega
    have hdg : ∀ d, d < 10 → isDg (UInt8.ofNat (48 + d)) = true := fun d hd => by
      unfold isDg
      rw [hch d hd, decide_eq_true (by omega), decide_eq_true (by omega)]; rfl
    by_cases h : u < 10
    · rw [Lib.decDigits_one h]
      refine ⟨by rw [List.all_cons, hdg u h]; rfl, rfl, ?_, by simp, fun h1 a r e => ?_⟩
      · show dstep 0 _ = u
        unfold dstep
        rw [hch u h]; omega
      · obtain ⟨rfl, rfl⟩ := List.cons.inj e
        rw [beq_eq_false_iff_ne]
        intro e2
        have := congrArg UInt8.toNat e2
        rw [hch u h] at this
        simp at this
        omega
    · obtain ⟨q1, q2, q3, q4, q5⟩ := ih (u / 10) (by omega)
      have hm := Nat.mod_lt u (by omega : 10 > 0)
      rw [Lib.decDigits, dif_neg h]
      have hq5 := q5 (by omega)
      obtain ⟨a, r, e⟩ := List.exists_cons_of_ne_nil q4
      refine ⟨by rw [List.all_append, q1, List.all_cons, hdg _ hm]; rfl, ?_, ?_, by simp, fun _ a' r' e' => ?_⟩
      · rw [e]
        have := hq5 a r e
        cases r with
        | nil => simp [lead, this]
        | cons b r => simp [lead, this]
      · rw [dval_snoc, q3, hch _ hm]; omega
      · rw [e, List.cons_append] at e'
        obtain ⟨rfl, _⟩ := List.cons.inj e'
        exact hq5 a r e

theorem dval_lt : ∀ (n : Nat) {s : List UInt8}, s.length = n → s.all isDg = true → dval s < 10 ^ n
  | 0, s, hn, _ => by
    obtain rfl := List.eq_nil_of_length_eq_zero hn
    decide
  | n + 1, s, hn, hd => by
    rcases List.eq_nil_or_concat s with rfl | ⟨t, c, rfl⟩
    · cases hn
    · rw [List.concat_eq_append] at *
      rw [List.all_append, Bool.and_eq_true] at hd
      have ih := dval_lt n (s := t) (by simpa using hn) hd.1
      have := dig_lt (c := c) (by simpa using hd.2)
      rw [dval_snoc, Nat.pow_succ]
      omega

theorem parse_dig : ∀ {s : List UInt8} {acc : Nat}, (acc + 1) * 10 ^ s.length ≤ 1000000000 → s.all isDg = true → Lib.parseUint10 acc s = .ok (s.foldl dstep acc)
  | [], _, _, _ => rfl
  | c :: s, acc, ha, hd => by
    rw [List.all_cons, Bool.and_eq_true] at hd
    have h10 := dig_lt hd.1
    have hc := hd.1
    unfold isDg at hc
    rw [Bool.and_eq_true, decide_eq_true_eq, decide_eq_true_eq] at hc
    have hp : 1 ≤ 10 ^ s.length := Nat.one_le_pow _ _ (by omega)
    rw [List.length_cons, Nat.pow_succ, Nat.mul_comm (10 ^ s.length) 10, ← Nat.mul_assoc] at ha
    have ha1 : (acc + 1) * 10 ≤ 1000000000 := Nat.le_trans (Nat.le_mul_of_pos_right _ hp) ha
    unfold Lib.parseUint10
    rw [if_pos hc, if_neg (by omega), if_neg (by omega)]
    have : acc * 10 + (c.toNat - 48) = dstep acc c := by unfold dstep; omega
    rw [this, List.foldl_cons]
    refine parse_dig (Nat.le_trans (Nat.mul_le_mul_right _ ?_) ha) hd.2
    unfold dstep
    omega

theorem canon_at {s : List UInt8} (h : canon s = true) : s.length ≤ 4 ∧ s.all isDg = true ∧ lead s = true ∧ s ≠ [] := by
  unfold canon at h
  rw [Bool.and_eq_true, Bool.and_eq_true, decide_eq_true_eq] at h
  exact ⟨h.1, h.2.1, h.2.2, fun e => by rw [e] at h; cases h.2.2⟩

theorem atoi_canon {s : List UInt8} (h : canon s = true) : Lib.atoiAll s = .ok (dval s : Int) := by
  obtain ⟨h1, h2, h3, h4⟩ := canon_at h
  obtain ⟨c, r, rfl⟩ := List.exists_cons_of_ne_nil h4
  have hc : isDg c = true := by rw [List.all_cons, Bool.and_eq_true] at h2; exact h2.1
  unfold isDg at hc
  rw [Bool.and_eq_true, decide_eq_true_eq, decide_eq_true_eq] at hc
  have hlt := dval_lt _ rfl h2
  have hlt4 : dval (c :: r) < 10 ^ 4 := Nat.lt_of_lt_of_le hlt (Nat.pow_le_pow_right (by omega) h1)
  unfold Lib.atoiAll
  dsimp only
  rw [if_neg (by omega)]
  unfold Lib.parseMag
  rw [if_neg (by simp), parse_dig (Nat.le_trans (by rw [Nat.zero_add, Nat.one_mul]; exact Nat.pow_le_pow_right (by omega) h1) (by omega : 10 ^ 4 ≤ 1000000000)) h2]
  dsimp only
  rw [show (c :: r).foldl dstep 0 = dval (c :: r) from rfl, if_neg (by omega), if_neg (by omega), if_neg (by omega)]

/-- What the program reads as a number. -/
theorem numB_canon (s : List UInt8) : numB s = canon s := by
  rw [Bool.eq_iff_iff]
  constructor
  · intro h
    unfold numB at h
    split at h
    · rename_i v hv
      rw [Bool.and_eq_true, Bool.and_eq_true, decide_eq_true_eq, decide_eq_true_eq, beq_iff_eq] at h
      obtain ⟨h0, h4, he⟩ := h
      obtain ⟨n, rfl⟩ := Int.eq_ofNat_of_zero_le h0
      rw [Lib.itoa_nonneg] at he
      obtain ⟨q1, q2, _⟩ := digits_ok n
      rw [he] at q1 q2
      unfold canon
      rw [q1, q2, decide_eq_true h4]; rfl
    · cases h
  · intro h
    obtain ⟨h1, h2, h3, h4⟩ := canon_at h
    unfold numB
    rw [atoi_canon h]
    dsimp only
    rw [decide_eq_true (Int.natCast_nonneg _), decide_eq_true h1, Lib.itoa_nonneg, dec_dval _ rfl h2 h3]
    simp
theorem numV_canon {s : List UInt8} (h : canon s = true) : numV s = (dval s : Int) := by
  unfold numV
  rw [atoi_canon h]

theorem canon_lt {s : List UInt8} (h : canon s = true) : dval s < 10000 := by
  obtain ⟨h1, h2, h3, h4⟩ := canon_at h
  exact Nat.lt_of_lt_of_le (dval_lt _ rfl h2) (Nat.pow_le_pow_right (by omega) h1)

theorem canon_dec {n : Nat} (h : n < 10000) : canon (Lib.decDigits n) = true ∧ dval (Lib.decDigits n) = n := by
  obtain ⟨q1, q2, q3, _⟩ := digits_ok n
  refine ⟨?_, q3⟩
  unfold canon
  rw [q1, q2, Lib.decDigits_length]
  have : Lib.nDigits n ≤ 4 := by
    rcases Nat.lt_or_ge n 10 with h1 | h1
    · rw [Lib.nDigits_small h1]; omega
    · rcases Nat.lt_or_ge n 100 with h2 | h2
      · rw [Lib.nDigits_unique 1 n h1 h2]; omega
      · rcases Nat.lt_or_ge n 1000 with h3 | h3
        · rw [Lib.nDigits_unique 2 n h2 h3]; omega
        · rw [Lib.nDigits_unique 3 n h3 h]; omega
  rw [decide_eq_true this]; rfl

theorem canon_dg {s : List UInt8} (h : canon s = true) : ∀ c ∈ s, isDg c = true := fun c hc => List.all_eq_true.1 (canon_at h).2.1 c hc

/-! ### two numbers with a comma between -/
def comma (s : List UInt8) : Option (List UInt8 × List UInt8) := if 44 ∈ s then some (s.takeWhile (· != 44), (s.dropWhile (· != 44)).drop 1) else none

theorem comma_no {s : List UInt8} (h : (44 : UInt8) ∉ s) : comma s = none := if_neg h
theorem comma_at {a : List UInt8} (b : List UInt8) (h : (44 : UInt8) ∉ a) : comma (a ++ 44 :: b) = some (a, b) := by
  unfold comma
  rw [if_pos (by simp)]
  have h1 : (a ++ 44 :: b).takeWhile (· != (44 : UInt8)) = a := by
    rw [List.takeWhile_append_of_pos (fun x hx => by simp; exact fun e => h (e ▸ hx))]
    simp
  have h2 : (a ++ 44 :: b).dropWhile (· != (44 : UInt8)) = 44 :: b := by
    rw [List.dropWhile_append_of_pos (fun x hx => by simp; exact fun e => h (e ▸ hx))]
    simp
  rw [h1, h2]
  rfl

end Go.Dn
end
