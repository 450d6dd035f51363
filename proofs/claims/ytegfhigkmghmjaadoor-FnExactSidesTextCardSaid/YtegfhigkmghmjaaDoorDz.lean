/- Regions whose operations may come in any order: all orders lead to one state. -/
import Derived.Test.YtegfhigkmghmjaaDoorDy
namespace Go.Dn

section
variable {cx : Cx} {E E2 : Env} {off : Nat} {l : List Oper} {R : Type}

def opS (cx : Cx) (rc : Rc) (off : Nat) (l : List Oper) (E : Env) (i : Nat) : Option (Env × List Nat × List Nat) :=
  match l[i]? with
  | none => none
  | some o =>
    match gd E off l o with
    | none => none
    | some true => (opK cx rc E off o some).map fun z => (putE off o.dst z, readsOf cx E off l o, writesOf off o z)
    | some false => some (putE off o.dst (deadZ E), readsOf cx E off l o, writesOf off o (deadZ E))

/-- What is done with the end is apart. -/
def RcNat (rc : Rc) : Prop := ∀ (R : Type) (pl : Plan) (c : Code) (off : Nat) (E : Env) (K : Xt → Env → Option R), rc.run R pl c off E K = (rc.run (Xt × Env) pl c off E (fun x E => some (x, E))).bind fun q => K q.1 q.2

theorem plainK_bind {o : Oper} {K : SU → Option R} : plainK cx E off o K = (plainK cx E off o some).bind K := by
  unfold plainK
  split
  · split
    · exact stepK_bind
    · exact callK_bind
  · exact stepK_bind

theorem plainK_loc {o : Oper} {K : SU → Option R} (hl : E.length = E2.length) (h : LocO E E2 off o.op) : plainK cx E2 off o K = plainK cx E off o K := by
  unfold plainK
  split
  · rename_i c hop
    split
    · exact stepK_loc hl h
    · rw [hop] at h
      exact callK_loc hl fun x hx => h x hx
  · exact stepK_loc hl h

theorem inlK_bind {rc : Rc} (hn : RcNat rc) {f : Func} {pl : Plan} {caps : List Al} {xs : List Operand} {K : Zv → Option R} : inlK rc E off f pl caps xs K = (inlK rc E off f pl caps xs some).bind K := by
  unfold inlK
  cases f.body with
  | none => rfl
  | some c =>
    simp only
    rw [hn R]
    rw [hn Zv]
    rw [Option.bind_assoc]
    congr 1
    funext q
    obtain ⟨x, E2⟩ := q
    cases x with
    | exit id => rfl
    | normal =>
      simp only
      cases retI E.length E2 f.results.toList with
      | none => rfl
      | some q =>
        simp only
        rw [cond_bind]
        rfl
    | ret =>
      simp only
      cases retI E.length E2 f.results.toList with
      | none => rfl
      | some q =>
        simp only
        rw [cond_bind]
        rfl

theorem inlK_out {rc : Rc} (hn : RcNat rc) {f : Func} {pl : Plan} {caps : List Al} {xs : List Operand} {z : Zv} (h : inlK rc E off f pl caps xs some = some z) : z.w = List.range E.length ∧ z.e.length = E.length := by
  unfold inlK at h
  cases hb : f.body with
  | none => rw [hb] at h; cases h
  | some c =>
    rw [hb] at h
    simp only at h
    rw [hn Zv, Option.bind_eq_some_iff] at h
    obtain ⟨⟨x, E2⟩, _, h⟩ := h
    have fin : ∀ (s : Slot) (E3 : Env), (bif E.length == ((keepE (List.range E.length) E3).take E.length).length then some (⟨s, (keepE (List.range E.length) E3).take E.length, List.range E.length⟩ : Zv) else none) = some z → z.w = List.range E.length ∧ z.e.length = E.length := by
      intro s E3 h
      cases hc : E.length == ((keepE (List.range E.length) E3).take E.length).length with
      | false => rw [hc] at h; cases h
      | true =>
        rw [hc] at h
        obtain rfl := Option.some.inj h
        exact ⟨rfl, (by simpa using hc : _ = _).symm⟩
    cases x with
    | exit id => cases h
    | normal =>
      simp only at h
      split at h
      · exact fin _ _ h
      · cases h
    | ret =>
      simp only at h
      split at h
      · exact fin _ _ h
      · cases h

theorem opK_bind {rc : Rc} (hn : RcNat rc) {o : Oper} {K : Zv → Option R} : opK cx rc E off o K = (opK cx rc E off o some).bind K := by
  unfold opK
  split
  · exact inlK_bind hn
  · rw [plainK_bind, plainK_bind (K := fun z => some (⟨z.1, appU E z.2, z.2.map U.ix⟩ : Zv)), Option.bind_assoc]
    rfl

def Agr (E E2 : Env) (ks : List Nat) : Prop := ∀ k ∈ ks, E.at k = E2.at k

theorem reads_guard {o : Oper} (h : Agr E E2 (readsOf cx E off l o)) : gd E2 off l o = gd E off l o := by
  unfold gd
  cases hg : o.guard with
  | none => rfl
  | some q =>
    obtain ⟨g, want⟩ := q
    simp only
    cases ht : (l[g]?).bind (·.dst) with
    | none => rfl
    | some t =>
      simp only
      have : E.at (off + t) = E2.at (off + t) := h _ (by
        unfold readsOf guardT
        rw [hg]
        simp only [Option.bind_some]
        rw [ht]
        simp)
      rw [this]

theorem inlOf_loc {o : Oper} (h : LocO E E2 off o.op) : inlOf cx E2 off o = inlOf cx E off o := by
  unfold inlOf
  split
  · rename_i c hop
    split
    · rename_i fo hc
      rw [hop] at h
      have hf := opd_d (h fo (by simp [Op.operands, Call.operands, hc]))
      rw [hf.1]
    · rfl
  · rfl

theorem reads_loc {o : Oper} (hl : E.length = E2.length) (h : Agr E E2 (readsOf cx E off l o)) : LocO E E2 off o.op ∧ readsOf cx E2 off l o = readsOf cx E off l o ∧ (inlOf cx E off o ≠ none → ∀ k, E.at k = E2.at k) := by
  have hR : ∀ k ∈ opR E off o.op, E.at k = E2.at k := fun k hk => h k (by
    unfold readsOf
    exact List.mem_append_right _ (List.mem_append_left _ hk))
  have hloc : LocO E E2 off o.op := by
    generalize o.op = q at hR
    unfold LocO
    split
    · exact hR _ (List.mem_cons_self ..)
    · trivial
    · rename_i hne1 hne2
      intro x hm
      have e : opR E off q = q.operands.toList.flatMap (rdX E off) := by
        unfold opR
        split
        · exact absurd rfl (hne1 _)
        · rename_i y _; exact absurd rfl (hne2 y)
        · rfl
      rw [e] at hR
      cases x with
      | tmp t =>
        have := fun k hk => hR k (List.mem_flatMap.2 ⟨_, hm, hk⟩)
        simp only [rdX, List.mem_cons, forall_eq_or_imp] at this
        exact this
      | _ => trivial
  refine ⟨hloc, ?_, fun hi k => ?_⟩
  · unfold readsOf
    congr 1
    rw [inlOf_loc hloc, hl]
    congr 1
    clear hloc
    generalize o.op = q at hR
    unfold opR at hR ⊢
    split
    · rfl
    · rfl
    · rename_i hne1 hne2
      have hx : ∀ x ∈ q.operands.toList, ∀ k ∈ rdX E off x, E.at k = E2.at k := by
        intro x hx k hk
        refine hR k ?_
        split
        · exact absurd rfl (hne1 _)
        · rename_i y _; exact absurd rfl (hne2 y)
        · exact List.mem_flatMap.2 ⟨x, hx, hk⟩
      have key : ∀ xs : List Operand, (∀ x ∈ xs, x ∈ q.operands.toList) → xs.flatMap (rdX E2 off) = xs.flatMap (rdX E off) := by
        intro xs
        induction xs with
        | nil => intro _; rfl
        | cons x xs ih =>
          intro hs
          simp only [List.flatMap_cons]
          rw [ih fun y hy => hs y (List.mem_cons_of_mem _ hy)]
          congr 1
          have := hx x (hs x (List.mem_cons_self ..))
          cases x with
          | tmp t => simp only [rdX] at this ⊢; rw [this _ (List.mem_cons_self ..)]
          | _ => rfl
      exact key _ fun _ h => h
  · by_cases hk : k < E.length
    · refine h k ?_
      unfold readsOf
      refine List.mem_append_right _ (List.mem_append_right _ ?_)
      cases hq : inlOf cx E off o with
      | none => exact absurd hq hi
      | some q => exact List.mem_range.2 hk
    · unfold Env.at
      rw [List.getD_eq_getElem?_getD, List.getD_eq_getElem?_getD, List.getElem?_eq_none (by omega), List.getElem?_eq_none (by omega)]

theorem env_ext (hl : E.length = E2.length) (h : ∀ k, E.at k = E2.at k) : E = E2 := by
  apply List.ext_getElem hl
  intro i h1 h2
  have := h i
  rwa [at_of (List.getElem?_eq_getElem h1), at_of (List.getElem?_eq_getElem h2)] at this

theorem opK_loc {rc : Rc} (hn : RcNat rc) {o : Oper} {z : Zv} (hl : E.length = E2.length) (h : opK cx rc E off o some = some z) (hr : Agr E E2 (readsOf cx E off l o)) (hw : Agr E E2 z.w) :
    ∃ e12, opK cx rc E2 off o some = some ⟨z.s, e12, z.w⟩ ∧ e12.length = E2.length ∧ z.e.length = E.length ∧ (∀ k ∈ z.w, e12.at k = z.e.at k) ∧ (∀ k, k ∉ z.w → e12.at k = E2.at k ∧ z.e.at k = E.at k) := by
  obtain ⟨h1, h2, h3⟩ := reads_loc hl hr
  unfold opK at h
  split at h
  · rename_i q hq
    have : E = E2 := env_ext hl (h3 (by rw [hq]; simp))
    subst this
    obtain ⟨k1, k2⟩ := inlK_out hn h
    refine ⟨z.e, ?_, k2, k2, fun _ _ => rfl, fun k hk => ?_⟩
    · unfold opK
      rw [hq]
      exact h
    · rw [k1, List.mem_range] at hk
      have : z.e.at k = E.at k := by
        unfold Env.at
        rw [List.getD_eq_getElem?_getD, List.getD_eq_getElem?_getD, List.getElem?_eq_none (by omega), List.getElem?_eq_none (by omega)]
      exact ⟨this, this⟩
  · rename_i hq
    rw [plainK_bind, Option.bind_eq_some_iff] at h
    obtain ⟨su, hsu, h⟩ := h
    obtain rfl := Option.some.inj h
    refine ⟨appU E2 su.2, ?_, appU_len _ _, appU_len _ _, fun k hk => (appU_at hl (hw k hk)).symm, fun k hk => ?_⟩
    · unfold opK
      rw [inlOf_loc h1, hq]
      simp only
      rw [plainK_loc hl h1, plainK_bind, hsu]
      rfl
    · have : ∀ u ∈ su.2, k ≠ u.ix := fun u hu e => hk (List.mem_map.2 ⟨u, hu, e.symm⟩)
      exact ⟨appU_ne this, appU_ne this⟩

theorem putE_len {dst : Option Tmp} {z : Zv} : (putE off dst z).length = z.e.length := by
  cases dst <;> simp [putE, setNew]

theorem putE_ne {o : Oper} {z : Zv} {k : Nat} (h : k ∉ writesOf off o z) : (putE off o.dst z).at k = z.e.at k := by
  unfold writesOf at h
  rw [List.mem_append, not_or] at h
  cases hd : o.dst with
  | none => rfl
  | some d =>
    rw [hd] at h
    simp only [putE, setNew, at_set]
    rw [if_neg (fun q => h.1 (by simp [q.1]))]

theorem putE_eq {dst : Option Tmp} {s : Slot} {e e2 : Env} {w : List Nat} {k : Nat} (hl : e.length = e2.length) (h : e.at k = e2.at k) : (putE off dst ⟨s, e, w⟩).at k = (putE off dst ⟨s, e2, w⟩).at k := by
  cases dst with
  | none => exact h
  | some d =>
    simp only [putE, setNew, at_set, hl]
    split
    · rename_i q
      rw [← q.1, h]
    · exact h

variable {rc : Rc}

theorem opS_loc (hn : RcNat rc) {i : Nat} {E1 : Env} {rr ww : List Nat} (hl : E.length = E2.length) (h : opS cx rc off l E i = some (E1, rr, ww)) (hr : Agr E E2 rr) (hw : Agr E E2 ww) :
    ∃ E21, opS cx rc off l E2 i = some (E21, rr, ww) ∧ E21.length = E2.length ∧ E1.length = E.length ∧ (∀ k ∈ ww, E21.at k = E1.at k) ∧ (∀ k, k ∉ ww → E21.at k = E2.at k ∧ E1.at k = E.at k) := by
  unfold opS at h
  split at h
  · cases h
  · rename_i o ho
    have main : ∀ (z : Zv) (e12 : Env), E1 = putE off o.dst z → rr = readsOf cx E off l o → ww = writesOf off o z → e12.length = E2.length → z.e.length = E.length → (∀ k ∈ ww, e12.at k = z.e.at k) → (∀ k, k ∉ ww → e12.at k = E2.at k ∧ z.e.at k = E.at k) →
        (putE off o.dst ⟨z.s, e12, z.w⟩).length = E2.length ∧ E1.length = E.length ∧ (∀ k ∈ ww, (putE off o.dst ⟨z.s, e12, z.w⟩).at k = E1.at k) ∧ (∀ k, k ∉ ww → (putE off o.dst ⟨z.s, e12, z.w⟩).at k = E2.at k ∧ E1.at k = E.at k) := by
      rintro z e12 rfl rfl rfl g1 g2 g3 g4
      refine ⟨by rw [putE_len]; exact g1, by rw [putE_len]; exact g2, fun k hk => (putE_eq (by omega) (g3 k hk)), fun k hk => ⟨?_, ?_⟩⟩
      · rw [putE_ne (z := ⟨z.s, e12, z.w⟩) hk]; exact (g4 k hk).1
      · rw [putE_ne hk]; exact (g4 k hk).2
    obtain ⟨_, hrd, _⟩ : True ∧ (Agr E E2 (readsOf cx E off l o) → readsOf cx E2 off l o = readsOf cx E off l o) ∧ True := ⟨trivial, fun q => (reads_loc hl q).2.1, trivial⟩
    split at h
    · cases h
    · rename_i hg
      rw [Option.map_eq_some_iff] at h
      obtain ⟨z, hz, he⟩ := h
      simp only [Prod.mk.injEq] at he
      obtain ⟨rfl, rfl, rfl⟩ := he
      have hwz : Agr E E2 z.w := fun k hk => hw k (by unfold writesOf; exact List.mem_append_right _ hk)
      obtain ⟨e12, k1, k2, k3, k4, k5⟩ := opK_loc hn hl hz hr hwz
      refine ⟨putE off o.dst ⟨z.s, e12, z.w⟩, ?_, main z e12 rfl rfl rfl k2 k3 (fun k hk => ?_) (fun k hk => k5 k fun q => hk (by unfold writesOf; exact List.mem_append_right _ q))⟩
      · unfold opS
        rw [ho]
        simp only
        rw [reads_guard hr, hg]
        simp only
        rw [k1, hrd hr]
        rfl
      · by_cases hkz : k ∈ z.w
        · exact k4 k hkz
        · rw [(k5 k hkz).1, (k5 k hkz).2, hw k hk]
    · rename_i hg
      simp only [Option.some.injEq, Prod.mk.injEq] at h
      obtain ⟨rfl, rfl, rfl⟩ := h
      refine ⟨putE off o.dst (deadZ E2), ?_, main (deadZ E) E2 rfl rfl rfl rfl rfl (fun k hk => (hw k hk).symm) (fun k hk => ⟨rfl, rfl⟩)⟩
      unfold opS
      rw [ho]
      simp only
      rw [reads_guard hr, hg, hrd hr]
      rfl

theorem opS_frame (hn : RcNat rc) {i : Nat} {E1 : Env} {rr ww : List Nat} (h : opS cx rc off l E i = some (E1, rr, ww)) : E1.length = E.length ∧ ∀ k, k ∉ ww → E1.at k = E.at k := by
  obtain ⟨E21, h1, h2, h3, h4, h5⟩ := opS_loc hn (E2 := E) rfl h (fun _ _ => rfl) (fun _ _ => rfl)
  exact ⟨h3, fun k hk => (h5 k hk).2⟩

theorem memN_iff : ∀ {l : List Nat} {k : Nat}, memN l k = true ↔ k ∈ l
  | [], k => by simp [memN]
  | j :: l, k => by
    simp only [memN, List.mem_cons]
    cases h : j == k with
    | true => have : j = k := by simpa using h
              simp [this]
    | false =>
      have : ¬ (k = j) := fun e => by simp [e] at h
      simp [this, memN_iff (l := l)]

theorem disjN_iff {a b : List Nat} : disjN a b = true ↔ ∀ k ∈ a, k ∉ b := by
  simp only [disjN, List.all_eq_true, Bool.not_eq_true']
  constructor
  · intro h k hk hb
    have := h k hk
    rw [memN_iff.2 hb] at this
    cases this
  · intro h k hk
    cases hm : memN b k with
    | false => rfl
    | true => exact absurd (memN_iff.1 hm) (h k hk)

def StepF (cx : Cx) (rc : Rc) (off : Nat) (l : List Oper) (E : Env) (f : Ft) (E1 : Env) : Prop := opS cx rc off l E f.i = some (E1, f.r, f.w)

theorem swap_steps (hn : RcNat rc) {j f : Ft} {E1 E3 : Env} (hj : StepF cx rc off l E j E1) (hf : StepF cx rc off l E1 f E3) (hi : indep j f = true) :
    ∃ E1', StepF cx rc off l E f E1' ∧ StepF cx rc off l E1' j E3 := by
  simp only [indep, Bool.and_eq_true, disjN_iff] at hi
  obtain ⟨i1, i2, i3⟩ := hi
  obtain ⟨lj, fj⟩ := opS_frame hn hj
  obtain ⟨lf, ff⟩ := opS_frame hn hf
  have a1 : Agr E1 E f.r := fun k hk => fj k fun hw => i1 k hw hk
  have a2 : Agr E1 E f.w := fun k hk => fj k fun hw => i2 k hw hk
  obtain ⟨E1', g1, g2, g3, g4, g5⟩ := opS_loc hn lj hf a1 a2
  have b1 : Agr E E1' j.r := fun k hk => ((g5 k fun hw => i3 k hw hk).1).symm
  have b2 : Agr E E1' j.w := fun k hk => ((g5 k fun hw => i2 k hk hw).1).symm
  obtain ⟨E3', k1, k2, k3, k4, k5⟩ := opS_loc hn g2.symm hj b1 b2
  have : E3' = E3 := by
    refine env_ext (by omega) fun k => ?_
    by_cases hk : k ∈ j.w
    · rw [k4 k hk, ff k (i2 k hk)]
    · rw [(k5 k hk).1]
      by_cases hk2 : k ∈ f.w
      · rw [g4 k hk2]
      · rw [(g5 k hk2).1, ff k hk2, fj k hk]
  exact ⟨E1', g1, by rw [← this]; exact k1⟩

def Run (cx : Cx) (rc : Rc) (off : Nat) (l : List Oper) : Env → List Ft → Env → Prop
  | E, [], E' => E = E'
  | E, f :: fs, E' => ∃ E1, StepF cx rc off l E f E1 ∧ Run cx rc off l E1 fs E'

theorem bubble (hn : RcNat rc) : ∀ {js : List Ft} {E E' : Env} {f : Ft} {ks : List Ft}, (∀ j ∈ js, indep j f = true) → Run cx rc off l E (js ++ f :: ks) E' → Run cx rc off l E (f :: (js ++ ks)) E'
  | [], _, _, _, _, _, h => h
  | j :: js, E, E', f, ks, hi, h => by
    obtain ⟨E1, h1, h2⟩ := h
    obtain ⟨E2, h3, h4⟩ := bubble hn (js := js) (fun j hj => hi j (List.mem_cons_of_mem _ hj)) h2
    obtain ⟨E1', h5, h6⟩ := swap_steps hn h1 h3 (hi j (List.mem_cons_self ..))
    exact ⟨E1', h5, E2, h6, h4⟩

/-! ### what the check gives -/
def AncOk (l : List Oper) : List Ft → Prop
  | [] => True
  | f :: fs => (∀ p, f.anc.testBit p = true → ∃ o e, l[f.i]? = some o ∧ e ∈ o.after.toList ∧ Region.binds .any e = true ∧ (p = e.on ∨ ∃ g ∈ fs, g.i = e.on ∧ g.anc.testBit p = true)) ∧ AncOk l fs

theorem ancAt_mem : ∀ {fs : List Ft} {i p : Nat}, (ancAt fs i).testBit p = true → ∃ g ∈ fs, g.i = i ∧ g.anc.testBit p = true
  | [], _, _, h => by simp [ancAt] at h
  | f :: fs, i, p, h => by
    simp only [ancAt] at h
    cases hq : f.i == i with
    | true => rw [hq] at h; exact ⟨f, List.mem_cons_self .., by simpa using hq, h⟩
    | false =>
      rw [hq] at h
      obtain ⟨g, h1, h2⟩ := ancAt_mem (fs := fs) h
      exact ⟨g, List.mem_cons_of_mem _ h1, h2⟩

theorem ancL_mem {fs : List Ft} : ∀ {es : List Edge} {p : Nat}, (ancL fs es).testBit p = true → ∃ e ∈ es, Region.binds .any e = true ∧ (p = e.on ∨ ∃ g ∈ fs, g.i = e.on ∧ g.anc.testBit p = true)
  | [], p, h => by simp [ancL] at h
  | e :: es, p, h => by
    simp only [ancL] at h
    cases hb : Region.binds .any e with
    | false =>
      rw [hb] at h
      obtain ⟨e', h1, h2⟩ := ancL_mem (es := es) h
      exact ⟨e', List.mem_cons_of_mem _ h1, h2⟩
    | true =>
      rw [hb] at h
      simp only [cond_true, Nat.testBit_or, Bool.or_eq_true] at h
      rcases h with (h | h) | h
      · rw [Nat.testBit_two_pow] at h
        exact ⟨e, List.mem_cons_self .., hb, .inl (by have := of_decide_eq_true h; exact this.symm)⟩
      · exact ⟨e, List.mem_cons_self .., hb, .inr (ancAt_mem h)⟩
      · obtain ⟨e', h1, h2⟩ := ancL_mem (es := es) h
        exact ⟨e', List.mem_cons_of_mem _ h1, h2⟩

def Apart (g f : Ft) : Prop := indep g f = true ∨ f.anc.testBit g.i = true

theorem okD_pair : ∀ {fs : List Ft}, okD fs = true → fs.Pairwise (fun f g => Apart g f)
  | [], _ => List.Pairwise.nil
  | f :: fs, h => by
    simp only [okD, Bool.and_eq_true, List.all_eq_true, Bool.or_eq_true] at h
    exact List.Pairwise.cons (fun g hg => h.1 g hg) (okD_pair h.2)

theorem opsD_run (hn : RcNat rc) {K : Env → Option R} {r : R} : ∀ (os : List Oper) (i : Nat) (E : Env) (fs : List Ft), l.drop i = os → AncOk l fs → opsD cx rc off l os i E fs K = some r →
    ∃ gs E', Run cx rc off l E gs E' ∧ K E' = some r ∧ okD (gs.reverse ++ fs) = true ∧ AncOk l (gs.reverse ++ fs) ∧ gs.map (·.i) = List.range' i os.length
  | [], i, E, fs, _, ha, h => by
    simp only [opsD] at h
    cases hk : okD fs <;> rw [hk] at h
    · cases h
    · exact ⟨[], E, rfl, h, hk, ha, rfl⟩
  | o :: os, i, E, fs, hd, ha, h => by
    have hi : l[i]? = some o := by
      have := congrArg (fun l => l[0]?) hd
      simpa using this
    have hd' : l.drop (i + 1) = os := by rw [← List.tail_drop, hd]; rfl
    simp only [opsD] at h
    rw [guardK_eq] at h
    have hanc : ∀ rr ww, AncOk l (⟨i, rr, ww, ancL fs o.after.toList⟩ :: fs) := fun rr ww => ⟨fun p hp => by
      obtain ⟨e, h1, h2⟩ := ancL_mem hp
      exact ⟨o, e, hi, h1, h2⟩, ha⟩
    have fin : ∀ (f : Ft) (E1 : Env), f.i = i → StepF cx rc off l E f E1 → AncOk l (f :: fs) → opsD cx rc off l os (i + 1) E1 (f :: fs) K = some r →
        ∃ gs E', Run cx rc off l E gs E' ∧ K E' = some r ∧ okD (gs.reverse ++ fs) = true ∧ AncOk l (gs.reverse ++ fs) ∧ gs.map (·.i) = List.range' i (o :: os).length := by
      intro f E1 hfi hs ha' h'
      obtain ⟨gs, E', k1, k2, k3, k4, k5⟩ := opsD_run hn os (i + 1) E1 (f :: fs) hd' ha' h'
      refine ⟨f :: gs, E', ⟨E1, hs, k1⟩, k2, ?_, ?_, ?_⟩
      · simpa using k3
      · simpa using k4
      · simp [hfi, k5, List.range'_succ]
    cases hg : gd E off l o with
    | none => rw [hg] at h; cases h
    | some b =>
      rw [hg] at h
      cases b with
      | true =>
        simp only at h
        rw [opK_bind hn, Option.bind_eq_some_iff] at h
        obtain ⟨z, hz, h⟩ := h
        refine fin _ _ rfl ?_ (hanc _ _) h
        unfold StepF opS
        rw [hi]
        simp only
        rw [hg]
        simp only
        rw [hz]; rfl
      | false =>
        simp only at h
        refine fin _ _ rfl ?_ (hanc _ _) h
        unfold StepF opS
        rw [hi]
        simp only
        rw [hg]

theorem backE_ok : ∀ {os : List Oper} {i j : Nat} {o : Oper}, backE os i = true → os[j]? = some o → ∀ e ∈ o.after.toList, Region.binds .any e = true → e.on < i + j
  | [], _, _, _, _, h => by simp at h
  | o :: os, i, j, o', hb, h => by
    simp only [backE, Bool.and_eq_true, List.all_eq_true] at hb
    cases j with
    | zero =>
      simp only [List.getElem?_cons_zero, Option.some.injEq] at h
      subst h
      intro e he hbd
      have := hb.1 e he
      rw [hbd] at this
      simpa using this
    | succ j =>
      simp only [List.getElem?_cons_succ] at h
      intro e he hbd
      have := backE_ok hb.2 h e he hbd
      omega

def Edges (ops : Array Oper) (listed : Array Bool) (i : Nat) : Prop := ∀ o, ops[i]? = some o → ∀ e ∈ o.after.toList, Region.binds .any e = true → listed.getD e.on false = true

theorem anc_listed {ops : Array Oper} {listed : Array Bool} (hc : ∀ i, listed.getD i false = true → Edges ops listed i) : ∀ {fs : List Ft}, AncOk ops.toList fs → ∀ f ∈ fs, Edges ops listed f.i → ∀ p, f.anc.testBit p = true → listed.getD p false = true
  | [], _, _, hf, _, _, _ => by cases hf
  | g :: fs, ha, f, hf, he, p, hp => by
    obtain ⟨h1, h2⟩ := ha
    cases hf with
    | tail _ hf => exact anc_listed hc h2 f hf he p hp
    | head =>
      obtain ⟨o, e, k1, k2, k3, k4⟩ := h1 p hp
      rw [Array.getElem?_toList] at k1
      have := he o k1 e k2 k3
      rcases k4 with rfl | ⟨g2, m1, m2, m3⟩
      · exact this
      · exact anc_listed hc h2 g2 m1 (by rw [m2]; exact hc _ this) p m3

section
variable {w0 : World} {Pr0 M : Nat → Prop} {outer : List Value} {ds : List Deferred} {P : Program}

theorem stepF_ok (hok : Ok P cx rc w0 Pr0 M) {ops : Array Oper} {Q : Exit → Act → World → Prop} {f : Ft} {E1 : Env} {a : Act} {w : World} {K : Act → World → Prop}
    (hs : StepF cx rc outer.length ops.toList E f E1) (hx : Sx w0 Pr0 M outer ds E a w) (hK : ∀ a w, Sx w0 Pr0 M outer ds E1 a w → K a w) : wpOp P ops Q f.i K a w := by
  unfold StepF opS at hs
  rw [Array.getElem?_toList] at hs
  unfold wpOp
  split at hs
  · cases hs
  · rename_i o ho
    rw [ho]
    simp only
    split at hs
    · cases hs
    · rename_i hg
      rw [gd_ok hx hg]
      rw [Option.map_eq_some_iff] at hs
      obtain ⟨z, hz, he⟩ := hs
      simp only [Prod.mk.injEq] at he
      refine .inl (opK_ok hok hx hz _ _ fun z' a' w' h1 hx' => hK a' w' ?_)
      obtain rfl := Option.some.inj h1
      rw [← he.1]; exact hx'
    · rename_i hg
      rw [gd_ok hx hg]
      simp only [Option.some.injEq, Prod.mk.injEq] at hs
      exact hK _ _ (by rw [← hs.1]; exact skip_put o.dst hx)

theorem pair_mid {α : Type} {S : α → α → Prop} {js ks : List α} {f : α} (h : (js ++ f :: ks).Pairwise S) : (∀ j ∈ js, S j f) ∧ (js ++ ks).Pairwise S ∧ ∀ k ∈ ks, S f k := by
  rw [List.pairwise_append] at h
  obtain ⟨h1, h2, h3⟩ := h
  rw [List.pairwise_cons] at h2
  refine ⟨fun j hj => h3 j hj f (List.mem_cons_self ..), ?_, h2.1⟩
  rw [List.pairwise_append]
  exact ⟨h1, h2.2, fun x hx y hy => h3 x hx y (List.mem_cons_of_mem _ hy)⟩

theorem anyD (hok : Ok P cx rc w0 Pr0 M) (hn : RcNat rc) {ops : Array Oper} {Q : Exit → Act → World → Prop} {E' : Env} (hQ : ∀ a w, Sx w0 Pr0 M outer ds E' a w → Q .normal a w)
    (hback : backE ops.toList 0 = true) {g0 : List Ft} (hanc : AncOk ops.toList g0) :
    ∀ (fuel : Nat) (gs : List Ft) (listed : Array Bool) (E : Env) (a : Act) (w : World), gs.length ≤ fuel → Run cx rc outer.length ops.toList E gs E' → gs.Pairwise Apart → gs.Pairwise (fun g f => g.i < f.i) → (∀ f ∈ gs, f ∈ g0) →
      (∀ i, (∃ f ∈ gs, f.i = i) ↔ i < ops.size ∧ listed.getD i true = false) → listed.size = ops.size → (∀ i, listed.getD i false = true → Edges ops listed i) → Sx w0 Pr0 M outer ds E a w → wpAny P .any ops Q fuel listed a w := by
  have rdy : ∀ (listed : Array Bool) (i : Nat), i ∈ Region.ready .any ops listed → (i < ops.size ∧ listed.getD i true = false) ∧ Edges ops listed i := by
    intro listed i hi
    obtain ⟨h0, o, ho, hall⟩ := mem_ready.1 hi
    refine ⟨⟨(Array.getElem?_eq_some_iff.1 ho).1, h0⟩, fun o' ho' e he hb => ?_⟩
    rw [ho] at ho'
    obtain rfl := Option.some.inj ho'
    exact hall e (by simpa using he) hb
  have done : ∀ (gs : List Ft) (listed : Array Bool) (E : Env) (a : Act) (w : World), Region.ready .any ops listed = [] → Run cx rc outer.length ops.toList E gs E' → gs.Pairwise (fun g f => g.i < f.i) →
      (∀ i, (∃ f ∈ gs, f.i = i) ↔ i < ops.size ∧ listed.getD i true = false) → listed.size = ops.size → Sx w0 Pr0 M outer ds E a w → Q .normal a w := by
    intro gs listed E a w hr hrun hsort hiff hsz hx
    cases gs with
    | nil => obtain rfl := hrun; exact hQ a w hx
    | cons g gs =>
      exfalso
      obtain ⟨hlt, hun⟩ := (hiff g.i).1 ⟨g, List.mem_cons_self .., rfl⟩
      have : g.i ∈ Region.ready .any ops listed := by
        refine mem_ready.2 ⟨hun, ops[g.i], Array.getElem?_eq_getElem hlt, fun e he hb => ?_⟩
        have hon := backE_ok hback (j := g.i) (o := ops[g.i]) (by rw [Array.getElem?_toList]; exact Array.getElem?_eq_getElem hlt) e (by simpa using he) hb
        have hon' : e.on < ops.size := by omega
        have hnot : ¬ (listed.getD e.on true = false) := fun q => by
          obtain ⟨f, hf, hfi⟩ := (hiff e.on).2 ⟨hon', q⟩
          cases hf with
          | head => omega
          | tail _ hf => have := (List.pairwise_cons.1 hsort).1 f hf; omega
        have hl : e.on < listed.size := by omega
        simp only [Array.getD_eq_getD_getElem?, Array.getElem?_eq_getElem hl, Option.getD_some] at hnot ⊢
        simpa using hnot
      rw [hr] at this
      cases this
  intro fuel
  induction fuel with
  | zero =>
    intro gs listed E a w hlen hrun hap hsort hmem hiff hsz hcl hx
    have : gs = [] := List.length_eq_zero_iff.1 (by omega)
    subst this
    have hr : Region.ready .any ops listed = [] := by
      cases h : Region.ready .any ops listed with
      | nil => rfl
      | cons i is =>
        obtain ⟨f, hf, _⟩ := (hiff i).2 (rdy listed i (by rw [h]; exact List.mem_cons_self ..)).1
        cases hf
    exact ⟨hr, done [] listed E a w hr hrun hsort hiff hsz hx⟩
  | succ fuel ih =>
    intro gs listed E a w hlen hrun hap hsort hmem hiff hsz hcl hx
    refine ⟨fun hr => done gs listed E a w hr hrun hsort hiff hsz hx, fun i hi => ?_⟩
    obtain ⟨hun, hed⟩ := rdy listed i hi
    obtain ⟨f, hf, rfl⟩ := (hiff i).2 hun
    obtain ⟨js, ks, rfl⟩ := List.append_of_mem hf
    obtain ⟨p1, p2, p3⟩ := pair_mid hap
    obtain ⟨s1, s2, s3⟩ := pair_mid hsort
    have hind : ∀ j ∈ js, indep j f = true := fun j hj => by
      rcases p1 j hj with h | h
      · exact h
      · exfalso
        have hl := anc_listed hcl hanc f (hmem f hf) hed j.i h
        have hu := ((hiff j.i).1 ⟨j, List.mem_append_left _ hj, rfl⟩).2
        rcases Nat.lt_or_ge j.i listed.size with h' | h'
        · simp only [Array.getD_eq_getD_getElem?, Array.getElem?_eq_getElem h', Option.getD_some] at hl hu
          rw [hl] at hu; cases hu
        · simp [Array.getElem?_eq_none h'] at hl
    obtain ⟨E1, h1, h2⟩ := bubble hn hind hrun
    refine stepF_ok hok h1 hx fun a' w' hx' => ?_
    refine ih (js ++ ks) (listed.setIfInBounds f.i true) E1 a' w' (by simp at hlen ⊢; omega) h2 p2 s2 (fun g hg => hmem g ?_) (fun k => ?_) (by simp [hsz]) (fun k hk => ?_) hx'
    · rcases List.mem_append.1 hg with hg | hg
      · exact List.mem_append_left _ hg
      · exact List.mem_append_right _ (List.mem_cons_of_mem _ hg)
    · have hsplit : (∃ g ∈ js ++ f :: ks, g.i = k) ↔ ((∃ g ∈ js ++ ks, g.i = k) ∨ f.i = k) := by
        constructor
        · rintro ⟨g, hg, rfl⟩
          rcases List.mem_append.1 hg with hg | hg
          · exact .inl ⟨g, List.mem_append_left _ hg, rfl⟩
          · cases hg with
            | head => exact .inr rfl
            | tail _ hg => exact .inl ⟨g, List.mem_append_right _ hg, rfl⟩
        · rintro (⟨g, hg, rfl⟩ | rfl)
          · refine ⟨g, ?_, rfl⟩
            rcases List.mem_append.1 hg with hg | hg
            · exact List.mem_append_left _ hg
            · exact List.mem_append_right _ (List.mem_cons_of_mem _ hg)
          · exact ⟨f, hf, rfl⟩
      have hne : ∀ g ∈ js ++ ks, g.i ≠ f.i := fun g hg => by
        rcases List.mem_append.1 hg with hg | hg
        · have := s1 g hg; omega
        · have := s3 g hg; omega
      by_cases hk : f.i = k
      · constructor
        · rintro ⟨g, hg, he⟩; exact absurd (he.trans hk.symm) (hne g hg)
        · rintro ⟨h3, h4⟩
          have hlt : k < listed.size := by omega
          rw [hk] at h4
          simp [hlt] at h4
      · rw [getD_set_ne true hk]
        have := hiff k
        rw [hsplit] at this
        simp only [hk, or_false] at this
        exact this
    · intro o ho e he hb
      by_cases hk2 : f.i = k
      · exact getD_set_true (hed o (by rw [hk2]; exact ho) e he hb)
      · rw [getD_set_ne false hk2] at hk
        exact getD_set_true (hcl k hk o ho e he hb)

/-- A region. -/
theorem regionK_ok (hok : Ok P cx rc w0 Pr0 M) (hn : RcNat rc) {ops : Array Oper} {draw : Bool} {id : Nat} {Q : Exit → Act → World → Prop} {K : Env → Option R} {r : R} {a : Act} {w : World}
    (hs : regionK cx rc outer.length ops draw E K = some r) (hx : Sx w0 Pr0 M outer ds E a w) (hK : ∀ E a w, K E = some r → Sx w0 Pr0 M outer ds E a w → Q .normal a w) : (Code.region id ops draw).wp P Q a w := by
  cases draw with
  | false =>
    simp only [regionK] at hs
    refine wp_region ?_
    rw [List.range_eq_range', show ops.size = ops.toList.length from Array.length_toList.symm]
    exact opsK_ok hok hK ops.toList 0 E a w rfl hs hx
  | true =>
    simp only [regionK] at hs
    cases hb : backE ops.toList 0 with
    | false => rw [hb] at hs; cases hs
    | true =>
      rw [hb] at hs
      simp only [cond_true] at hs
      obtain ⟨gs, E', h1, h2, h3, h4, h5⟩ := opsD_run hn ops.toList 0 E [] rfl trivial hs
      rw [List.append_nil] at h3 h4
      refine wp_region_any hok.mix ?_
      have hx' : Sx w0 Pr0 M outer ds E a { w with drawn := w.drawn + 1 } := by
        obtain ⟨⟨Pr, B, hst, hN⟩, hds⟩ := hx
        exact ⟨⟨Pr, B, hst.hand (fun _ _ => rfl) (fun k hk b hb => by rw [hN k hk] at hb; cases hb) (fun _ h => h) (fun _ h => .inl h) (fun k hk => by rw [hN k hk]; exact List.nodup_nil)
          (fun j k hj _ _ b hb => by rw [hN j hj] at hb; cases hb) (fun _ _ _ => rfl) rfl rfl rfl (Nat.le_refl _), hN⟩, hds⟩
      have hlen : gs.length = ops.size := by
        have := congrArg List.length h5
        simpa using this
      have hmap : ∀ i, (∃ f ∈ gs, f.i = i) ↔ i < ops.size := fun i => by
        have : i ∈ gs.map (·.i) ↔ i ∈ List.range' 0 ops.toList.length := by rw [h5]
        simpa using this
      refine anyD hok hn (fun a w hx => hK E' a w h2 hx) hb h4 ops.size gs (Array.replicate ops.size false) E a _ (by omega) h1 ?_ ?_ (fun f hf => by simpa using hf) (fun i => ?_) (by simp) (fun i hi => ?_) hx'
      · have := okD_pair h3
        rw [List.pairwise_reverse] at this
        exact this
      · have : (gs.map (·.i)).Pairwise (· < ·) := by rw [h5]; exact List.pairwise_lt_range'
        rw [List.pairwise_map] at this
        exact this
      · rw [hmap]
        constructor
        · intro h; exact ⟨h, by simp [h]⟩
        · exact fun h => h.1
      · exfalso
        rcases Nat.lt_or_ge i ops.size with h' | h'
        · simp [h'] at hi
        · simp [h'] at hi

end
end
end Go.Dn
