/- An operation looks at no more than what its operands name. -/
import Derived.Test.YtegfhigkmghmjaaDoorDv
namespace Go.Dn

def rootsOf : Slot → List Nat
  | .sub a => [a.j]
  | .addr a => [a.j]
  | .view a _ _ => [a.j]
  | .fn _ caps => caps.map (·.j)
  | _ => []

def Loc (E E2 : Env) (k : Nat) : Prop := E.at k = E2.at k ∧ ∀ j ∈ rootsOf (E.at k).s, E.at j = E2.at j
def LocX (E E2 : Env) (off : Nat) : Operand → Prop
  | .tmp t => Loc E E2 (off + t)
  | _ => True

def DLoc (E E2 : Env) (d : Opd) : Prop := (∀ j ∈ rootsOf d.s, E.at j = E2.at j) ∧ ∀ k, d.ix = some k → E.at k = E2.at k

section
variable {E E2 : Env} {off : Nat} {cx : Cx}

theorem opd_d {x : Operand} (h : LocX E E2 off x) : opd E2 off x = opd E off x ∧ DLoc E E2 (opd E off x) := by
  cases x with
  | tmp t =>
    obtain ⟨h1, h2⟩ := h
    exact ⟨by simp only [opd, h1], h2, fun k hk => by cases hk; exact h1⟩
  | const v => exact ⟨rfl, by cases v <;> simp [opd, constS, rootsOf], fun k hk => by cases hk⟩
  | func f => exact ⟨rfl, by simp [opd, rootsOf], fun k hk => by cases hk⟩
  | global g => exact ⟨rfl, by simp [opd, rootsOf], fun k hk => by cases hk⟩

theorem opdT_d {x : Operand} {t : TypeId} (h : LocX E E2 off x) : opdT cx E2 off t x = opdT cx E off t x ∧ DLoc E E2 (opdT cx E off t x) := by
  unfold opdT
  split
  · split
    · exact ⟨rfl, by simp [rootsOf], fun k hk => by cases hk⟩
    · exact ⟨rfl, by simp [rootsOf], fun k hk => by cases hk⟩
  · exact opd_d h

theorem opdY_d {x : Operand} {t : Ty} (h : LocX E E2 off x) : opdY E2 off t x = opdY E off t x ∧ DLoc E E2 (opdY E off t x) := by
  unfold opdY
  split
  · split
    · exact ⟨rfl, by simp [rootsOf], fun k hk => by cases hk⟩
    · exact ⟨rfl, by simp [rootsOf], fun k hk => by cases hk⟩
  · exact opd_d h

theorem okS_r {a : Al} (h : E.at a.j = E2.at a.j) : a.okS E2 = a.okS E := by simp only [Al.okS, h]
theorem okA_r {a : Al} (h : E.at a.j = E2.at a.j) : a.okA E2 = a.okA E := by simp only [Al.okA, h]
theorem okC_r {a : Al} (h : E.at a.j = E2.at a.j) : a.okC E2 = a.okC E := by simp only [Al.okC, h]

theorem rd_r {d : Opd} (h : DLoc E E2 d) : rd E2 d.s = rd E d.s := by
  obtain ⟨h, _⟩ := h
  cases hs : d.s <;> rw [hs] at h <;> simp only [rd]
  · rename_i a
    have := h a.j (by simp [rootsOf])
    simp only [okS_r this, this]
  · rename_i a t x
    have := h a.j (by simp [rootsOf])
    simp only [okC_r this, this]

theorem take_r {d : Opd} (h : DLoc E E2 d) : take E2 d = take E d := by
  obtain ⟨h, _⟩ := h
  cases hs : d.s <;> rw [hs] at h <;> simp only [take, hs]
  · rename_i a
    have := h a.j (by simp [rootsOf])
    simp only [okS_r this, this]

theorem alias_r {d : Opd} (h : DLoc E E2 d) : alias E2 d = alias E d := by
  obtain ⟨_, h⟩ := h
  cases hs : d.s <;> cases hx : d.ix <;> simp only [alias, hs, hx]
  · rw [h _ hx]
  · rw [h _ hx]

theorem place_r {d : Opd} (h : DLoc E E2 d) : place E2 d = place E d := by
  obtain ⟨h', h⟩ := h
  unfold place
  cases hs : d.s <;> cases hx : d.ix <;> rw [hs] at h' <;> (try (simp only []; done)) <;> (try rfl)
  · simp only []
    rw [h _ hx]
  · rename_i iV _ _ _ _ _
    cases iV
    · rfl
    · simp only []
      rw [h _ hx]
  · rename_i a
    show (bif a.okA E2 then some a else none) = (bif a.okA E then some a else none)
    rw [okA_r (h' a.j (by simp [rootsOf]))]
  · rename_i a _
    show (bif a.okA E2 then some a else none) = (bif a.okA E then some a else none)
    rw [okA_r (h' a.j (by simp [rootsOf]))]

theorem place_root {d : Opd} (h : DLoc E E2 d) {a : Al} (hp : place E d = some a) : E.at a.j = E2.at a.j := by
  obtain ⟨h', h⟩ := h
  unfold place at hp
  split at hp
  · rename_i k hs hx
    cases hp
    exact h _ hx
  · rename_i k hs hx
    cases hp
    exact h _ hx
  · rename_i b hs
    cases hok : b.okA E <;> rw [hok] at hp <;> cases hp
    rw [hs] at h'
    exact h' _ (by simp [rootsOf])
  · cases hp

theorem alias_root' {d : Opd} (h : DLoc E E2 d) {a : Al} (hp : alias E d = .sub a) : E.at a.j = E2.at a.j := by
  obtain ⟨h', h⟩ := h
  unfold alias at hp
  split at hp <;> try (cases hp; done)
  · rename_i t o x k hs hx
    cases hown : owns t o <;> rw [hown] at hp <;> cases hp
    exact h _ hx
  · rename_i t o x hs hx
    cases hown : owns t o <;> rw [hown] at hp <;> cases hp
  · rename_i b hs
    cases hp
    rw [‹d.s = _›] at h'
    exact h' _ (by simp [rootsOf])

theorem alias_view' {d : Opd} (h : DLoc E E2 d) {a : Al} {t : Ty} {x : PV t} (hp : alias E d = .view a t x) : E.at a.j = E2.at a.j := by
  obtain ⟨h', h⟩ := h
  unfold alias at hp
  split at hp <;> try (cases hp; done)
  · rename_i t o x k hs hx
    cases hown : owns t o <;> rw [hown] at hp <;> cases hp
  · rename_i t o x hs hx
    cases hown : owns t o <;> rw [hown] at hp <;> cases hp
  · cases hp
    rw [‹d.s = _›] at h'
    exact h' _ (by simp [rootsOf])

/-! ### .. after updates -/
def U.ix : U → Nat
  | .new k _ => k
  | .cont k _ => k
  | .hol k _ => k
def U.slot : U → Slot
  | .new _ s => s
  | .cont _ s => s
  | .hol _ s => s

theorem at_set (E : Env) (k j : Nat) (e : Ent) : Env.at (E.set k e) j = if j = k ∧ k < E.length then e else E.at j := by
  unfold Env.at
  rw [List.getD_eq_getElem?_getD, List.getD_eq_getElem?_getD, List.getElem?_set]
  by_cases h : k = j
  · subst h
    by_cases h2 : k < E.length
    · simp [h2]
    · simp [h2]
  · have : ¬ (j = k) := fun e => h e.symm
    simp [h, this]

theorem U.app_len (u : U) (E : Env) : (u.app E).length = E.length := by cases u <;> simp [U.app]

theorem appU_len : ∀ (us : List U) (E : Env), (appU E us).length = E.length
  | [], _ => rfl
  | u :: us, E => by rw [appU, appU_len us, U.app_len]

theorem U.app_at {u : U} (hl : E.length = E2.length) {k : Nat} (h : E.at k = E2.at k) : (u.app E).at k = (u.app E2).at k := by
  cases u <;> simp only [U.app, at_set, hl] <;> split
  all_goals first | exact h | (rename_i hk; rw [← hk.1, h])

theorem U.app_ne {u : U} {k : Nat} (h : k ≠ u.ix) : (u.app E).at k = E.at k := by
  cases u <;> simp only [U.app, at_set] <;> rw [if_neg (fun q => h q.1)]

theorem appU_at : ∀ {us : List U} {E E2 : Env}, E.length = E2.length → ∀ {k : Nat}, E.at k = E2.at k → (appU E us).at k = (appU E2 us).at k
  | [], _, _, _, _, h => h
  | u :: us, E, E2, hl, _, h => appU_at (us := us) (by simp [U.app_len, hl]) (U.app_at hl h)

theorem appU_ne : ∀ {us : List U} {E : Env} {k : Nat}, (∀ u ∈ us, k ≠ u.ix) → (appU E us).at k = E.at k
  | [], _, _, _ => rfl
  | u :: us, E, k, h => by
    rw [appU, appU_ne (us := us) (fun v hv => h v (List.mem_cons_of_mem _ hv)), U.app_ne (h u (List.mem_cons_self ..))]

/-- What an update lays down names no other slot. -/
def RF (us : List U) : Prop := ∀ u ∈ us, rootsOf u.slot = []

theorem RF.nil : RF [] := fun _ h => by cases h
theorem RF.append {us us' : List U} (h : RF us) (h' : RF us') : RF (us ++ us') := fun u hu => (List.mem_append.1 hu).elim (h u) (h' u)

theorem Loc.app {u : U} (hu : rootsOf u.slot = []) (hl : E.length = E2.length) {k : Nat} (h : Loc E E2 k) : Loc (u.app E) (u.app E2) k := by
  refine ⟨U.app_at hl h.1, fun j hj => ?_⟩
  by_cases hk : k = u.ix ∧ u.ix < E.length
  · have : ((u.app E).at k).s = u.slot := by cases u <;> simp only [U.app, at_set, U.slot] <;> simp only [U.ix] at hk <;> rw [if_pos hk]
    rw [this, hu] at hj; cases hj
  · have : (u.app E).at k = E.at k := by cases u <;> simp only [U.app, at_set] <;> simp only [U.ix] at hk <;> rw [if_neg hk]
    rw [this] at hj
    exact U.app_at hl (h.2 j hj)

theorem Loc.appU : ∀ {us : List U} {E E2 : Env}, RF us → E.length = E2.length → ∀ {k : Nat}, Loc E E2 k → Loc (Dn.appU E us) (Dn.appU E2 us) k
  | [], _, _, _, _, _, h => h
  | u :: us, E, E2, hr, hl, _, h => Loc.appU (us := us) (fun v hv => hr v (List.mem_cons_of_mem _ hv)) (by simp [U.app_len, hl]) (Loc.app (hr u (List.mem_cons_self ..)) hl h)

theorem LocX.appU {us : List U} (hr : RF us) (hl : E.length = E2.length) {x : Operand} (h : LocX E E2 off x) : LocX (Dn.appU E us) (Dn.appU E2 us) off x := by
  cases x with
  | tmp t => exact Loc.appU hr hl h
  | _ => trivial

theorem take_rf {d : Opd} {v : TV} {us : List U} (h : take E d = some (v, us)) : RF us := by
  unfold take at h
  intro u hu
  split at h
  · rename_i t o x hs
    cases hown : owns t o <;> rw [hown] at h
    · cases h; cases hu
    · cases hx : d.ix <;> rw [hx] at h <;> cases h
      · cases hu
      · cases hu with
        | head => rfl
        | tail _ h => cases h
  · rename_i a hs
    cases hok : a.okS E <;> rw [hok] at h
    · cases h
    · simp only [cond_true] at h
      split at h
      · rename_i t o x hr
        cases hown : owns (getT a.p t) (getO a.p o) <;> rw [hown] at h
        · cases h; cases hu
        · cases hp : isNil a.p <;> rw [hp] at h <;> cases h <;> cases hu with
          | head => rfl
          | tail _ h => cases h
      · rename_i t o x hr
        cases hown : owns (getT a.p t) (getO a.p o) <;> rw [hown] at h
        · cases h; cases hu
        · cases h; cases hu with
          | head => rfl
          | tail _ h => cases h
      · cases h
  · cases h

theorem takeL_loc : ∀ {ps : List (Ty × Operand)} {E E2 : Env}, E.length = E2.length → (∀ q ∈ ps, LocX E E2 off q.2) → takeL off E2 ps = takeL off E ps ∧ ∀ vs us, takeL off E ps = some (vs, us) → RF us
  | [], _, _, _, _ => ⟨rfl, fun vs us h => by simp [takeL] at h; rw [h.2]; exact RF.nil⟩
  | (t, x) :: ps, E, E2, hl, h => by
    have hx := opdY_d (t := t) (h (t, x) (List.mem_cons_self ..))
    simp only at hx
    have ht : take E2 (opdY E off t x) = take E (opdY E off t x) := take_r hx.2
    simp only [takeL, hx.1, ht]
    cases hv : take E (opdY E off t x) with
    | none => exact ⟨rfl, fun vs us h => by simp at h⟩
    | some q =>
      obtain ⟨v, us⟩ := q
      have hr := take_rf hv
      obtain ⟨g1, g2⟩ := takeL_loc (ps := ps) (E := appU E us) (E2 := appU E2 us) (by simp [appU_len, hl]) (fun q hq => LocX.appU hr hl (h q (List.mem_cons_of_mem _ hq)))
      refine ⟨by simp only [g1], fun vs us' hh => ?_⟩
      cases hv2 : takeL off (appU E us) ps with
      | none => simp [hv2] at hh
      | some q =>
        obtain ⟨vs2, us2⟩ := q
        simp only [hv2, Option.some.injEq, Prod.mk.injEq] at hh
        rw [← hh.2]
        exact hr.append (g2 _ _ hv2)

theorem placesOf_loc : ∀ {xs : List Operand}, (∀ x ∈ xs, LocX E E2 off x) → placesOf E2 off xs = placesOf E off xs
  | [], _ => rfl
  | x :: xs, h => by
    have hx := opd_d (h x (List.mem_cons_self ..))
    simp only [placesOf, hx.1, place_r hx.2, placesOf_loc fun y hy => h y (List.mem_cons_of_mem _ hy)]

theorem bound_loc {d : Int} : ∀ {y : Option Operand}, (∀ x, y = some x → LocX E E2 off x) → bound E2 off d y = bound E off d y
  | none, _ => rfl
  | some y, h => by
    have hx := opd_d (h y rfl)
    simp only [bound, hx.1, rd_r hx.2]

theorem look_r {a : Al} (h : E.at a.j = E2.at a.j) : look E2 a = look E a := by simp only [look, h]
theorem ownsAt_r {a : Al} (h : E.at a.j = E2.at a.j) : ownsAt E2 a = ownsAt E a := by simp only [ownsAt, h]

def LocO (E E2 : Env) (off : Nat) (o : Op) : Prop :=
  match o with
  | .move (.tmp t) => E.at (off + t) = E2.at (off + t)
  | .move _ => True
  | o => ∀ x ∈ o.operands.toList, LocX E E2 off x

theorem alias_none {E E2 : Env} (s : Slot) : alias E2 ⟨none, s⟩ = alias E ⟨none, s⟩ := by cases s <;> rfl

variable {R : Type} {K : SU → Option R}

theorem stepK_loc {o : Oper} (hl : E.length = E2.length) (h : LocO E E2 off o.op) : stepK cx E2 off o K = stepK cx E off o K := by
  unfold stepK
  unfold LocO at h
  cases hop : o.op <;> rw [hop] at h <;> (try rfl) <;> (try simp only [])
  case move x =>
    cases x with
    | tmp t =>
      have h' : E.at (off + t) = E2.at (off + t) := h
      have e : opd E2 off (.tmp t) = opd E off (.tmp t) := by simp only [opd, h']
      have a : alias E2 (opd E off (.tmp t)) = alias E (opd E off (.tmp t)) := by
        unfold opd alias
        simp only
        rw [h']
        cases (E2.at (off + t)).s <;> (first | rfl | (simp only [h']))
      rw [e]
      split
      · rfl
      · rw [a]
    | const v =>
      have a : alias E2 (opd E off (.const v)) = alias E (opd E off (.const v)) := alias_none _
      rw [show opd E2 off (.const v) = opd E off (.const v) from rfl]
      split
      · rfl
      · rw [a]
    | func v =>
      have a : alias E2 (opd E off (.func v)) = alias E (opd E off (.func v)) := alias_none _
      rw [show opd E2 off (.func v) = opd E off (.func v) from rfl]
      split
      · rfl
      · rw [a]
    | global v =>
      have a : alias E2 (opd E off (.global v)) = alias E (opd E off (.global v)) := alias_none _
      rw [show opd E2 off (.global v) = opd E off (.global v) from rfl]
      split
      · rfl
      · rw [a]
  case assign x =>
    have hx := opd_d (h x (by simp [Op.operands]))
    have hT := opdT_d (cx := cx) (t := o.type) (h x (by simp [Op.operands]))
    rw [hx.1, alias_r hx.2, hT.1, take_r hT.2]
  case pick c x y =>
    have h1 := opd_d (h c (by simp [Op.operands]))
    have h2 := opd_d (h x (by simp [Op.operands]))
    have h3 := opd_d (h y (by simp [Op.operands]))
    rw [h1.1, h2.1, h3.1, rd_r h1.2, rd_r h2.2, rd_r h3.2]
  case box t x =>
    have hT := opdT_d (cx := cx) (t := t) (h x (by simp [Op.operands]))
    rw [hT.1, take_r hT.2]
  case build t ps =>
    cases lookup cx.tab t with
    | none => rfl
    | some t =>
      have := takeL_loc (off := off) (ps := ps.toList.map fun q => (getT (fpath q.1) t, q.2)) hl (fun q hq => by
        simp only [List.mem_map] at hq
        obtain ⟨p, hp, rfl⟩ := hq
        exact h _ (by simp only [Op.operands]; exact List.mem_map.2 ⟨p, hp, rfl⟩))
      simp only [this.1]
  case buildSlice t n ps =>
    cases hlk : lookup cx.tab t with
    | none => rfl
    | some T =>
      cases T <;> simp only
      rename_i e t'
      have := takeL_loc (off := off) (ps := ps.toList.map fun q => (t', q.2)) hl (fun q hq => by
        simp only [List.mem_map] at hq
        obtain ⟨p, hp, rfl⟩ := hq
        exact h _ (by simp only [Op.operands]; exact List.mem_map.2 ⟨p, hp, rfl⟩))
      simp only [this.1]
  case load t x =>
    have hx := opd_d (h x (by simp [Op.operands]))
    rw [hx.1, place_r hx.2]
    cases hp : place E (opd E off x) with
    | none => rfl
    | some a =>
      have := place_root hx.2 hp
      simp only [look_r this, this]
  case store t x y =>
    have hT := opdT_d (cx := cx) (t := t) (h y (by simp [Op.operands]))
    rw [hT.1, take_r hT.2]
    cases lookup cx.tab t with
    | none => rfl
    | some T =>
      cases hv : take E (opdT cx E off t y) with
      | none => rfl
      | some q =>
        obtain ⟨v, us⟩ := q
        have hr := take_rf hv
        have hx := opd_d (LocX.appU hr hl (h x (by simp [Op.operands])))
        simp only [hx.1, place_r hx.2]
        cases hp : place (appU E us) (opd (appU E us) off x) with
        | none => rfl
        | some a =>
          have := place_root hx.2 hp
          simp only [this]
  case nilCheck x =>
    have hx := opd_d (h x (by simp [Op.operands]))
    rw [hx.1, place_r hx.2]
    cases hp : place E (opd E off x) with
    | none => rfl
    | some a =>
      have := place_root hx.2 hp
      simp only [this]
  case fieldAddr t x f =>
    have hx := opd_d (h x (by simp [Op.operands]))
    rw [hx.1, place_r hx.2]
    cases hp : place E (opd E off x) with
    | none => rfl
    | some a =>
      have := place_root hx.2 hp
      simp only [this]
  case indexAddr t x i =>
    have hx := opd_d (h x (by simp [Op.operands]))
    have hi := opd_d (h i (by simp [Op.operands]))
    rw [hx.1, hi.1, rd_r hi.2, rd_r hx.2, place_r hx.2, alias_r hx.2]
    have h1 : ∀ a, place E (opd E off x) = some a → E2.at a.j = E.at a.j := fun a hp => (place_root hx.2 hp).symm
    have h2 : ∀ a, alias E (opd E off x) = .sub a → E2.at a.j = E.at a.j := fun a hp => (alias_root' hx.2 hp).symm
    cases hp : place E (opd E off x) with
    | none =>
      cases ha : alias E (opd E off x) <;> simp only
      rename_i b
      simp only [ownsAt_r (h2 b ha).symm, h2 b ha]
    | some a =>
      cases ha : alias E (opd E off x) <;> simp only [h1 a hp]
      rename_i b
      simp only [ownsAt_r (h2 b ha).symm, h2 b ha]
  case index t x i =>
    have hx := opd_d (h x (by simp [Op.operands]))
    have hi := opd_d (h i (by simp [Op.operands]))
    rw [hx.1, hi.1, rd_r hi.2, rd_r hx.2]
  case binOp op t x y s =>
    have hx := opdT_d (cx := cx) (t := t) (h x (by simp [Op.operands]))
    have hy := opdT_d (cx := cx) (t := t) (h y (by simp [Op.operands]))
    rw [hx.1, hy.1, rd_r hx.2, rd_r hy.2]
  case unOp op t x =>
    have hx := opd_d (h x (by simp [Op.operands]))
    rw [hx.1, rd_r hx.2]
  case convert s d x =>
    have hx := opd_d (h x (by simp [Op.operands]))
    rw [hx.1, rd_r hx.2]
  case makeFunc fn first captured =>
    cases fn <;> try rfl
    simp only
    rw [placesOf_loc (off := off) (xs := captured.toList) fun x hx => h x (by simp [Op.operands]; exact .inr (by simpa using hx))]
  case makeSlice t l c =>
    have hx := opd_d (h l (by simp [Op.operands]))
    have hy := opd_d (h c (by simp [Op.operands]))
    rw [hx.1, hy.1, rd_r hx.2, rd_r hy.2]
  case slice t x lo hi mx =>
    cases mx with
    | some m => rfl
    | none =>
      have hx := opd_d (h x (by simp [Op.operands]))
      have hb1 : ∀ d, bound E2 off d lo = bound E off d lo := fun d => bound_loc fun y hy => h y (by simp [Op.operands, hy])
      have hb2 : ∀ d, bound E2 off d hi = bound E off d hi := fun d => bound_loc fun y hy => h y (by simp [Op.operands, hy])
      simp only [hx.1, rd_r hx.2, alias_r hx.2, take_r hx.2, hb1, hb2]
      have h1 : ∀ a, alias E (opd E off x) = .sub a → E2.at a.j = E.at a.j := fun a hp => (alias_root' hx.2 hp).symm
      cases ha : alias E (opd E off x) <;> simp only
      simp only [h1 _ ha]
  case extract x i =>
    have hx := opd_d (h x (by simp [Op.operands]))
    rw [hx.1]
  case call c =>
    have hargs : ∀ x ∈ c.args.toList, LocX E E2 off x := fun x hx => h x (by
      simp only [Op.operands, Call.operands, Array.toList_append, List.mem_append]
      exact .inr hx)
    split
    · rename_i x hc hx
      rw [hx] at hargs
      split
      · rename_i tid _
        have hx := opdT_d (cx := cx) (t := tid) (hargs x (by simp))
        rw [hx.1, rd_r hx.2]
      · rfl
    · rename_i x y hc hx
      rw [hx] at hargs
      have hx := opd_d (hargs x (by simp))
      have hy := opd_d (hargs y (by simp))
      rw [hx.1, hy.1, rd_r hx.2, rd_r hy.2]
    · rename_i x y hc hx
      rw [hx] at hargs
      have hx := opd_d (hargs x (by simp))
      have hy := opd_d (hargs y (by simp))
      rw [hx.1, hy.1, rd_r hx.2, rd_r hy.2]
    · rename_i x y hc hx
      rw [hx] at hargs
      have hT := opdT_d (cx := cx) (t := c.argTypes.getD 0 0) (hargs x (by simp))
      rw [hT.1, take_r hT.2]
      cases hv : take E (opdT cx E off (c.argTypes.getD 0 0) x) with
      | none =>
        cases hlk : lookup cx.tab (c.argTypes.getD 0 0) with
        | none => rfl
        | some T => cases T <;> rfl
      | some q =>
        obtain ⟨v, us⟩ := q
        have hr := take_rf hv
        have hy := opdT_d (cx := cx) (t := c.argTypes.getD 0 0) (LocX.appU hr hl (hargs y (by simp)))
        cases hlk : lookup cx.tab (c.argTypes.getD 0 0) with
        | none => rfl
        | some T =>
          cases T <;> try rfl
          obtain ⟨tv, ov, xv⟩ := v
          cases tv <;> try rfl
          cases ov <;> try rfl
          simp only [hy.1, rd_r hy.2, take_r hy.2]
    · rfl

/-! ### calls -/
theorem handOver_loc {m : Mode} {t : Ty} {x : Operand} (h : LocX E E2 off x) : handOver E2 off m t x = handOver E off m t x ∧ ∀ y us b, handOver E off m t x = some (y, us, b) → RF us := by
  have hx := opd_d h
  have hy := opdY_d (t := t) h
  cases m with
  | bor => exact ⟨rfl, fun _ _ _ hh => by cases hh⟩
  | own =>
    simp only [handOver]
    rw [hy.1, take_r hy.2]
    refine ⟨rfl, fun z us b hh => ?_⟩
    cases hv : take E (opdY E off t x) with
    | none => simp [hv] at hh
    | some q =>
      obtain ⟨v, us'⟩ := q
      simp only [hv] at hh
      split at hh
      · cases hf : full v.t v.o <;> rw [hf] at hh <;> cases hh
        exact take_rf hv
      · cases hh
  | «mut» =>
    simp only [handOver]
    rw [hx.1, alias_r hx.2]
    cases ha : alias E (opd E off x) <;> simp only
    case sub a =>
      have := alias_root' hx.2 ha
      simp only [okS_r this, this]
      refine ⟨trivial, fun z us b hh => ?_⟩
      cases hok : a.okS E <;> rw [hok] at hh
      · cases hh
      · simp only [cond_true] at hh
        split at hh
        · split at hh
          · rename_i t' o z' hr _ _ hc
            cases hf : full (getT a.p t') (getO a.p o) <;> rw [hf] at hh
            · cases hh
            · cases hp : isNil a.p <;> rw [hp] at hh <;> cases hh <;> intro u hu <;> cases hu with
              | head => rfl
              | tail _ h => cases h
          · cases hh
        · split at hh
          · rename_i t' o z' hr _ _ hc
            cases hf : full (getT a.p t') (getO a.p o) <;> rw [hf] at hh <;> cases hh
            intro u hu
            cases hu with
            | head => rfl
            | tail _ h => cases h
          · cases hh
        · cases hh
    all_goals exact ⟨trivial, fun _ _ _ hh => by cases hh⟩
  | ptr =>
    simp only [handOver]
    rw [hx.1, place_r hx.2]
    cases ha : place E (opd E off x) with
    | none => exact ⟨rfl, fun _ _ _ hh => by cases hh⟩
    | some a =>
      have := place_root hx.2 ha
      simp only [this]
      refine ⟨trivial, fun z us b hh => ?_⟩
      split at hh
      · split at hh
        · rename_i t' o z' hr _ y hc
          cases hf : full t' o && isNil a.p <;> rw [hf] at hh <;> cases hh
          intro u hu
          cases hu with
          | head => rfl
          | tail _ h => cases h
        · cases hh
      · cases hh

theorem handAll_loc : ∀ {ps : List (Mode × Ty)} {xs : List Operand}, (∀ x ∈ xs, LocX E E2 off x) → handAll E2 off ps xs = handAll E off ps xs ∧ ∀ vs us bs, handAll E off ps xs = some (vs, us, bs) → RF us
  | [], [], _ => ⟨rfl, fun _ _ _ hh => by simp only [handAll, Option.some.injEq, Prod.mk.injEq] at hh; rw [← hh.2.1]; exact RF.nil⟩
  | [], _ :: _, _ => ⟨rfl, fun _ _ _ hh => by simp [handAll] at hh⟩
  | _ :: _, [], _ => ⟨rfl, fun _ _ _ hh => by simp [handAll] at hh⟩
  | (m, t) :: ps, x :: xs, h => by
    have ih := handAll_loc (ps := ps) (xs := xs) fun y hy => h y (List.mem_cons_of_mem _ hy)
    have ho := handOver_loc (m := m) (t := t) (h x (List.mem_cons_self ..))
    cases m with
    | bor =>
      simp only [handAll, ih.1]
      refine ⟨trivial, fun vs us bs hh => ?_⟩
      cases hr : handAll E off ps xs with
      | none => simp [hr] at hh
      | some q =>
        obtain ⟨v, u, b⟩ := q
        simp only [hr, Option.some.injEq, Prod.mk.injEq] at hh
        rw [← hh.2.1]
        exact ih.2 _ _ _ hr
    | _ =>
      simp only [handAll, ho.1]
      refine ⟨trivial, fun vs us bs hh => ?_⟩
      cases hc : ps.all isBor && (ps.length == xs.length) <;> rw [hc] at hh
      · cases hh
      · simp only [cond_true] at hh
        split at hh
        · rename_i y u b hv
          simp only [Option.some.injEq, Prod.mk.injEq] at hh
          rw [← hh.2.1]
          exact ho.2 _ _ _ hv
        · cases hh

theorem lookAll_loc {st : Bool} : ∀ {ps : List (Mode × Ty)} {xs : List Operand} {vs : List SV}, (∀ x ∈ xs, LocX E E2 off x) → lookAll st E2 off ps xs vs = lookAll st E off ps xs vs
  | [], [], [], _ => rfl
  | [], [], _ :: _, _ => rfl
  | [], _ :: _, _, _ => rfl
  | _ :: _, [], _, _ => rfl
  | _ :: _, _ :: _, [], _ => rfl
  | (m, t) :: ps, x :: xs, v :: vs, h => by
    have hy := opdY_d (t := t) (h x (List.mem_cons_self ..))
    have ih := lookAll_loc (st := st) (ps := ps) (xs := xs) (vs := vs) fun y hy => h y (List.mem_cons_of_mem _ hy)
    have : lookOne st E2 off m t x v = lookOne st E off m t x v := by
      cases m <;> simp only [lookOne]
      rw [hy.1, rd_r hy.2]
    simp only [lookAll, ih, this]

theorem callK_loc {c : Call} (hl : E.length = E2.length) (h : ∀ x ∈ c.operands.toList, LocX E E2 off x) : callK cx E2 off c K = callK cx E off c K := by
  unfold callK
  have hargs : ∀ x ∈ c.args.toList, LocX E E2 off x := fun x hx => h x (by
    simp only [Call.operands, Array.toList_append, List.mem_append]
    exact .inr hx)
  split
  · rename_i fo hfo
    have hf := opd_d (h fo (by simp [Call.operands, hfo]))
    rw [hf.1]
    cases (opd E off fo).s <;> try rfl
    rename_i k caps
    cases caps <;> try rfl
    cases hlk : lookup cx.cts k with
    | none => simp only [hlk]
    | some ct =>
      have ha := handAll_loc (ps := ct.pars) hargs
      simp only [hlk, ha.1]
      cases hv : handAll E off ct.pars c.args.toList with
      | none => simp only
      | some q =>
        obtain ⟨vs, us, bs⟩ := q
        simp only
        rw [lookAll_loc fun x hx => LocX.appU (ha.2 _ _ _ hv) hl (hargs x hx)]
  · rfl

end
end Go.Dn
