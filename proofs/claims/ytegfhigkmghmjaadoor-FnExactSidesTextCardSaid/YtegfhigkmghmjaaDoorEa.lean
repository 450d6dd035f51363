/- Cuts: some slots are kept, the others are forgotten, and what is owned may be given up to be only looked at. -/
import Derived.Test.YtegfhigkmghmjaaDoorDx
namespace Go.Dn

/-- A slot's rows (down to 'o') are no longer owned. -/
def wk1 (k : Nat) (o : Ow) (E : Env) : Env :=
  match (E.at k).s with
  | .val t o' x => E.set k ⟨(E.at k).iv + 1, 0, bif weaken t o' o then .val t o x else .none⟩
  | .var t o' x => E.set k ⟨(E.at k).iv + 1, 0, bif weaken t o' o then .var t o x else .none⟩
  | _ => E

def wkE : List (Nat × Ow) → Env → Env
  | [], E => E
  | (k, o) :: l, E => wkE l (wk1 k o E)

def keepS (keep : List Nat) (E : Env) (k : Nat) (s : Slot) : Slot :=
  bif memN keep k then
    match s with
    | .sub a => bif a.okS E && memN keep a.j then .sub ⟨a.j, a.p, 0, 0⟩ else .none
    | .addr a => bif a.okA E && memN keep a.j then .addr ⟨a.j, a.p, 0, 0⟩ else .none
    | .view a t x => bif (a.okC E && !(E.at a.j).s.isHole) && memN keep a.j then .view ⟨a.j, a.p, 0, 0⟩ t x else .none
    | .fn f as => bif as.all (fun a => a.okA E && memN keep a.j) then .fn f (as.map fun a => ⟨a.j, a.p, 0, 0⟩) else .none
    | s => s
  else .none

def keepL (keep : List Nat) (E : Env) : Nat → List Ent → List Ent
  | _, [] => []
  | k, e :: es => ⟨0, 0, keepS keep E k e.s⟩ :: keepL keep E (k + 1) es

def keepE (keep : List Nat) (E : Env) : Env := keepL keep E 0 E

def Cut.app (off : Nat) (c : Cut) (E : Env) : Env := keepE (List.range off ++ c.keep.map (off + ·)) (wkE (c.wk.map fun q => (off + q.1, q.2)) E)

def ent (s : Slot) : Ent := ⟨0, 0, s⟩

section
variable {w0 : World} {Pr0 M : Nat → Prop} {E : Env} {V : List Value} {w : World} {Pr : Nat → Prop} {B : Nat → List Nat}

theorem StB.wk_go (h : StB w0 Pr0 M E V w Pr B) {k : Nat} {s' : Slot} {b1 b2 : List Nat} {v : Value} (he : E[k]? = some (E.at k)) (hv : V[k]? = some v) (hp : (B k).Perm (b1 ++ b2)) (hN : ∀ k, E.length ≤ k → B k = [])
    (hs : ∀ E' B', B' k = b1 → rootsOf s' = [] → SlotOk w (fun b => Pr b ∨ b ∈ b2) E' V B' k s' v) (hr : rootsOf s' = []) :
    St w0 Pr0 M (E.set k ⟨(E.at k).iv + 1, 0, s'⟩) V w := by
  have hnd : (b1 ++ b2).Nodup := hp.nodup_iff.1 (h.nodup k)
  rw [List.nodup_append] at hnd
  have hk := (List.getElem?_eq_some_iff.1 he).1
  refine ⟨fun b => Pr b ∨ b ∈ b2, fun j => if j = k then b1 else B j, ?_, fun j hj => ?_⟩
  · refine h.pool (fun j => j = k) (by simp [h.len]) (by simp) (fun j hj => ?_) (fun j e v' hj he' hv' => ?_) (fun j hj b hb => ?_) (fun _ h => .inl h) (fun b hb => ?_)
      (fun j hj => ?_) (fun i j hi hj hne b hb hbj => ?_) (fun _ _ _ => rfl) rfl rfl rfl (Nat.le_refl _)
    · exact ⟨List.getElem?_set_ne (Ne.symm hj), rfl, by simp [hj]⟩
    · subst hj
      rw [he] at he'
      rw [hv] at hv'
      obtain rfl := Option.some.inj he'
      obtain rfl := Option.some.inj hv'
      refine ⟨_, _, List.getElem?_set_self hk, hv, hs _ _ (by simp) hr, .inl (Nat.lt_succ_self _)⟩
    · subst hj
      simp only [if_true] at hb
      have : b ∈ B j := hp.mem_iff.2 (List.mem_append_left _ hb)
      exact ⟨.inl ⟨j, rfl, this⟩, (h.free _ _ this).2.2⟩
    · rcases hb with hb | hb
      · exact .inl hb
      · have : b ∈ B k := hp.mem_iff.2 (List.mem_append_right _ hb)
        refine .inr ⟨.inl ⟨k, rfl, this⟩, (h.free _ _ this).2.2, fun j hj hbj => ?_⟩
        subst hj
        simp only [if_true] at hbj
        exact hnd.2.2 b hbj b hb rfl
    · subst hj; simp only [if_true]; exact hnd.1
    · exact absurd (hi.trans hj.symm) hne
  · simp only [List.length_set] at hj
    have : j ≠ k := by omega
    simp only [this, if_false]
    exact hN j hj

theorem St.wk1 {k : Nat} {o : Ow} (h : St w0 Pr0 M E V w) : St w0 Pr0 M (Dn.wk1 k o E) V w := by
  obtain ⟨Pr, B, h, hN⟩ := h
  have get : (∀ t o' x, (E.at k).s = .val t o' x → E[k]? = some (E.at k)) ∧ (∀ t o' x, (E.at k).s = .var t o' x → E[k]? = some (E.at k)) := by
    constructor <;> intro t o' x hs <;> (
      cases he : E[k]? with
      | none => unfold Env.at at hs; rw [List.getD_eq_getElem?_getD, he] at hs; cases hs
      | some e => rw [at_of he])
  unfold Dn.wk1
  split
  · rename_i t o' x hs
    have he := get.1 t o' x hs
    have hk := (List.getElem?_eq_some_iff.1 he).1
    have hv := List.getElem?_eq_getElem (l := V) (i := k) (by rw [← h.len]; exact hk)
    cases hw : weaken t o' o with
    | false => exact h.wk_go he hv (b1 := []) (b2 := B k) (List.Perm.refl _) hN (fun _ _ _ _ => trivial) rfl
    | true =>
      have hso := h.slots k _ _ he hv
      rw [hs] at hso
      obtain ⟨cs, h1, h2⟩ := hso
      obtain ⟨b1, b2, h3, h4⟩ := h2.weaken hw
      refine h.wk_go he hv h3 hN (fun E' B' hb _ => ?_) rfl
      show ValOk _ _ _ _ _ _ _
      rw [hb]
      exact ⟨cs, h1, h4⟩
  · rename_i t o' x hs
    have he := get.2 t o' x hs
    have hk := (List.getElem?_eq_some_iff.1 he).1
    have hv := List.getElem?_eq_getElem (l := V) (i := k) (by rw [← h.len]; exact hk)
    cases hw : weaken t o' o with
    | false => exact h.wk_go he hv (b1 := []) (b2 := B k) (List.Perm.refl _) hN (fun _ _ _ _ => trivial) rfl
    | true =>
      have hso := h.slots k _ _ he hv
      rw [hs] at hso
      obtain ⟨b, cs, bs0, h1, h0, h2, h3⟩ := hso
      obtain ⟨b1, b2, h4, h5⟩ := h2.weaken hw
      refine h.wk_go he hv (b1 := b :: b1) (b2 := b2) (h3.trans (by simpa using h4)) hN (fun E' B' hb _ => ?_) rfl
      show VarOk _ _ _ _ _ _ _
      rw [hb]
      exact ⟨b, cs, b1, h1, h0, h5, List.Perm.refl _⟩
  · exact ⟨Pr, B, h, hN⟩

theorem St.wkE : ∀ {l : List (Nat × Ow)} {E : Env}, St w0 Pr0 M E V w → St w0 Pr0 M (Dn.wkE l E) V w
  | [], _, h => h
  | (_, _) :: l, _, h => St.wkE (l := l) h.wk1

theorem keepL_get {keep : List Nat} {E : Env} : ∀ {es : List Ent} {k i : Nat}, (keepL keep E k es)[i]? = (es[i]?).map fun e => ⟨0, 0, keepS keep E (k + i) e.s⟩
  | [], _, _ => by simp [keepL]
  | e :: es, k, 0 => by simp [keepL]
  | e :: es, k, i + 1 => by
    simp only [keepL, List.getElem?_cons_succ]
    rw [keepL_get, show k + 1 + i = k + (i + 1) by omega]

theorem keepE_get {keep : List Nat} {E : Env} {i : Nat} : (keepE keep E)[i]? = (E[i]?).map fun e => ⟨0, 0, keepS keep E i e.s⟩ := by
  unfold keepE; rw [keepL_get, Nat.zero_add]

theorem keepL_len {keep : List Nat} {E : Env} : ∀ {es : List Ent} {k : Nat}, (keepL keep E k es).length = es.length
  | [], _ => rfl
  | e :: es, k => by simp [keepL, keepL_len]

/-- A root that is kept. -/
theorem keep_root {keep : List Nat} {j : Nat} (hm : memN keep j = true) {s : Slot} (hs : (∃ t o x, s = .val t o x) ∨ (∃ t o x, s = .var t o x) ∨ (∃ iV t o x p, s = .hole iV t o x p)) : keepS keep E j s = s := by
  unfold keepS
  rw [hm]
  rcases hs with ⟨t, o, x, rfl⟩ | ⟨t, o, x, rfl⟩ | ⟨iV, t, o, x, p, rfl⟩ <;> rfl

theorem addrAt_other {s : Slot} {vj v : Value} {q : List PE} (hs : ¬ ((∃ t o x, s = .val t o x) ∨ (∃ t o x, s = .var t o x) ∨ (∃ iV t o x p, s = .hole iV t o x p))) : AddrAt w s vj v q := by
  cases s <;> first | trivial | (exfalso; apply hs; simp)
theorem subAt_other {s : Slot} {vj v : Value} {q : List PE} (hs : ¬ ((∃ t o x, s = .val t o x) ∨ (∃ t o x, s = .var t o x) ∨ (∃ iV t o x p, s = .hole iV t o x p))) : SubAt w s vj v q := by
  cases s <;> first | trivial | (exfalso; apply hs; simp)

theorem keepS_other {keep : List Nat} {j : Nat} {s : Slot} (hs : ¬ ((∃ t o x, s = .val t o x) ∨ (∃ t o x, s = .var t o x) ∨ (∃ iV t o x p, s = .hole iV t o x p))) :
    ¬ ((∃ t o x, keepS keep E j s = .val t o x) ∨ (∃ t o x, keepS keep E j s = .var t o x) ∨ (∃ iV t o x p, keepS keep E j s = .hole iV t o x p)) := by
  unfold keepS
  cases memN keep j
  · simp
  · simp only [cond_true]
    split
    · cases h : (‹Al›.okS E && memN keep ‹Al›.j) <;> simp
    · cases h : (‹Al›.okA E && memN keep ‹Al›.j) <;> simp
    · rename_i a t x; cases h : ((a.okC E && !(E.at a.j).s.isHole) && memN keep a.j) <;> simp
    · rename_i as; cases h : (as.all fun a => a.okA E && memN keep a.j) <;> simp
    · exact hs

theorem keep_take {keep : List Nat} {n j : Nat} {e : Ent} (hj : j < n) (he : E[j]? = some e) : ((keepE keep E).take n)[j]? = some ⟨0, 0, keepS keep E j e.s⟩ := by
  rw [List.getElem?_take, if_pos hj, keepE_get, he]; rfl

theorem take_get {n j : Nat} {v : Value} (hj : j < n) (hv : V[j]? = some v) : (V.take n)[j]? = some v := by rw [List.getElem?_take, if_pos hj, hv]

theorem addr_keep {keep : List Nat} {n : Nat} (hkn : ∀ k, memN keep k = true → k < E.length → k < n) {a : Al} {v : Value} (h : AddrOk w E V a v) (hok : a.okA E = true) (hm : memN keep a.j = true) : AddrOk w ((keepE keep E).take n) (V.take n) ⟨a.j, a.p, 0, 0⟩ v := by
  obtain ⟨e, vj, hl, hv, hk⟩ := h
  have he := at_of hl.1
  simp only [Al.okA, he, Bool.and_eq_true, beq_iff_eq, Bool.or_eq_true] at hok
  obtain ⟨k1, k2⟩ := hk hok.1
  have hjn := hkn a.j hm (List.getElem?_eq_some_iff.1 hl.1).1
  refine ⟨⟨0, 0, keepS keep E a.j e.s⟩, vj, ⟨keep_take hjn hl.1, Nat.le_refl _, fun _ => Nat.le_refl _⟩, take_get hjn hv, fun _ => ⟨k1, fun hp _ => ?_⟩⟩
  · have hcv : e.cv = a.cv := by
      rcases hok.2 with h | h
      · exact h
      · exact absurd (isNil_iff.1 h) hp
    have hA := k2 hp hcv
    by_cases hs : (∃ t o x, e.s = .val t o x) ∨ (∃ t o x, e.s = .var t o x) ∨ (∃ iV t o x p, e.s = .hole iV t o x p)
    · simp only; rw [keep_root hm hs]; exact hA
    · exact addrAt_other (keepS_other hs)

theorem allL_keep {keep : List Nat} {n : Nat} (hkn : ∀ k, memN keep k = true → k < E.length → k < n) : ∀ {as : List Al} {vs : List Value}, (as.all fun a => a.okA E && memN keep a.j) = true → AllL (AddrOk w E V) as vs →
    AllL (AddrOk w ((keepE keep E).take n) (V.take n)) (as.map fun a => ⟨a.j, a.p, 0, 0⟩) vs
  | [], [], _, _ => trivial
  | [], _ :: _, _, h => h.elim
  | _ :: _, [], _, h => h.elim
  | a :: as, v :: vs, hall, h => by
    simp only [List.all_cons, Bool.and_eq_true] at hall
    exact ⟨addr_keep hkn h.1 hall.1.1 hall.1.2, allL_keep hkn (by simpa using hall.2) h.2⟩

theorem StB.keep (h : StB w0 Pr0 M E V w Pr B) {keep : List Nat} {n N : Nat} (hn : n ≤ E.length) (hN : E.length ≤ N) (hkn : ∀ k, memN keep k = true → k < E.length → k < n) :
    StB w0 Pr0 M ((keepE keep E).take n) (V.take n) w Pr (fun k => if k < n then (bif memN keep k then B k else []) else if k = n then B N else []) := by
  have hlen : (keepE keep E).length = E.length := keepL_len
  · have sub : ∀ k, ∃ k', (∀ b, b ∈ (if k < n then (bif memN keep k then B k else []) else if k = n then B N else []) → b ∈ B k') ∧ k' = (if k = n then N else k) := by
      intro k
      refine ⟨_, fun b hb => ?_, rfl⟩
      split at hb
      · rename_i hk
        rw [if_neg (by omega)]
        cases hm : memN keep k <;> rw [hm] at hb
        · cases hb
        · exact hb
      · split at hb
        · rename_i hk; rw [if_pos hk]; exact hb
        · cases hb
    have sub' : ∀ k b, b ∈ (if k < n then (bif memN keep k then B k else []) else if k = n then B N else []) → (k < n ∨ k = n) ∧ b ∈ B (if k = n then N else k) := by
      intro k b hb
      obtain ⟨k', h1, h2⟩ := sub k
      refine ⟨?_, h2 ▸ h1 b hb⟩
      split at hb
      · rename_i hk; exact .inl hk
      · split at hb
        · rename_i hk; exact .inr hk
        · cases hb
    refine { len := by simp only [List.length_take]; rw [hlen, h.len], pr0 := h.pr0, prlt := h.prlt, prnew := h.prnew, slots := fun k e v he hv => ?_, nodup := fun k => ?_, disj := fun j k hne b hb hb' => ?_, free := fun k b hb => h.free _ b (sub' k b hb).2,
             os := h.os, tape := h.tape, output := h.output, size := h.size, frame := h.frame }
    · have hkn' : k < n := by
        have := (List.getElem?_eq_some_iff.1 he).1
        simp only [List.length_take] at this
        omega
      rw [List.getElem?_take, if_pos hkn', keepE_get, Option.map_eq_some_iff] at he
      rw [List.getElem?_take, if_pos hkn'] at hv
      obtain ⟨e0, he0, rfl⟩ := he
      have hso := h.slots k e0 v he0 hv
      simp only
      cases hm : memN keep k with
      | false =>
        have : keepS keep E k e0.s = .none := by unfold keepS; rw [hm]; rfl
        rw [this]; trivial
      | true =>
        have hB : (fun k => if k < n then (bif memN keep k then B k else []) else if k = n then B N else []) k = B k := by simp only [hkn', if_true, hm, cond_true]
        unfold keepS
        rw [hm]
        simp only [cond_true]
        split
        · rename_i a hs
          rw [hs] at hso
          cases hc : (a.okS E && memN keep a.j) with
          | false => trivial
          | true =>
            rw [Bool.and_eq_true] at hc
            obtain ⟨e, vj, hl, hvj, hk⟩ := hso
            have he := at_of hl.1
            have hok := hc.1
            simp only [Al.okS, he, Bool.and_eq_true, beq_iff_eq, Bool.or_eq_true] at hok
            obtain ⟨k1, k2⟩ := hk hok.1
            have hjn := hkn a.j hc.2 (List.getElem?_eq_some_iff.1 hl.1).1
            refine ⟨⟨0, 0, keepS keep E a.j e.s⟩, vj, ⟨keep_take hjn hl.1, Nat.le_refl _, fun _ => Nat.le_refl _⟩, take_get hjn hvj, fun _ => ⟨fun hp hv => ?_, fun _ hp => ?_⟩⟩
            · refine k1 hp ?_
              by_cases hs : (∃ t o x, e.s = .val t o x) ∨ (∃ t o x, e.s = .var t o x) ∨ (∃ iV t o x p, e.s = .hole iV t o x p)
              · simp only at hv; rw [keep_root hc.2 hs] at hv; exact hv
              · have := keepS_other (E := E) (keep := keep) (j := a.j) hs
                cases hq : keepS keep E a.j e.s <;> simp only [hq, Slot.ofVal] at hv this <;> simp_all
            · by_cases hs : (∃ t o x, e.s = .val t o x) ∨ (∃ t o x, e.s = .var t o x) ∨ (∃ iV t o x p, e.s = .hole iV t o x p)
              · simp only at hp ⊢
                rw [keep_root hc.2 hs] at hp ⊢
                refine k2 ?_ hp
                rcases hok.2 with h | ⟨h1, h2⟩
                · exact h
                · rcases hp with hp | hp
                  · exact absurd (isNil_iff.1 h1) hp
                  · rw [h2] at hp; cases hp
              · exact subAt_other (keepS_other hs)
        · rename_i a hs
          rw [hs] at hso
          cases hc : (a.okA E && memN keep a.j) with
          | false => trivial
          | true =>
            rw [Bool.and_eq_true] at hc
            exact addr_keep hkn hso hc.1 hc.2
        · rename_i a t x hs
          rw [hs] at hso
          cases hc : ((a.okC E && !(E.at a.j).s.isHole) && memN keep a.j) with
          | false => trivial
          | true =>
            rw [Bool.and_eq_true, Bool.and_eq_true, Bool.not_eq_true'] at hc
            obtain ⟨⟨hc1, hc2⟩, hc3⟩ := hc
            obtain ⟨e, hl, hk⟩ := hso
            have he := at_of hl.1
            rw [he] at hc2
            simp only [Al.okC, he, Bool.and_eq_true, beq_iff_eq] at hc1
            obtain ⟨cs, q1, q2⟩ := hk hc1.1 hc1.2 hc2
            have hjn := hkn a.j hc3 (List.getElem?_eq_some_iff.1 hl.1).1
            refine ⟨⟨0, 0, keepS keep E a.j e.s⟩, ⟨keep_take hjn hl.1, Nat.le_refl _, fun _ => Nat.le_refl _⟩, fun _ _ _ => ⟨cs, q1, ?_⟩⟩
            have : (fun k => if k < n then (bif memN keep k then B k else []) else if k = n then B N else []) a.j = B a.j := by simp only [hjn, if_true, hc3, cond_true]
            simp only [this]
            exact q2
        · rename_i f as hs
          rw [hs] at hso
          cases hc : (as.all fun a => a.okA E && memN keep a.j) with
          | false => trivial
          | true =>
            obtain ⟨vs, h1, h2⟩ := hso
            exact ⟨vs, h1, allL_keep hkn hc h2⟩
        · rename_i n0 n1 n2 n3
          cases hs : e0.s with
          | none => trivial
          | val t o x => rw [hs] at hso; show ValOk _ _ _ _ _ _ _; rw [hB]; exact hso
          | var t o x => rw [hs] at hso; show VarOk _ _ _ _ _ _ _; rw [hB]; exact hso
          | hole iV t o x p => rw [hs] at hso; show HoleOk _ _ _ _ _ _ _ _ _; rw [hB]; exact hso
          | tup l => rw [hs] at hso; obtain ⟨vs, h1, h2⟩ := hso; exact ⟨vs, h1, by rw [hB]; exact h2⟩
          | bad t x => rw [hs] at hso; exact hso
          | sub a => exact absurd hs (by simp_all)
          | addr a => exact absurd hs (by simp_all)
          | view a t x => first | exact (n0 a t x hs).elim | exact (n1 a t x hs).elim | exact (n2 a t x hs).elim | exact (n3 a t x hs).elim
          | fn f c => exact absurd hs (by simp_all)
    · obtain ⟨k', h1, h2⟩ := sub k
      split
      · cases memN keep k
        · exact List.nodup_nil
        · exact h.nodup k
      · split
        · exact h.nodup N
        · exact List.nodup_nil
    · obtain ⟨p1, p2⟩ := sub' j b hb
      obtain ⟨q1, q2⟩ := sub' k b hb'
      refine h.disj _ _ ?_ b p2 q2
      split <;> split <;> omega

theorem St.keep {keep : List Nat} (h : St w0 Pr0 M E V w) : St w0 Pr0 M (keepE keep E) V w := by
  obtain ⟨Pr, B, h, hN⟩ := h
  have hlen : (keepE keep E).length = E.length := keepL_len
  have := h.keep (keep := keep) (n := E.length) (N := E.length) (Nat.le_refl _) (Nat.le_refl _) (fun _ _ h => h)
  rw [List.take_of_length_le (by omega), List.take_of_length_le (by rw [← h.len]; exact Nat.le_refl _)] at this
  refine ⟨Pr, _, this, fun k hk => ?_⟩
  rw [if_neg (by omega)]
  split
  · exact hN _ (Nat.le_refl _)
  · rfl

theorem St.cut {c : Cut} {off : Nat} (h : St w0 Pr0 M E V w) : St w0 Pr0 M (c.app off E) V w := h.wkE.keep

end
end Go.Dn
