/- Steps of the state: what is in the hand, taking, laying down. -/
import Derived.Test.YtegfhigkmghmjaaDoorDf
namespace Go.Dn

section
variable {w0 : World} {Pr0 M : Nat → Prop} {E E' : Env} {V V' : List Value} {w w' : World} {Pr Pr' : Nat → Prop} {B B' : Nat → List Nat}

theorem at_of {E : Env} {k : Nat} {e : Ent} (h : E[k]? = some e) : E.at k = e := by
  unfold Env.at; rw [List.getD_eq_getElem?_getD, h]; rfl

theorem SlotOk.reindex {k k' : Nat} {s : Slot} {v : Value} (hB : B k' = B k) (h : SlotOk w Pr E V B k s v) : SlotOk w Pr E V B k' s v := by
  cases s with
  | val t o x => show ValOk _ _ _ _ _ _ _; rw [hB]; exact h
  | var t o x => show VarOk _ _ _ _ _ _ _; rw [hB]; exact h
  | hole iV t o x p => show HoleOk _ _ _ _ _ _ _ _ _; rw [hB]; exact h
  | tup l => obtain ⟨vs, h1, h2⟩ := h; exact ⟨vs, h1, by rw [hB]; exact h2⟩
  | _ => exact h

/-- Only what is in the hand, and new blocks, turn. -/
theorem StB.hand (h : StB w0 Pr0 M E V w Pr B) (hE : ∀ k, k < E.length → B' k = B k)
    (hpool : ∀ k, E.length ≤ k → ∀ b ∈ B' k, ((∃ k', E.length ≤ k' ∧ b ∈ B k') ∨ w.heap.size ≤ b) ∧ b < w'.heap.size)
    (hPr : ∀ b, Pr b → Pr' b)
    (hPr' : ∀ b, Pr' b → Pr b ∨ (((∃ k', E.length ≤ k' ∧ b ∈ B k') ∨ w.heap.size ≤ b) ∧ b < w'.heap.size ∧ ∀ k, E.length ≤ k → b ∉ B' k))
    (hnd : ∀ k, E.length ≤ k → (B' k).Nodup) (hdj : ∀ j k, E.length ≤ j → E.length ≤ k → j ≠ k → ∀ b ∈ B' j, b ∉ B' k)
    (hw : ∀ b, b < w.heap.size → (∀ k, E.length ≤ k → b ∉ B k) → w'.heap[b]? = w.heap[b]?)
    (hos : w'.os = w.os) (htape : w'.tape = w.tape) (hout : w'.output = w.output) (hsz : w.heap.size ≤ w'.heap.size) : StB w0 Pr0 M E V w' Pr' B' :=
  h.pool (fun k => E.length ≤ k) h.len rfl (fun k hk => ⟨rfl, rfl, hE k (by omega)⟩)
    (fun k e v hk he _ => by have := (List.getElem?_eq_some_iff.1 he).1; omega) hpool hPr hPr' hnd hdj hw hos htape hout hsz

def setNew (E : Env) (k : Nat) (s : Slot) : Env := E.set k ⟨(E.at k).iv + 1, 0, s⟩

/-- What is in the hand at N is laid into slot k. -/
def lay (B : Nat → List Nat) (N k : Nat) : Nat → List Nat := fun j => if j = k then B N else if j = N then [] else B j

theorem StB.put (h : StB w0 Pr0 M E V w Pr B) {N k : Nat} (hN : E.length ≤ N) (hk : k < E.length) {s : Slot} {v : Value} (hs : SlotOk w Pr E V B N s v) :
    StB w0 Pr0 M (setNew E k s) (V.set k v) w Pr (lay B N k) := by
  have hkN : k ≠ N := by omega
  have hV : k < V.length := by rw [← h.len]; exact hk
  have hch : ∀ j e v', E[j]? = some e → V[j]? = some v' → Same E (setNew E k s) V (V.set k v) B (lay B N k) w w j ∨ ∃ e' v'', (setNew E k s)[j]? = some e' ∧ (V.set k v)[j]? = some v'' ∧ Bump w w e e' v' v'' := by
    intro j e v' he hv
    by_cases hj : j = k
    · subst hj
      refine .inr ⟨_, _, List.getElem?_set_self hk, List.getElem?_set_self hV, .inl ?_⟩
      rw [at_of he]; exact Nat.lt_succ_self _
    · have hjN : j ≠ N := by have := (List.getElem?_eq_some_iff.1 he).1; omega
      exact .inl ⟨List.getElem?_set_ne (Ne.symm hj), List.getElem?_set_ne (Ne.symm hj), by simp [lay, hj, hjN], fun _ _ => rfl⟩
  refine h.pool (fun j => j = k ∨ j = N) (by simp [setNew, h.len]) (by simp [setNew]) (fun j hj => ?_) (fun j e v' hj he hv => ?_) (fun j hj b hb => ?_) (fun _ h => h) (fun _ h => .inl h)
    (fun j hj => ?_) (fun i j hi hj hne b hb hbj => ?_) (fun _ _ _ => rfl) rfl rfl rfl (Nat.le_refl _)
  · have h1 : j ≠ k := fun e => hj (.inl e)
    have h2 : j ≠ N := fun e => hj (.inr e)
    exact ⟨List.getElem?_set_ne (Ne.symm h1), List.getElem?_set_ne (Ne.symm h1), by simp [lay, h1, h2]⟩
  · rcases hj with rfl | rfl
    · refine ⟨_, _, List.getElem?_set_self hk, List.getElem?_set_self hV, ?_, .inl ?_⟩
      · show SlotOk w Pr (setNew E j s) (V.set j v) (lay B N j) j s v
        have h1 : SlotOk w Pr (setNew E j s) (V.set j v) (fun i => if i = N then B N else lay B N j i) N s v :=
          SlotOk.next (B' := fun i => if i = N then B N else lay B N j i) h (fun _ h => h) (fun _ _ => rfl) (fun i e v' he hv => by
            rcases hch i e v' he hv with ⟨a, b, c, d⟩ | q
            · have : i ≠ N := by have := (List.getElem?_eq_some_iff.1 he).1; omega
              exact .inl ⟨a, b, by simp [this]; exact c, d⟩
            · exact .inr q) (by simp) (fun _ _ => rfl) hs
        have h2 : SlotOk w Pr (setNew E j s) (V.set j v) (fun i => if i = N then B N else lay B N j i) j s v := h1.reindex (by simp [hkN, lay])
        -- the two footprints agree but at N, which nothing names
        cases s with
        | view a t x =>
          obtain ⟨e, q1, q2⟩ := h2
          refine ⟨e, q1, fun i1 i2 i3 => ?_⟩
          obtain ⟨cs, r1, r2⟩ := q2 i1 i2 i3
          have : a.j ≠ N := by have := (List.getElem?_eq_some_iff.1 q1.1).1; simp [setNew] at this; omega
          simp only [this, if_false] at r2
          exact ⟨cs, r1, r2⟩
        | val t o x => simp only [SlotOk, hkN, if_false] at h2 ⊢; exact h2
        | var t o x => simp only [SlotOk, hkN, if_false] at h2 ⊢; exact h2
        | hole iV t o x p => simp only [SlotOk, hkN, if_false] at h2 ⊢; exact h2
        | tup l => simp only [SlotOk, hkN, if_false] at h2 ⊢; exact h2
        | _ => exact h2
      · rw [at_of he]; exact Nat.lt_succ_self _
    · have := (List.getElem?_eq_some_iff.1 he).1; omega
  · rcases hj with rfl | rfl
    · simp only [lay, if_true] at hb
      exact ⟨.inl ⟨N, .inr rfl, hb⟩, (h.free _ _ hb).2.2⟩
    · simp [lay, Ne.symm hkN] at hb
  · rcases hj with rfl | rfl
    · simp only [lay, if_true]; exact h.nodup N
    · simp [lay, Ne.symm hkN]
  · rcases hi with rfl | rfl <;> rcases hj with rfl | rfl
    · exact hne rfl
    · simp [lay, Ne.symm hkN] at hbj
    · simp [lay, Ne.symm hkN] at hb
    · exact hne rfl

/-! ### operands -/
def All (Pr : Nat → Prop) (B : Nat → List Nat) : Nat → Prop := fun b => Pr b ∨ ∃ k, b ∈ B k

def OpdOk (w : World) (Pr : Nat → Prop) (E : Env) (V : List Value) (d : Opd) (v : Value) : Prop :=
  match d.ix with
  | some k => d.s = .none ∨ ∃ e, E[k]? = some e ∧ V[k]? = some v ∧ d.s = e.s
  | none =>
    match d.s with
    | .val t o x => ValOk w Pr v t o x []
    | .fn f caps => caps = [] ∧ v = .func (.func f) #[] #[]
    | .none => True
    | _ => False

theorem ValOk.lend {v : Value} {t : Ty} {o : Ow} {x : PV t} {bs : List Nat} (h : ValOk w Pr v t o x bs) (hs : ∀ b, Pr b ∨ b ∈ bs → Pr' b) : ∃ cs, v = pack t cs ∧ Rep w Pr' t .b cs x [] := by
  obtain ⟨cs, h1, h2⟩ := h
  exact ⟨cs, h1, h2.lend.more hs⟩

theorem opdOk_tmp (h : StB w0 Pr0 M E V w Pr B) {d : Opd} {v : Value} (ho : OpdOk w Pr E V d v) {k : Nat} (hk : d.ix = some k) : SlotOk w Pr E V B k d.s v := by
  unfold OpdOk at ho
  rw [hk] at ho
  rcases ho with h0 | ⟨e, h1, h2, h3⟩
  · rw [h0]; trivial
  · rw [h3]; exact h.slots k e v h1 h2

/-- A root, with its alias. -/
theorem alias_root (h : StB w0 Pr0 M E V w Pr B) {a : Al} {v : Value} (ha : SubOk w E V a v) (hok : a.okS E = true) {iV : Bool} {t : Ty} {o : Ow} {x : PV t}
    (hs : (E.at a.j).s = if iV then .var t o x else .val t o x) :
    ∃ vj, V[a.j]? = some vj ∧ E[a.j]? = some (E.at a.j) ∧ RootOk w Pr iV vj t o x (B a.j) ∧
      ((iV = false ∧ a.p = [] ∧ v = vj) ∨ ((a.p ≠ [] ∨ iV = true) ∧ OkPath a.p t o x ∧ RootFocus w Pr iV vj t o x (B a.j) a.p ∧
        ∃ loc, locOf w iV t vj a.p = some loc ∧ v = pack (getT a.p t) (readCells w loc.1 loc.2 (getT a.p t).size))) := by
  obtain ⟨e, vj, hl, hv, hk⟩ := ha
  have he := at_of hl.1
  rw [he] at hs
  have hok' := hok
  simp only [Al.okS, he, Bool.and_eq_true, beq_iff_eq, Bool.or_eq_true] at hok'
  have hR := root_of (h.slots a.j e vj hl.1 hv) hs
  have hdj : ∀ k, Pr k → k ∉ B a.j := fun k hk m => (h.free _ _ m).2.1 hk
  refine ⟨vj, hv, by rw [he]; exact hl.1, hR, ?_⟩
  obtain ⟨k1, k2⟩ := hk hok'.1
  have mk : a.p ≠ [] ∨ iV = true → (e.cv = a.cv) → (a.p ≠ [] ∨ iV = true) ∧ OkPath a.p t o x ∧ RootFocus w Pr iV vj t o x (B a.j) a.p ∧
        ∃ loc, locOf w iV t vj a.p = some loc ∧ v = pack (getT a.p t) (readCells w loc.1 loc.2 (getT a.p t).size) := by
    intro hp hc
    have hA := k2 hc (by
      rcases hp with hp | hp
      · exact .inl hp
      · right; rw [hs, hp]; rfl)
    rw [hs] at hA
    cases iV with
    | true =>
      obtain ⟨p1, loc, p2, p3⟩ := hA
      exact ⟨hp, p1, root_focus hR (h.nodup _) hdj p1 (.inl rfl), loc, p2, p3⟩
    | false =>
      obtain ⟨p1, loc, p2, p3⟩ := hA
      exact ⟨hp, p1, root_focus hR (h.nodup _) hdj p1 (.inr (by rw [p2]; rfl)), loc, p2, p3⟩
  cases iV with
  | true =>
    rcases hok'.2 with hc | ⟨_, hv2⟩
    · exact .inr (mk (.inr rfl) hc)
    · rw [hs] at hv2; simp [Slot.ofVal] at hv2
  | false =>
    by_cases hp : a.p = []
    · exact .inl ⟨rfl, hp, k1 hp (by rw [hs]; rfl)⟩
    · rcases hok'.2 with hc | ⟨hn, _⟩
      · exact .inr (mk (.inl hp) hc)
      · cases hap : a.p with
        | nil => exact absurd hap hp
        | cons _ _ => rw [hap] at hn; simp [isNil] at hn

/-- What stands at a focused place, read off. -/
theorem RootFocus.val {iV : Bool} {vj v : Value} {t : Ty} {o : Ow} {x : PV t} {bs : List Nat} {q : List PE} (hf : RootFocus w Pr iV vj t o x bs q) {loc : Nat × Nat}
    (hl : locOf w iV t vj q = some loc) (hv : v = pack (getT q t) (readCells w loc.1 loc.2 (getT q t).size)) :
    ∃ bs' bsR, bs.Perm (bs' ++ bsR) ∧ ValOk w Pr v (getT q t) (getO q o) (get q t x) bs' := by
  obtain ⟨b', off', cs', bs', bsR, f1, f2, f3, f4, f5, fL, _⟩ := hf
  rw [hl] at f1
  obtain rfl := Option.some.inj f1
  exact ⟨bs', bsR, f4, cs', by rw [hv]; simp only; rw [← f3.length, f2.read], f3⟩

theorem rd_ok (h : StB w0 Pr0 M E V w Pr B) {d : Opd} {v : Value} (ho : OpdOk w Pr E V d v) {t : Ty} {x : PV t} (hr : rd E d.s = some ⟨t, x⟩) :
    ∃ cs, v = pack t cs ∧ Rep w (All Pr B) t .b cs x [] := by
  have hall : ∀ k b, Pr b ∨ b ∈ B k → All Pr B b := fun k b hb => hb.imp id fun m => ⟨k, m⟩
  cases hix : d.ix with
  | none =>
    unfold OpdOk at ho
    rw [hix] at ho
    cases hs : d.s <;> rw [hs] at hr ho <;> simp only [rd] at hr <;> try (cases hr; done)
    · obtain ⟨rfl, hx⟩ := Sigma.mk.inj (Option.some.inj hr)
      obtain rfl := eq_of_heq hx
      exact ValOk.lend ho (fun b hb => hb.elim .inl (fun m => by cases m))
    · exact ho.elim
    · exact ho.elim
  | some k =>
    have hso := opdOk_tmp h ho hix
    cases hs : d.s <;> rw [hs] at hr hso <;> simp only [rd] at hr <;> try (cases hr; done)
    · obtain ⟨rfl, hx⟩ := Sigma.mk.inj (Option.some.inj hr)
      obtain rfl := eq_of_heq hx
      exact ValOk.lend hso (hall k)
    · rename_i a
      cases hok : a.okS E with
      | false => rw [hok] at hr; simp at hr
      | true =>
        rw [hok] at hr
        simp only [cond_true] at hr
        have go : ∀ (iV : Bool) (t' : Ty) (o' : Ow) (x' : PV t'), (E.at a.j).s = (if iV then .var t' o' x' else .val t' o' x') → (⟨getT a.p t', get a.p t' x'⟩ : SV) = ⟨t, x⟩ →
            ∃ cs, v = pack t cs ∧ Rep w (All Pr B) t .b cs x [] := by
          intro iV t' o' x' hroot hx
          obtain ⟨rfl, hx⟩ := Sigma.mk.inj hx
          obtain rfl := eq_of_heq hx
          obtain ⟨vj, g1, g2, g3, g4⟩ := alias_root h hso hok hroot
          rcases g4 with ⟨rfl, hp, rfl⟩ | ⟨_, _, hf, loc, hl, hv⟩
          · have : ∀ p, p = [] → ∃ cs, v = pack (getT p t') cs ∧ Rep w (All Pr B) (getT p t') .b cs (get p t' x') [] := by
              rintro p rfl
              exact ValOk.lend (show ValOk _ _ _ _ _ _ _ from g3) (hall _)
            exact this _ hp
          · obtain ⟨bs', bsR, p1, p2⟩ := hf.val hl hv
            exact p2.lend (fun b hb => hall a.j b (hb.imp id fun m => p1.mem_iff.2 (List.mem_append_left _ m)))
        split at hr
        · rename_i t' o' x' hroot
          exact go false t' o' x' hroot (Option.some.inj hr)
        · rename_i t' o' x' hroot
          exact go true t' o' x' hroot (Option.some.inj hr)
        · cases hr
    · rename_i a t' x'
      cases hok : a.okC E && !(E.at a.j).s.isHole with
      | false => rw [hok] at hr; simp at hr
      | true =>
        rw [hok] at hr
        simp only [cond_true, Option.some.injEq] at hr
        obtain ⟨rfl, hx⟩ := Sigma.mk.inj hr
        obtain rfl := eq_of_heq hx
        obtain ⟨e, hl, hk⟩ := hso
        have he := at_of hl.1
        simp only [Al.okC, he, Bool.and_eq_true, beq_iff_eq, Bool.not_eq_true'] at hok
        obtain ⟨cs, q1, q2⟩ := hk hok.1.1 hok.1.2 hok.2
        exact ⟨cs, q1, q2.more (hall a.j)⟩

end
end Go.Dn
