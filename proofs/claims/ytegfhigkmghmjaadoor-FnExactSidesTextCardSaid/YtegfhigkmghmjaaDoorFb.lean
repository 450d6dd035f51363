/- What a reading of an argument tells: a pure value that stands there. -/
import Derived.Test.YtegfhigkmghmjaaDoorFa
namespace Go.Dn
open Go.ChangeShapes Go.WideShapes

/-- In the ranges of the kinds, and not longer than any argument is. -/
def WfV : (t : Ty) → PV t → Prop
  | .int k, n => k.min ≤ n ∧ n ≤ k.max
  | .bool, _ => True
  | .str, s => s.length ≤ maxLen
  | .unit, _ => True
  | .pair a b, x => WfV a x.1 ∧ WfV b x.2
  | .slice _ t, xs => List.length (α := PV t) xs ≤ maxLen ∧ ∀ x ∈ (xs : List (PV t)), WfV t x

theorem mapM_all {α β : Type} {f : α → Option β} : ∀ {l : List α} {r : List β}, l.mapM f = some r → r.length = l.length ∧ ∀ (i : Nat) (x : α), l[i]? = some x → ∃ y, f x = some y ∧ r[i]? = some y
  | [], r, h => by
    simp at h
    subst h
    exact ⟨rfl, fun i x hx => by simp at hx⟩
  | a :: l, r, h => by
    rw [List.mapM_cons] at h
    simp only [Option.bind_eq_bind, Option.bind_eq_some_iff, Option.pure_def, Option.some.injEq] at h
    obtain ⟨y, h1, ys, h2, rfl⟩ := h
    obtain ⟨g1, g2⟩ := mapM_all h2
    refine ⟨by simp [g1], fun i x hx => ?_⟩
    cases i with
    | zero => simp only [List.getElem?_cons_zero, Option.some.injEq] at hx; subst hx; exact ⟨y, h1, rfl⟩
    | succ i => simp only [List.getElem?_cons_succ] at hx; obtain ⟨z, q1, q2⟩ := g2 i x hx; exact ⟨z, q1, by simpa using q2⟩

theorem cells?_cells {w : World} {base : Nat} {a : Addr} {n : Nat} {cs : List Value} (h : w.cells? base a n = some cs) : cs.length = n ∧ Cells w a cs := by
  unfold World.cells? at h
  split at h
  · obtain ⟨h1, h2⟩ := mapM_all h
    rw [List.length_range] at h1
    refine ⟨h1, fun j u hu => ?_⟩
    have hj := (List.getElem?_eq_some_iff.1 hu).1
    obtain ⟨y, q1, q2⟩ := h2 j j (by rw [List.getElem?_range (by omega)])
    rw [hu] at q2
    obtain rfl := Option.some.inj q2
    exact q1
  · cases h

theorem cell_lt {w : World} {a : Addr} {v : Value} (h : w.cell? a = some v) : a.block < w.heap.size := by
  rcases Nat.lt_or_ge a.block w.heap.size with hlt | hge
  · exact hlt
  · unfold World.cell? at h
    rw [Array.getElem?_eq_none hge] at h
    simp at h

section
variable {H : Type} {enc : TypeId × Value → H} {P : Program} {tab : List (TypeId × Ty)} {w : World} {base : Nat} {sp : Nat → Bool} {hd : Bool}

abbrev Old (w : World) : Nat → Prop := fun b => b < w.heap.size

def Tells (tab : List (TypeId × Ty)) (w : World) (t : TypeId) (cs : List Value) : Prop := ∀ T, lookup tab t = some T → ∃ pv : PV T, Rep w (Old w) T .b cs pv [] ∧ WfV T pv

theorem cellsOf_size {tid : TypeId} {t : Ty} (h : TyFact P tab tid t) : P.cellsOf tid = t.size := by
  obtain ⟨i, z, h1, h2, _⟩ := h.info
  unfold Program.cellsOf
  rw [h1]
  exact h2

theorem fields_tell {cs : List Value} (htab : TabOk P tab) : ∀ {fs : List Field} {o : Nat} {T : Ty}, fieldsOk tab fs o T = true → (∀ f ∈ fs, Tells tab w f.type ((cs.drop f.offset).take (P.cellsOf f.type))) → cs.length = o + T.size →
    ∃ pv : PV T, Rep w (Old w) T .b (cs.drop o) pv [] ∧ WfV T pv
  | [], o, .unit, _, _, hl => ⟨(), ⟨by rw [List.drop_eq_nil_of_le (by simp [Ty.size] at hl; omega)], rfl⟩, trivial⟩
  | f :: fs, o, .pair a b, h, ht, hl => by
    simp only [fieldsOk, Bool.and_eq_true, beq_iff_eq] at h
    obtain ⟨⟨⟨h1, h2⟩, h3⟩, h4⟩ := h
    have hsz := cellsOf_size (tab_fact htab h1)
    obtain ⟨x, r1, q1⟩ := ht f (List.mem_cons_self ..) a h1
    rw [hsz, h2] at r1
    have hl' : cs.length = (o + a.size) + b.size := by simp only [Ty.size] at hl; omega
    obtain ⟨y, r2, q2⟩ := fields_tell htab h4 (fun g hg => ht g (List.mem_cons_of_mem _ hg)) hl'
    refine ⟨(x, y), ⟨(cs.drop o).take a.size, cs.drop (o + a.size), [], [], ?_, by simp, r1, r2⟩, q1, q2⟩
    rw [← List.drop_drop, List.take_append_drop]
  | [], o, .int _, h, _, _ | [], o, .bool, h, _, _ | [], o, .str, h, _, _ | [], o, .pair _ _, h, _, _ | [], o, .slice _ _, h, _, _ => by simp [fieldsOk] at h
  | _ :: _, o, .int _, h, _, _ | _ :: _, o, .bool, h, _, _ | _ :: _, o, .str, h, _, _ | _ :: _, o, .unit, h, _, _ | _ :: _, o, .slice _ _, h, _, _ => by simp [fieldsOk] at h

theorem repL_of {t : Ty} : ∀ {l : List (List Value)}, (∀ c ∈ l, ∃ pv : PV t, Rep w (Old w) t .b c pv [] ∧ WfV t pv) → ∃ xs : List (PV t), xs.length = l.length ∧ RepL (Rep w (Old w) t .b) l.flatten xs [] ∧ ∀ x ∈ xs, WfV t x
  | [], _ => ⟨[], rfl, ⟨rfl, rfl⟩, fun x hx => by cases hx⟩
  | c :: l, h => by
    obtain ⟨x, h1, h2⟩ := h c (List.mem_cons_self ..)
    obtain ⟨xs, g1, g2, g3⟩ := repL_of (l := l) fun d hd => h d (List.mem_cons_of_mem _ hd)
    refine ⟨x :: xs, by simp [g1], ⟨c, l.flatten, [], [], by simp, by simp, h1, g2⟩, fun y hy => ?_⟩
    cases hy with
    | head => exact h2
    | tail _ hy => exact g3 y hy

theorem arr_tell {a : Ty} {n : Nat} {cs : List Value} : ∀ {m : Nat} {T : Ty} {o : Nat}, arrOk a m T = true → (∀ i, o ≤ i → i < o + m → ∃ pv : PV a, Rep w (Old w) a .b ((cs.drop (i * a.size)).take a.size) pv [] ∧ WfV a pv) → cs.length = (o + m) * a.size →
    ∃ pv : PV T, Rep w (Old w) T .b (cs.drop (o * a.size)) pv [] ∧ WfV T pv
  | 0, .unit, o, _, _, hl => ⟨(), ⟨by rw [List.drop_eq_nil_of_le (by rw [hl, Nat.add_zero]; exact Nat.le_refl _)], rfl⟩, trivial⟩
  | m + 1, .pair b c, o, h, ht, hl => by
    simp only [arrOk, Bool.and_eq_true, beq_iff_eq] at h
    obtain ⟨rfl, h4⟩ := h
    obtain ⟨x, r1, q1⟩ := ht o (by omega) (by omega)
    have hl' : cs.length = ((o + 1) + m) * b.size := by rw [hl]; congr 1; omega
    obtain ⟨y, r2, q2⟩ := arr_tell (n := n) (o := o + 1) h4 (fun i h1 h2 => ht i (by omega) (by omega)) hl'
    refine ⟨(x, y), ⟨(cs.drop (o * b.size)).take b.size, cs.drop ((o + 1) * b.size), [], [], ?_, by simp, r1, r2⟩, q1, q2⟩
    rw [Nat.add_mul, Nat.one_mul, ← List.drop_drop, List.take_append_drop]
  | 0, .int _, _, h, _, _ | 0, .bool, _, h, _, _ | 0, .str, _, h, _, _ | 0, .pair _ _, _, h, _, _ | 0, .slice _ _, _, h, _, _ => by simp [arrOk] at h
  | _ + 1, .int _, _, h, _, _ | _ + 1, .bool, _, h, _, _ | _ + 1, .str, _, h, _, _ | _ + 1, .unit, _, h, _, _ | _ + 1, .slice _ _, _, h, _, _ => by simp [arrOk] at h

theorem mapM_range {α : Type} {f : Nat → Option α} {n : Nat} {r : List α} (h : (List.range n).mapM f = some r) : ∀ i, i < n → ∃ y, f i = some y := by
  intro i hi
  obtain ⟨_, h2⟩ := mapM_all h
  obtain ⟨y, q1, _⟩ := h2 i i (by rw [List.getElem?_range hi])
  exact ⟨y, q1⟩

theorem choose_list {α : Type} {Q : Nat → α → Prop} : ∀ {n : Nat}, (∀ i, i < n → ∃ c, Q i c) → ∃ l : List α, l.length = n ∧ ∀ (i : Nat) (c : α), l[i]? = some c → Q i c
  | 0, _ => ⟨[], rfl, fun i c hc => by simp at hc⟩
  | n + 1, h => by
    obtain ⟨l, h1, h2⟩ := choose_list (n := n) fun i hi => h i (by omega)
    obtain ⟨c, hc⟩ := h n (by omega)
    refine ⟨l ++ [c], by simp [h1], fun i d hd => ?_⟩
    rcases Nat.lt_trichotomy i n with hlt | rfl | hgt
    · rw [List.getElem?_append_left (by omega)] at hd; exact h2 i d hd
    · rw [List.getElem?_append_right (by omega), h1, Nat.sub_self] at hd; simp at hd; subst hd; exact hc
    · rw [List.getElem?_eq_none (by simp; omega)] at hd; cases hd

theorem flatten_get {s : Nat} (hs : 0 < s) : ∀ {l : List (List Value)} {j : Nat} {u : Value}, (∀ c ∈ l, c.length = s) → l.flatten[j]? = some u → ∃ c, l[j / s]? = some c ∧ c[j % s]? = some u
  | [], j, u, _, h => by simp at h
  | c :: l, j, u, hc, h => by
    have h0 := hc c (List.mem_cons_self ..)
    rw [List.flatten_cons] at h
    rcases Nat.lt_or_ge j s with hlt | hge
    · rw [List.getElem?_append_left (by omega)] at h
      rw [Nat.div_eq_of_lt hlt, Nat.mod_eq_of_lt hlt]
      exact ⟨c, rfl, h⟩
    · rw [List.getElem?_append_right (by omega), h0] at h
      obtain ⟨d, h1, h2⟩ := flatten_get hs (fun x hx => hc x (List.mem_cons_of_mem _ hx)) h
      have e1 : j = (j - s) + s := by omega
      refine ⟨d, ?_, ?_⟩
      · rw [e1, Nat.add_div_right _ hs]; simpa using h1
      · rw [e1, Nat.add_mod_right]; exact h2

theorem cells_flatten {a : Addr} {s : Nat} (hs : 0 < s) {l : List (List Value)} (hc : ∀ c ∈ l, c.length = s) (h : ∀ (i : Nat) (c : List Value), l[i]? = some c → Cells w (a.add (i * s)) c) : Cells w a l.flatten := by
  intro j u hu
  obtain ⟨c, h1, h2⟩ := flatten_get hs hc hu
  have := h _ _ h1 _ _ h2
  have e : (a.add (j / s * s)).add (j % s) = a.add j := by
    rw [Addr.add_add, Nat.div_add_mod' j s]
  rw [e] at this
  exact this

theorem trod_int {k : IntKind} {n : Nat} {t : TypeId} {cs : List Value} {x : DataW H × List MemPlace} (hu : P.underlying t = some (.int k)) (h : DataW.trod enc P w base sp hd (n + 1) t cs = some x) : ∃ m, cs = [.int k m] ∧ (Lit.int k m).wf = true := by
  unfold DataW.trod at h
  rw [hu] at h
  split at h <;> (try (simp only [Option.some.injEq, reduceCtorEq, TypeDesc.int.injEq] at *; done))
  rename_i k0 k' m e
  simp only [Option.some.injEq, TypeDesc.int.injEq] at e
  subst e
  split at h
  · rename_i hh; obtain ⟨rfl, hh⟩ := hh; exact ⟨_, rfl, hh⟩
  · cases h

theorem trod_bool {n : Nat} {t : TypeId} {cs : List Value} {x : DataW H × List MemPlace} (hu : P.underlying t = some .bool) (h : DataW.trod enc P w base sp hd (n + 1) t cs = some x) : ∃ m, cs = [.bool m] := by
  unfold DataW.trod at h
  rw [hu] at h
  split at h <;> (try (simp only [Option.some.injEq, reduceCtorEq] at *; done))
  exact ⟨_, rfl⟩

theorem trod_str {n : Nat} {t : TypeId} {cs : List Value} {x : DataW H × List MemPlace} (hu : P.underlying t = some .string) (h : DataW.trod enc P w base sp hd (n + 1) t cs = some x) : ∃ s, cs = [strV s] ∧ s.length ≤ maxLen := by
  unfold DataW.trod at h
  rw [hu] at h
  split at h <;> (try (simp only [Option.some.injEq, reduceCtorEq] at *; done))
  rename_i s e
  split at h
  · rename_i hh
    refine ⟨s.data.toList, rfl, ?_⟩
    rw [Array.length_toList]
    exact hh
  · cases h

theorem trod_struct {fs : Array Field} {n : Nat} {t : TypeId} {cs : List Value} {x : DataW H × List MemPlace} (hu : P.underlying t = some (.struct fs)) (h : DataW.trod enc P w base sp hd (n + 1) t cs = some x) :
    cs.length = P.cellsOf t ∧ ∀ f ∈ fs.toList, ∃ y, DataW.trod enc P w base sp hd n f.type ((cs.drop f.offset).take (P.cellsOf f.type)) = some y := by
  obtain ⟨xs, m, e, _, h1, h2, h3⟩ := DataW.trod_struct hu h
  obtain rfl : m = n := by omega
  refine ⟨h1, fun f hf => ?_⟩
  obtain ⟨i, hi⟩ := List.getElem?_of_mem hf
  rw [Array.getElem?_toList] at hi
  have hl := (Array.getElem?_eq_some_iff.1 hi).1
  exact ⟨_, (h3 i f hi).trans (List.getElem?_eq_getElem (by omega))⟩

theorem trod_array {e : TypeId} {m n : Nat} {t : TypeId} {cs : List Value} {x : DataW H × List MemPlace} (hu : P.underlying t = some (.array m e)) (h : DataW.trod enc P w base sp hd (n + 1) t cs = some x) :
    cs.length = P.cellsOf t ∧ ∀ i, i < m → ∃ y, DataW.trod enc P w base sp hd n e ((cs.drop (i * P.cellsOf e)).take (P.cellsOf e)) = some y := by
  obtain ⟨xs, q, e, _, h1, h2, h3⟩ := DataW.trod_array hu h
  obtain rfl : q = n := by omega
  exact ⟨h1, fun i hi => ⟨_, (h3 i hi).trans (List.getElem?_eq_getElem (by omega))⟩⟩

theorem trod_slice {e : TypeId} {n : Nat} {t : TypeId} {cs : List Value} {x : DataW H × List MemPlace} (hu : P.underlying t = some (.slice e)) (h : DataW.trod enc P w base sp hd (n + 1) t cs = some x) :
    cs = [.slice none 0 0] ∨ ∃ a len cap, cs = [.slice (some a) len cap] ∧ len ≤ cap ∧ cap ≤ maxLen ∧ ∀ i, i < len → ∃ c y, w.cells? base (a.add (i * P.cellsOf e)) (P.cellsOf e) = some c ∧ DataW.trod enc P w base sp hd n e c = some y := by
  unfold DataW.trod at h
  rw [hu] at h
  split at h <;> (try (simp only [Option.some.injEq, reduceCtorEq, TypeDesc.slice.injEq] at *; done))
  · exact .inl rfl
  · rename_i e' a len cap ee
    simp only [Option.some.injEq, TypeDesc.slice.injEq] at ee
    subst ee
    dsimp only at h
    split at h
    · rename_i hh
      refine .inr ⟨a, len, cap, rfl, hh.2.1, hh.2.2, fun i hi => ?_⟩
      rw [Option.bind_eq_some_iff] at h
      obtain ⟨l, h1, _⟩ := h
      obtain ⟨y, h2⟩ := mapM_range h1 i hi
      rw [Option.bind_eq_some_iff] at h2
      obtain ⟨c, h3, h4⟩ := h2
      exact ⟨c, y, h3, h4⟩
    · cases h

theorem trod_tell (htab : TabOk P tab) : ∀ (n : Nat) (t : TypeId) (cs : List Value) (x : DataW H × List MemPlace), DataW.trod enc P w base sp hd n t cs = some x → Tells tab w t cs := by
  intro n
  induction n with
  | zero => intro t cs x h; simp [DataW.trod] at h
  | succ n ih =>
    intro t cs x h T hT
    have hf := tab_fact htab hT
    obtain ⟨d, hu, hfit⟩ := hf.und
    have hsz := cellsOf_size hf
    cases d with
    | int k =>
      cases T <;> simp only [fits, beq_iff_eq, reduceCtorEq, Bool.false_eq_true] at hfit
      subst hfit
      obtain ⟨m, rfl, h2⟩ := trod_int hu h
      simp only [Lit.wf, Bool.and_eq_true, decide_eq_true_eq] at h2
      exact ⟨m, ⟨rfl, rfl⟩, h2⟩
    | bool =>
      cases T <;> simp only [fits, reduceCtorEq, Bool.false_eq_true] at hfit
      obtain ⟨m, rfl⟩ := trod_bool hu h
      exact ⟨m, ⟨rfl, rfl⟩, trivial⟩
    | string =>
      cases T <;> simp only [fits, reduceCtorEq, Bool.false_eq_true] at hfit
      obtain ⟨s, rfl, h2⟩ := trod_str hu h
      exact ⟨s, ⟨rfl, rfl⟩, h2⟩
    | slice e =>
      cases T with
      | slice e' t' =>
        simp only [fits, Bool.and_eq_true, beq_iff_eq, Bool.not_eq_true', beq_eq_false_iff_ne, ne_eq] at hfit
        obtain ⟨⟨rfl, h2⟩, h3⟩ := hfit
        have hse := cellsOf_size (tab_fact htab h2)
        rcases trod_slice hu h with rfl | ⟨a, len, cap, rfl, q1, q2, q3⟩
        · exact ⟨([] : List (PV t')), (rep_bor (t := t') (xs := [])).2 ⟨rfl, none, 0, rfl, Nat.le_refl _, .inl rfl⟩, Nat.zero_le _, fun y hy => by cases hy⟩
        · rw [hse] at q3
          obtain ⟨l, l1, l2⟩ := choose_list q3
          have l3 : ∀ (i : Nat) (c : List Value), l[i]? = some c → c.length = t'.size ∧ Cells w (a.add (i * t'.size)) c := fun i c hc => by
            obtain ⟨y, h4, h5⟩ := l2 i c hc
            exact cells?_cells h4
          have l4 : ∀ c ∈ l, ∃ pv : PV t', Rep w (Old w) t' .b c pv [] ∧ WfV t' pv := fun c hc => by
            obtain ⟨i, hi⟩ := List.getElem?_of_mem hc
            obtain ⟨y, h4, h5⟩ := l2 i c hi
            exact ih _ _ _ h5 _ h2
          obtain ⟨xs, g1, g2, g3⟩ := repL_of l4
          have hlen : xs.length = len := by rw [g1, l1]
          have hcl := cells_flatten (w := w) (a := a) (Nat.pos_of_ne_zero h3) (fun c hc => by
            obtain ⟨i, hi⟩ := List.getElem?_of_mem hc
            exact (l3 i c hi).1) (fun i c hc => (l3 i c hc).2)
          refine ⟨xs, (rep_bor (t := t') (xs := xs)).2 ⟨rfl, some a, cap, by rw [hlen], by rw [hlen]; exact q1, ?_⟩, by rw [hlen]; exact Nat.le_trans q1 q2, g3⟩
          cases l with
          | nil => exact .inl (List.eq_nil_of_length_eq_zero (by simpa using g1))
          | cons c l =>
            refine .inr ⟨a, _, rfl, ?_, hcl, g2⟩
            obtain ⟨h4, h5⟩ := l3 0 c rfl
            cases c with
            | nil => exact absurd h4.symm h3
            | cons u c => 
              have := cell_lt (h5 0 u rfl)
              rwa [add_block, add_block] at this
      | int _ => simp [fits] at hfit
      | bool => simp [fits] at hfit
      | str => simp [fits] at hfit
      | unit => simp [fits] at hfit
      | pair _ _ => simp [fits] at hfit
    | struct fs =>
      simp only [fits, Bool.and_eq_true] at hfit
      obtain ⟨h1, h2⟩ := trod_struct hu h
      have := fields_tell (w := w) (cs := cs) htab hfit.2 (fun f hf => by
        obtain ⟨y, hy⟩ := h2 f hf
        exact ih _ _ _ hy) (by rw [h1, hsz, Nat.zero_add])
      simpa using this
    | array m e =>
      simp only [fits, Bool.and_eq_true] at hfit
      obtain ⟨_, hfit⟩ := hfit
      split at hfit
      · rename_i a ha
        simp only [Bool.and_eq_true] at hfit
        have hse := cellsOf_size (tab_fact htab ha)
        obtain ⟨h1, h2⟩ := trod_array hu h
        rw [hse] at h2
        have hm : ∀ {m : Nat} {T : Ty}, arrOk a m T = true → T.size = m * a.size := by
          intro m
          induction m with
          | zero => intro T hT; cases T <;> simp_all [arrOk, Ty.size]
          | succ m ihm =>
            intro T hT
            cases T with
            | pair b c =>
              simp only [arrOk, Bool.and_eq_true, beq_iff_eq] at hT
              obtain ⟨rfl, hT⟩ := hT
              simp only [Ty.size]
              rw [ihm hT, Nat.add_mul, Nat.one_mul, Nat.add_comm]
            | int _ => simp [arrOk] at hT
            | bool => simp [arrOk] at hT
            | str => simp [arrOk] at hT
            | unit => simp [arrOk] at hT
            | slice _ _ => simp [arrOk] at hT
        have := arr_tell (w := w) (cs := cs) (n := 0) (o := 0) hfit.2 (fun i _ hi => by
          obtain ⟨y, hy⟩ := h2 i (by omega)
          exact ih _ _ _ hy _ ha) (by rw [h1, hsz, hm hfit.2, Nat.zero_add])
        simpa using this
      · cases hfit
    | _ => simp [fits] at hfit

/-- All arguments at once. -/
inductive TellsAll (tab : List (TypeId × Ty)) (w : World) : List TypeId → List Value → Prop
  | nil : TellsAll tab w [] []
  | cons {t : TypeId} {v : Value} {ts : List TypeId} {vs : List Value} : Tells tab w t v.cells.toList → TellsAll tab w ts vs → TellsAll tab w (t :: ts) (v :: vs)

theorem trodAll_tell (htab : TabOk P tab) : ∀ {ts : List TypeId} {vs : List Value} {ds : List (DataW H)} {ps : List MemPlace}, DataW.TrodAll enc P w base sp hd ts vs ds ps → TellsAll tab w ts vs
  | [], [], [], _, _ => .nil
  | _ :: _, _ :: _, _ :: _, _, ⟨_, _, ⟨n, h1⟩, h2, _⟩ => .cons (trod_tell htab n _ _ _ h1) (trodAll_tell htab h2)

end
end Go.Dn
