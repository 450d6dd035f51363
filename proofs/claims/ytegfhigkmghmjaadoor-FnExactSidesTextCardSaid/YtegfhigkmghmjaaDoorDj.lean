/- Operations, first part: what touches no memory. -/
import Derived.Test.YtegfhigkmghmjaaDoorDi
namespace Go.Dn

section
variable {w0 : World} {Pr0 M : Nat → Prop}

/-- A state with one value in the hand, that slot 's' tells. -/
def Hand (w0 : World) (Pr0 M : Nat → Prop) (E : Env) (V : List Value) (w : World) (s : Slot) (v : Value) : Prop :=
  ∃ Pr B, StB w0 Pr0 M E V w Pr B ∧ SlotOk w Pr E V B E.length s v ∧ ∀ k, E.length < k → B k = []

theorem Hand.put {E : Env} {V : List Value} {w : World} {s : Slot} {v : Value} (h : Hand w0 Pr0 M E V w s v) {k : Nat} (hk : k < E.length) : St w0 Pr0 M (setNew E k s) (V.set k v) w := by
  obtain ⟨Pr, B, h1, h2, h3⟩ := h
  refine ⟨Pr, lay B E.length k, h1.put (Nat.le_refl _) hk h2, fun j hj => ?_⟩
  simp only [setNew, List.length_set] at hj
  unfold lay
  rw [if_neg (by omega)]
  split
  · rfl
  · exact h3 j (by omega)

theorem Hand.drop {E : Env} {V : List Value} {w : World} {s : Slot} {v : Value} (h : Hand w0 Pr0 M E V w s v) : St w0 Pr0 M E V w := by
  obtain ⟨Pr, B, h1, h2, h3⟩ := h
  refine ⟨Pr, fun k => if E.length ≤ k then [] else B k, h1.hand (fun k hk => if_neg (by omega)) (fun k hk b hb => by simp [hk] at hb) (fun _ h => h) (fun _ h => .inl h)
    (fun k hk => by simp [hk]) (fun j k hj hk _ b hb => by simp [hj] at hb) (fun _ _ _ => rfl) rfl rfl rfl (Nat.le_refl _), fun k hk => if_pos hk⟩

/-- The frame's slots stand behind the outer ones. -/
structure Fr (off : Nat) (V : List Value) (a : Act) : Prop where
  ex : ∃ outer, V = outer ++ a.tmps.toList ∧ off = outer.length

variable {P : Program} {cx : Cx} {E : Env} {V : List Value} {w : World} {Pr : Nat → Prop} {B : Nat → List Nat} {off : Nat} {a : Act}

theorem eval_tmp (hf : Fr off V a) {t : Nat} {v : Value} (h : V[off + t]? = some v) : a.eval (.tmp t) = v := by
  obtain ⟨outer, h1, h2⟩ := hf.ex
  rw [h1, h2, List.getElem?_append_right (by omega), Nat.add_sub_cancel_left] at h
  simp only [Act.eval]
  simp only [Array.getElem?_toList] at h
  rw [Array.getD_eq_getD_getElem?, h]; rfl

theorem constS_ok (w : World) (Pr : Nat → Prop) {v : Value} : match constS v with | .val t o x => ValOk w Pr v t o x [] ∧ o = .b | .none => True | _ => False := by
  cases v <;> simp only [constS]
  · exact ⟨⟨_, rfl, rfl, rfl⟩, trivial⟩
  · exact ⟨⟨_, rfl, rfl, rfl⟩, trivial⟩
  · exact ⟨⟨_, rfl, rfl, rfl⟩, trivial⟩

theorem opd_ok (h : StB w0 Pr0 M E V w Pr B) (hf : Fr off V a) (x : Operand) : OpdOk w Pr E V (opd E off x) (a.eval x) := by
  cases x with
  | tmp t =>
    simp only [opd, OpdOk]
    cases he : E[off + t]? with
    | none => left; unfold Env.at; rw [List.getD_eq_getElem?_getD, he]; rfl
    | some e =>
      right
      have hk := (List.getElem?_eq_some_iff.1 he).1
      have hv := List.getElem?_eq_getElem (l := V) (i := off + t) (by rw [← h.len]; exact hk)
      exact ⟨e, rfl, by rw [hv]; rw [eval_tmp hf hv], by rw [at_of he]⟩
  | const v =>
    have := constS_ok w Pr (v := v)
    simp only [opd, OpdOk]
    show match constS v with | .val t o x => _ | .fn f caps => _ | .none => _ | _ => _
    split at this
    · rename_i t o x hs; rw [hs]; exact this.1
    · rename_i hs; rw [hs]; trivial
    · exact this.elim
  | func f => exact ⟨rfl, rfl⟩
  | global g => trivial

theorem opdT_ok (h : StB w0 Pr0 M E V w Pr B) (hf : Fr off V a) (t : TypeId) (x : Operand) : OpdOk w Pr E V (opdT cx E off t x) (a.eval x) := by
  unfold opdT
  split
  · split
    · exact ⟨[.slice none 0 0], rfl, rep_row.2 ⟨.slice none 0 0, [], [], rfl, World.ownsRow_nil _ _ _ _, by simp [Value.ownBlock], rfl, rfl⟩⟩
    · trivial
  · exact opd_ok h hf x

theorem alias_ok (h : StB w0 Pr0 M E V w Pr B) {d : Opd} {v : Value} (ho : OpdOk w Pr E V d v) {N : Nat} (hB : B N = []) : SlotOk w Pr E V B N (alias E d) v := by
  have copy : ∀ {k : Nat}, d.ix = some k → (∀ n, SlotOk w Pr E V B k d.s v → SlotOk w Pr E V B n d.s v) → SlotOk w Pr E V B N d.s v := fun hk hn => hn N (opdOk_tmp h ho hk)
  unfold alias
  split
  · rename_i t o x k hs hix
    have hso := opdOk_tmp h ho hix
    rw [hs] at hso
    cases hown : owns t o with
    | true =>
      simp only [cond_true]
      unfold OpdOk at ho
      rw [hix] at ho
      rcases ho with h0 | ⟨e, h1, h2, h3⟩
      · rw [hs] at h0; cases h0
      · refine ⟨e, v, ⟨h1, ?_, ?_⟩, h2, fun hi => ⟨fun _ _ => rfl, fun _ hp => ?_⟩⟩
        · simp only [at_of h1]; exact Nat.le_refl _
        · simp only [at_of h1]; intro _; exact Nat.le_refl _
        · rw [← h3, hs] at hp; simp [Slot.ofVal] at hp
    | false =>
      simp only [cond_false]
      show ValOk w Pr v t .b x (B N)
      rw [hB]; exact ValOk.nowns hown hso
  · rename_i t o x hs hix
    unfold OpdOk at ho
    rw [hix, hs] at ho
    cases hown : owns t o with
    | true => trivial
    | false =>
      simp only [cond_false]
      show ValOk w Pr v t .b x (B N)
      rw [hB]; exact ValOk.nowns hown ho
  · rename_i t o x k hs hix
    unfold OpdOk at ho
    rw [hix] at ho
    rcases ho with h0 | ⟨e, h1, h2, h3⟩
    · rw [hs] at h0; cases h0
    · refine ⟨e, v, ⟨h1, ?_, ?_⟩, h2, fun hi => ⟨fun _ => rfl, fun hp => absurd rfl hp⟩⟩
      · simp only [at_of h1]; exact Nat.le_refl _
      · simp only [at_of h1]; intro _; exact Nat.le_refl _
  · rename_i al k hs
    cases hix : d.ix with
    | none => unfold OpdOk at ho; rw [hix, hs] at ho; exact ho.elim
    | some k => have := copy hix (fun n q => by rw [hs] at q ⊢; exact q); rw [hs] at this; exact this
  · rename_i al k hs
    cases hix : d.ix with
    | none => unfold OpdOk at ho; rw [hix, hs] at ho; exact ho.elim
    | some k => have := copy hix (fun n q => by rw [hs] at q ⊢; exact q); rw [hs] at this; exact this
  · rename_i al t x k hs
    cases hix : d.ix with
    | none => unfold OpdOk at ho; rw [hix, hs] at ho; exact ho.elim
    | some k => have := copy hix (fun n q => by rw [hs] at q ⊢; exact q); rw [hs] at this; exact this
  · rename_i t x k hs
    cases hix : d.ix with
    | none => unfold OpdOk at ho; rw [hix, hs] at ho; exact ho.elim
    | some k => have := copy hix (fun n q => by rw [hs] at q ⊢; exact q); rw [hs] at this; exact this
  · rename_i f c k hs
    cases hix : d.ix with
    | none =>
      unfold OpdOk at ho
      rw [hix, hs] at ho
      obtain ⟨rfl, rfl⟩ := ho
      exact ⟨[], rfl, trivial⟩
    | some k => have := copy hix (fun n q => by rw [hs] at q ⊢; exact q); rw [hs] at this; exact this
  · trivial

/-- What an operation must do. -/
def OpGood (w0 : World) (Pr0 M : Nat → Prop) (P : Program) (E : Env) (V : List Value) (w : World) (a : Act) (o : Oper) (z : SU) : Prop :=
  ∃ r w' v, (execOp a.eval o).run P w = .ok r w' ∧ (r = .value v ∨ (r = .skip ∧ v = undef)) ∧ (appU E z.2).length = E.length ∧ Hand w0 Pr0 M (appU E z.2) V w' z.1 v

theorem hand_same (h : StB w0 Pr0 M E V w Pr B) (hN : ∀ k, E.length ≤ k → B k = []) {s : Slot} {v : Value} (hs : ∀ N, B N = [] → SlotOk w Pr E V B N s v) : Hand w0 Pr0 M E V w s v :=
  ⟨Pr, B, h, hs _ (hN _ (Nat.le_refl _)), fun k hk => hN k (by omega)⟩

theorem good_move {o : Oper} {x : Operand} (hop : o.op = .move x) (h : StB w0 Pr0 M E V w Pr B) (hN : ∀ k, E.length ≤ k → B k = []) (hf : Fr off V a) :
    OpGood w0 Pr0 M P E V w a o (alias E (opd E off x), []) :=
  ⟨.value (a.eval x), w, a.eval x, by simp [execOp, hop], .inl rfl, rfl, hand_same h hN fun _ hB => alias_ok h (opd_ok h hf x) hB⟩

theorem good_move_tup {o : Oper} {x : Operand} (hop : o.op = .move x) (h : StB w0 Pr0 M E V w Pr B) (hN : ∀ k, E.length ≤ k → B k = []) (hf : Fr off V a) {k : Nat} {l : List TV} (hd : opd E off x = ⟨some k, .tup l⟩) :
    OpGood w0 Pr0 M P E V w a o (.tup l, [.new k .none]) := by
  have ho := opd_ok h hf x
  rw [hd] at ho
  unfold OpdOk at ho
  simp only at ho
  rcases ho with h0 | ⟨e, h1, h2, h3⟩
  · cases h0
  · have hk := (List.getElem?_eq_some_iff.1 h1).1
    have hso := h.slots k e _ h1 h2
    rw [← h3] at hso
    obtain ⟨vs, q1, q2⟩ := hso
    refine ⟨.value (a.eval x), w, a.eval x, by simp [execOp, hop], .inl rfl, by simp [appU, U.app], Pr, swap B E.length k (B k) [], ?_, ?_, fun j hj => ?_⟩
    · show StB w0 Pr0 M (E.set k _) V w Pr _
      exact h.part (Nat.le_refl _) (hN _ (Nat.le_refl _)) h1 h2 (by simp) (.inl (by rw [at_of h1]; exact Nat.lt_succ_self _)) trivial
    · have hl : (appU E [.new k .none]).length = E.length := by simp [appU, U.app]
      show SlotOk w Pr _ V _ (appU E [.new k .none]).length (.tup l) (a.eval x)
      rw [hl]
      exact ⟨vs, q1, by rw [swap_N]; exact q2⟩
    · have hl : (appU E [.new k .none]).length = E.length := by simp [appU, U.app]
      simp only at hj
      rw [hl] at hj
      rw [swap_ne (by omega) (by omega)]
      exact hN j (by omega)

theorem good_assign_alias {o : Oper} {x : Operand} (hop : o.op = .assign x) (h : StB w0 Pr0 M E V w Pr B) (hN : ∀ k, E.length ≤ k → B k = []) (hf : Fr off V a) :
    OpGood w0 Pr0 M P E V w a o (alias E (opd E off x), []) :=
  ⟨.value (a.eval x), w, a.eval x, by simp [execOp, hop], .inl rfl, rfl, hand_same h hN fun _ hB => alias_ok h (opd_ok h hf x) hB⟩

theorem hand_take (h : StB w0 Pr0 M E V w Pr B) (hN : ∀ k, E.length ≤ k → B k = []) {d : Opd} {v : Value} (ho : OpdOk w Pr E V d v) {tv : TV} {us : List U} (ht : take E d = some (tv, us)) :
    Hand w0 Pr0 M (appU E us) V w (.val tv.t tv.o tv.x) v ∧ (appU E us).length = E.length := by
  obtain ⟨B1, h1, h2, h3, h4⟩ := take_ok h (N := E.length) (Nat.le_refl _) (hN _ (Nat.le_refl _)) ho ht
  refine ⟨⟨Pr, B1, h1, ?_, fun k hk => ?_⟩, h4⟩
  · rw [h4]; exact h2
  · rw [h4] at hk
    rw [h3 k (by omega) (by omega)]; exact hN k (by omega)

theorem good_assign {o : Oper} {x : Operand} (hop : o.op = .assign x) (h : StB w0 Pr0 M E V w Pr B) (hN : ∀ k, E.length ≤ k → B k = []) (hf : Fr off V a) {tv : TV} {us : List U}
    (ht : take E (opdT cx E off o.type x) = some (tv, us)) : OpGood w0 Pr0 M P E V w a o (.val tv.t tv.o tv.x, us) := by
  obtain ⟨h1, h2⟩ := hand_take h hN (opdT_ok h hf o.type x) ht
  exact ⟨.value (a.eval x), w, a.eval x, by simp [execOp, hop], .inl rfl, h2, h1⟩

/-! ### values without memory -/
theorem Rep.plain {w w' : World} {Q Q' : Nat → Prop} : ∀ {t : Ty} {o o' : Ow} {cs : List Value} {x : PV t} {bs : List Nat}, noSl t = true → Rep w Q t o cs x bs → Rep w' Q' t o' cs x []
  | .int _, _, _, _, _, _, _, h => ⟨h.1, rfl⟩
  | .bool, _, _, _, _, _, _, h => ⟨h.1, rfl⟩
  | .str, _, _, _, _, _, _, h => ⟨h.1, rfl⟩
  | .unit, _, _, _, _, _, _, h => ⟨h.1, rfl⟩
  | .pair a b, _, _, _, _, _, hn, h => by
    simp only [noSl, Bool.and_eq_true] at hn
    obtain ⟨c1, c2, b1, b2, e1, _, h1, h2⟩ := h
    exact ⟨c1, c2, [], [], e1, by simp, h1.plain hn.1, h2.plain hn.2⟩
  | .slice _ _, _, _, _, _, _, hn, _ => by simp [noSl] at hn

theorem rd_plain (h : StB w0 Pr0 M E V w Pr B) {d : Opd} {v : Value} (ho : OpdOk w Pr E V d v) {t : Ty} {x : PV t} (hr : rd E d.s = some ⟨t, x⟩) (hn : noSl t = true) (w' : World) (Q : Nat → Prop) (o : Ow) :
    ValOk w' Q v t o x [] := by
  obtain ⟨cs, h1, h2⟩ := rd_ok h ho hr
  exact ⟨cs, h1, h2.plain hn⟩

theorem rd_int (h : StB w0 Pr0 M E V w Pr B) {d : Opd} {v : Value} (ho : OpdOk w Pr E V d v) {k : IntKind} {n : Int} (hr : rd E d.s = some ⟨.int k, n⟩) : v = .int k n := by
  obtain ⟨cs, h1, h2⟩ := rd_ok h ho hr
  rw [h1, h2.1]; rfl
theorem rd_bool (h : StB w0 Pr0 M E V w Pr B) {d : Opd} {v : Value} (ho : OpdOk w Pr E V d v) {b : Bool} (hr : rd E d.s = some ⟨.bool, b⟩) : v = .bool b := by
  obtain ⟨cs, h1, h2⟩ := rd_ok h ho hr
  rw [h1, h2.1]; rfl
theorem rd_str (h : StB w0 Pr0 M E V w Pr B) {d : Opd} {v : Value} (ho : OpdOk w Pr E V d v) {s : List UInt8} (hr : rd E d.s = some ⟨.str, s⟩) : v = strV s := by
  obtain ⟨cs, h1, h2⟩ := rd_ok h ho hr
  rw [h1, h2.1]; rfl
theorem rd_slice (h : StB w0 Pr0 M E V w Pr B) {d : Opd} {v : Value} (ho : OpdOk w Pr E V d v) {e : TypeId} {t : Ty} {xs : List (PV t)} (hr : rd E d.s = some ⟨.slice e t, xs⟩) :
    ∃ A c, v = .slice A xs.length c ∧ xs.length ≤ c ∧ Bor w (All Pr B) t [v] xs := by
  obtain ⟨cs, h1, h2⟩ := rd_ok h ho hr
  have hb := (rep_bor.1 h2).2
  obtain ⟨A, c, rfl, h3, h4⟩ := hb
  exact ⟨A, c, h1, h3, by rw [h1]; exact (rep_bor.1 h2).2⟩

theorem valOk_int (w : World) (Q : Nat → Prop) (k : IntKind) (n : Int) : ValOk w Q (.int k n) (.int k) .b n [] := ⟨[.int k n], rfl, rfl, rfl⟩
theorem valOk_bool (w : World) (Q : Nat → Prop) (b : Bool) : ValOk w Q (.bool b) .bool .b b [] := ⟨[.bool b], rfl, rfl, rfl⟩
theorem valOk_str (w : World) (Q : Nat → Prop) (s : List UInt8) : ValOk w Q (strV s) .str .b s [] := ⟨[strV s], rfl, rfl, rfl⟩

theorem slotOk_sv {N : Nat} (hB : B N = []) {t : Ty} {x : PV t} {v : Value} (h : ValOk w Pr v t .b x []) : SlotOk w Pr E V B N (sv t x) v := by
  show ValOk w Pr v t .b x (B N)
  rw [hB]; exact h

theorem castTy_some {t t' : Ty} {x : PV t} {y : PV t'} (h : castTy t t' x = some y) : ∃ e : t = t', y = e ▸ x := by
  unfold castTy at h
  split at h
  · rename_i e; exact ⟨e, (Option.some.inj h).symm⟩
  · cases h

theorem good_pick {o : Oper} {c x y : Operand} (hop : o.op = .pick c x y) (h : StB w0 Pr0 M E V w Pr B) (hN : ∀ k, E.length ≤ k → B k = []) (hf : Fr off V a)
    {bc : Bool} {t : Ty} {xv yv : PV t} (hc : rd E (opd E off c).s = some ⟨.bool, bc⟩) (hx : rd E (opd E off x).s = some ⟨t, xv⟩) (hy : rd E (opd E off y).s = some ⟨t, yv⟩) (hn : noSl t = true) :
    OpGood w0 Pr0 M P E V w a o (sv t (bif bc then xv else yv), []) := by
  have h1 := rd_bool h (opd_ok h hf c) hc
  refine ⟨.value (if bc then a.eval x else a.eval y), w, _, by simp [execOp, hop, h1, asBool], .inl rfl, rfl, hand_same h hN fun N hB => slotOk_sv hB ?_⟩
  cases bc with
  | true => exact rd_plain h (opd_ok h hf x) hx hn w Pr .b
  | false => exact rd_plain h (opd_ok h hf y) hy hn w Pr .b

theorem good_pick1 {o : Oper} {c x y : Operand} (hop : o.op = .pick c x y) (h : StB w0 Pr0 M E V w Pr B) (hN : ∀ k, E.length ≤ k → B k = []) (hf : Fr off V a)
    {bc : Bool} {t : Ty} {xv : PV t} (hc : rd E (opd E off c).s = some ⟨.bool, bc⟩) (hx : rd E (opd E off (bif bc then x else y)).s = some ⟨t, xv⟩) (hn : noSl t = true) :
    OpGood w0 Pr0 M P E V w a o (sv t xv, []) := by
  have h1 := rd_bool h (opd_ok h hf c) hc
  refine ⟨.value (if bc then a.eval x else a.eval y), w, _, by simp [execOp, hop, h1, asBool], .inl rfl, rfl, hand_same h hN fun N hB => slotOk_sv hB ?_⟩
  cases bc with
  | true => exact rd_plain h (opd_ok h hf x) hx hn w Pr .b
  | false => exact rd_plain h (opd_ok h hf y) hx hn w Pr .b

theorem toList_data (l : List UInt8) : (⟨⟨l⟩⟩ : ByteArray).toList = l := by rw [ByteArray.toList_eq]

/-- What stands for a scalar. -/
def Scal (q : SV) (v : Value) : Prop := noSl q.1 = true → ∀ (w : World) (Q : Nat → Prop), ValOk w Q v q.1 .b q.2 []

theorem rd_scal (h : StB w0 Pr0 M E V w Pr B) {d : Opd} {v : Value} (ho : OpdOk w Pr E V d v) {q : SV} (hr : rd E d.s = some q) : Scal q v :=
  fun hn w' Q => rd_plain h ho (t := q.1) (x := q.2) hr hn w' Q .b

theorem scal_int {k : IntKind} {n : Int} {v : Value} (h : Scal ⟨.int k, n⟩ v) : v = .int k n := by
  obtain ⟨cs, h1, h2⟩ := h rfl default (fun _ => False)
  rw [h1, h2.1]; rfl
theorem scal_bool {b : Bool} {v : Value} (h : Scal ⟨.bool, b⟩ v) : v = .bool b := by
  obtain ⟨cs, h1, h2⟩ := h rfl default (fun _ => False)
  rw [h1, h2.1]; rfl
theorem scal_str {s : List UInt8} {v : Value} (h : Scal ⟨.str, s⟩ v) : v = strV s := by
  obtain ⟨cs, h1, h2⟩ := h rfl default (fun _ => False)
  rw [h1, h2.1]; rfl

/-- A slot that tells a scalar. -/
def SlotScal (s : Slot) (v : Value) : Prop := ∃ t x, s = sv t x ∧ ∀ (w : World) (Q : Nat → Prop), ValOk w Q v t .b x []

theorem SlotScal.int (k : IntKind) (n : Int) : SlotScal (sv (.int k) n) (.int k n) := ⟨.int k, n, rfl, fun w Q => valOk_int w Q k n⟩
theorem SlotScal.bool (b : Bool) : SlotScal (sv .bool b) (.bool b) := ⟨.bool, b, rfl, fun w Q => valOk_bool w Q b⟩
theorem SlotScal.str (s : List UInt8) : SlotScal (sv .str s) (strV s) := ⟨.str, s, rfl, fun w Q => valOk_str w Q s⟩

theorem SlotScal.slot {s : Slot} {v : Value} (h : SlotScal s v) {N : Nat} (hB : B N = []) : SlotOk w Pr E V B N s v := by
  obtain ⟨t, x, rfl, h⟩ := h
  exact slotOk_sv hB (h w Pr)

section
variable {R : Type} {K : Slot → Option R} {r : R}

theorem intBin_ok {op : BinOp} {k : IntKind} {x y : Int} (h : intBin op k x y K = some r) :
    ∃ s v, K s = some r ∧ SlotScal s v ∧ ∀ (t : TypeId), op ≠ .shl → op ≠ .shr → (binOp op t (.int k x) (.int k y)).run P w = .ok v w := by
  cases op <;> simp only [intBin] at h
  all_goals try (cases h; done)
  case quo =>
    cases hy : (y == 0) with
    | true => rw [hy] at h; cases h
    | false =>
      rw [hy] at h
      have hy' : y ≠ 0 := by simpa using hy
      exact ⟨_, _, h, .int _ _, fun _ _ _ => by simp [binOp, Op.intDiv, hy']⟩
  case rem =>
    cases hy : (y == 0) with
    | true => rw [hy] at h; cases h
    | false =>
      rw [hy] at h
      have hy' : y ≠ 0 := by simpa using hy
      exact ⟨_, _, h, .int _ _, fun _ _ _ => by simp [binOp, Op.intDiv, hy']⟩
  all_goals first
    | exact ⟨_, _, h, .int _ _, fun _ _ _ => by simp [binOp, Op.intArith]⟩
    | exact ⟨_, _, h, .bool _, fun _ _ _ => by simp [binOp, Op.intCmp]⟩

theorem strBin_ok {op : BinOp} {x y : List UInt8} (h : strBin op x y K = some r) :
    ∃ s v, K s = some r ∧ SlotScal s v ∧ ∀ (t : TypeId), (binOp op t (strV x) (strV y)).run P w = .ok v w := by
  cases op <;> simp only [strBin] at h
  all_goals try (cases h; done)
  case add =>
    cases hy : decide (x.length + y.length ≤ 1099511627776) with
    | false => rw [hy] at h; cases h
    | true =>
      rw [hy] at h
      have hy' : x.length + y.length ≤ 1099511627776 := of_decide_eq_true hy
      refine ⟨_, _, h, .str _, fun t => ?_⟩
      have e1 : (ByteArray.mk ⟨x⟩).size = x.length := rfl
      have e2 : (ByteArray.mk ⟨y⟩).size = y.length := rfl
      have e3 : ¬ (((x.length + y.length : Nat) : Int) > IntKind.i64.max) := by simp only [IntKind.max_i64]; omega
      simp only [binOp, strV, Op.stringOp, e1, e2, if_neg e3]
      have e4 : ((⟨⟨x⟩⟩ : ByteArray) ++ ⟨⟨y⟩⟩) = ⟨⟨x ++ y⟩⟩ := by
        apply ByteArray.ext
        rw [ByteArray.data_append]
        simp
      rw [e4]; rfl
  all_goals exact ⟨_, _, h, .bool _, fun t => by simp [binOp, strV, Op.stringOp]⟩

theorem run_equal_bool {t : TypeId} (hd : P.underlying t = some .bool) (x y : Bool) : (Op.equal t (.bool x) (.bool y)).run P w = .ok (x == y) w := by
  have key : ∀ d, (Op.equalIn (d + 1) t (.bool x) (.bool y)).run P w = .ok (x == y) w := fun d => by
    simp only [Op.equalIn, Sem.run_bind, run_underlying hd, Result.andThen_ok]; rfl
  have e : Op.maxDepth = 9999 + 1 := rfl
  unfold Op.equal
  rw [e]
  exact key 9999

theorem binK_ok {cx : Cx} (htab : TabOk P cx.tab) {t : TypeId} {op : BinOp} {p q : SV} {vp vq : Value} (hp : Scal p vp) (hq : Scal q vq)
    (h : binK (match lookup cx.tab t with | some .bool => true | _ => false) op p q K = some r) :
    ∃ s v, K s = some r ∧ SlotScal s v ∧ ∀ (x y : Operand), (eqGuard op t x y vp vq).run P w = .ok () w ∧ (binOp op t vp vq).run P w = .ok v w := by
  obtain ⟨tp, xp⟩ := p
  obtain ⟨tq, xq⟩ := q
  cases tp with
  | int k =>
    cases tq with
    | int k' =>
      rw [scal_int hp, scal_int hq]
      have g : ∀ x y : Operand, (eqGuard op t x y (.int k xp) (.int k' xq)).run P w = .ok () w := fun x y => by rw [eqGuard_at_int]; rfl
      by_cases h1 : op = .shl
      · subst h1
        simp only [binK] at h
        cases hy : decide (0 ≤ xq) with
        | false => rw [hy] at h; cases h
        | true =>
          rw [hy] at h
          have hy' : ¬ (show Int from xq) < 0 := Int.not_lt.2 (of_decide_eq_true hy)
          exact ⟨_, _, h, .int _ _, fun x y => ⟨g x y, by simp [binOp, Op.shift, hy']⟩⟩
      · by_cases h2 : op = .shr
        · subst h2
          simp only [binK] at h
          cases hy : decide (0 ≤ xq) with
          | false => rw [hy] at h; cases h
          | true =>
            rw [hy] at h
            have hy' : ¬ (show Int from xq) < 0 := Int.not_lt.2 (of_decide_eq_true hy)
            exact ⟨_, _, h, .int _ _, fun x y => ⟨g x y, by simp [binOp, Op.shift, hy']⟩⟩
        · have h' : (bif k == k' then intBin op k xp xq K else none) = some r := by
            cases op <;> first | exact h | exact absurd rfl h1 | exact absurd rfl h2
          cases hk : (k == k') with
          | false => rw [hk] at h'; cases h'
          | true =>
            rw [hk] at h'
            obtain rfl := beq_iff_eq.1 hk
            obtain ⟨s, v, q1, q2, q3⟩ := intBin_ok (P := P) (w := w) h'
            exact ⟨s, v, q1, q2, fun x y => ⟨g x y, q3 t h1 h2⟩⟩
    | _ => cases op <;> simp [binK] at h
  | str =>
    cases tq with
    | str =>
      rw [scal_str hp, scal_str hq]
      obtain ⟨s, v, q1, q2, q3⟩ := strBin_ok (P := P) (w := w) (show strBin op xp xq K = some r from h)
      exact ⟨s, v, q1, q2, fun x y => ⟨by rw [strV, eqGuard_at_string]; rfl, q3 t⟩⟩
    | _ => cases op <;> simp [binK] at h
  | bool =>
    cases tq with
    | bool =>
      rw [scal_bool hp, scal_bool hq]
      have g : ∀ x y : Operand, (eqGuard op t x y (.bool xp) (.bool xq)).run P w = .ok () w := fun x y => by rw [eqGuard_at_bool]; rfl
      simp only [binK] at h
      split at h
      · rename_i hl
        obtain ⟨d, hd, hfit⟩ := (tab_fact htab hl).und
        have hd' : d = .bool := by cases d <;> first | rfl | (simp [fits, Ty.agg] at hfit; done)
        subst hd'
        simp only [cond_true] at h
        cases op <;> simp only [] at h <;> try (cases h; done)
        · exact ⟨_, _, h, .bool _, fun x y => ⟨g x y, by simp only [binOp, Sem.run_bind, run_equal_bool hd, Result.andThen_ok]; rfl⟩⟩
        · exact ⟨_, _, h, .bool _, fun x y => ⟨g x y, by simp only [binOp, Sem.run_bind, run_equal_bool hd, Result.andThen_ok]; rfl⟩⟩
      · simp at h
    | _ => cases op <;> simp [binK] at h
  | _ => cases tq <;> cases op <;> simp [binK] at h

end

theorem hand_scal (h : StB w0 Pr0 M E V w Pr B) (hN : ∀ k, E.length ≤ k → B k = []) {s : Slot} {v : Value} (hs : SlotScal s v) : Hand w0 Pr0 M E V w s v :=
  hand_same h hN fun _ hB => hs.slot hB

theorem good_scal {o : Oper} (h : StB w0 Pr0 M E V w Pr B) (hN : ∀ k, E.length ≤ k → B k = []) {s : Slot} {v : Value} (hs : SlotScal s v)
    (hr : (execOp a.eval o).run P w = .ok (.value v) w) : OpGood w0 Pr0 M P E V w a o (s, []) :=
  ⟨.value v, w, v, hr, .inl rfl, rfl, hand_scal h hN hs⟩

end
end Go.Dn
