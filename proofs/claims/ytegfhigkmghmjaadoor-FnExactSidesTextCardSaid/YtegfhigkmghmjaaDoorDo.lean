/- Operations, sixth part: cuts, lengths, conversions, functions, new slices. -/
import Derived.Test.YtegfhigkmghmjaaDoorDn
namespace Go.Dn

section
variable {w0 : World} {Pr0 M : Nat → Prop}
variable {P : Program} {cx : Cx} {E : Env} {V : List Value} {w w' : World} {Pr : Nat → Prop} {B : Nat → List Nat} {off : Nat} {a : Act}

theorem cutB_iff {x y : Int} {n : Nat} (h : cutB x y n = true) : 0 ≤ x ∧ x ≤ y ∧ y ≤ (n : Int) := by
  simp only [cutB, Bool.and_eq_true, decide_eq_true_eq] at h
  exact ⟨h.1, h.2.1, h.2.2⟩

/-- What a bound is in the machine. -/
theorem bound_ok (h : StB w0 Pr0 M E V w Pr B) (hf : Fr off V a) {d : Int} {x : Option Operand} {n : Int} (hb : bound E off d x = some n) :
    (x = none ∧ n = d) ∨ ∃ y k, x = some y ∧ a.eval y = .int k n := by
  cases x with
  | none => simp only [bound, Option.some.injEq] at hb; exact .inl ⟨rfl, hb.symm⟩
  | some y =>
    simp only [bound] at hb
    split at hb
    · rename_i k m hr
      obtain rfl := Option.some.inj hb
      exact .inr ⟨y, k, rfl, rd_int h (opd_ok h hf y) hr⟩
    · cases hb

theorem run_bounds {s : Bool} {len cap : Nat} {lo hi : Option Value} {x y : Int} (hl : (lo = none ∧ x = 0) ∨ ∃ k, lo = some (.int k x)) (hh : (hi = none ∧ y = (len : Int)) ∨ ∃ k, hi = some (.int k y))
    (h0 : 0 ≤ x) (h1 : x ≤ y) (h2 : y ≤ (cap : Int)) : (Instr.sliceBounds s len cap lo hi none).run P w = .ok (x.toNat, y.toNat, cap) w := by
  have hxy : x ≤ (y.toNat : Int) := by omega
  have hy0 : 0 ≤ y := by omega
  rcases hl with ⟨rfl, rfl⟩ | ⟨k, rfl⟩ <;> rcases hh with ⟨rfl, rfl⟩ | ⟨k', rfl⟩ <;>
    simp [Instr.sliceBounds, Instr.sliceBound, asIntOf, h0, h1, h2, hxy, hy0] <;> (intro _; omega)

theorem good_cut_str (htab : TabOk P cx.tab) {o : Oper} {tid : TypeId} {x : Operand} {lo hi : Option Operand} {l : List UInt8} {m n : Int} (hop : o.op = .slice tid x lo hi none) (h : StB w0 Pr0 M E V w Pr B)
    (hN : ∀ k, E.length ≤ k → B k = []) (hf : Fr off V a) (hl : lookup cx.tab tid = some .str) (hx : rd E (opd E off x).s = some ⟨.str, l⟩) (h1 : bound E off 0 lo = some m) (h2 : bound E off (l.length : Int) hi = some n)
    (hc : cutB m n l.length = true) : OpGood w0 Pr0 M P E V w a o (sv .str (cutL m n l), []) := by
  obtain ⟨d, hd, hfit⟩ := (tab_fact htab hl).und
  have hd' : d = .string := by cases d <;> first | rfl | (simp [fits, Ty.agg] at hfit; done)
  subst hd'
  obtain ⟨c0, c1, c2⟩ := cutB_iff hc
  have hv := rd_str h (opd_ok h hf x) hx
  have hlo : (lo.map a.eval = none ∧ m = 0) ∨ ∃ k, lo.map a.eval = some (.int k m) := by
    rcases bound_ok h hf h1 with ⟨rfl, rfl⟩ | ⟨y, k, rfl, hy⟩
    · exact .inl ⟨rfl, rfl⟩
    · exact .inr ⟨k, by simp [hy]⟩
  have hhi : (hi.map a.eval = none ∧ n = (l.length : Int)) ∨ ∃ k, hi.map a.eval = some (.int k n) := by
    rcases bound_ok h hf h2 with ⟨rfl, rfl⟩ | ⟨y, k, rfl, hy⟩
    · exact .inl ⟨rfl, rfl⟩
    · exact .inr ⟨k, by simp [hy]⟩
  have hsz : (⟨⟨l⟩⟩ : ByteArray).size = l.length := rfl
  have hb := run_bounds (P := P) (w := w) (s := false) (len := l.length) (cap := l.length) hlo hhi c0 c1 c2
  have hex : ((⟨⟨l⟩⟩ : ByteArray).extract m.toNat n.toNat) = ⟨⟨cutL m n l⟩⟩ := by
    apply ByteArray.ext
    rw [ByteArray.data_extract]
    simp only [cutL]
    apply Array.ext'
    simp [List.extract_eq_drop_take']
  refine good_scal h hN (.str _) ?_
  simp [execOp, hop, hv, strV, Instr.sliceAt, Instr.slice, run_underlying hd, hsz, hb, hex]

theorem slTy_of (htab : TabOk P cx.tab) {tid : TypeId} {e : TypeId} {t : Ty} (hl : lookup cx.tab tid = some (.slice e t)) : SlTy P cx tid t ∧ P.underlying tid = some (.slice e) ∧ TyFact P cx.tab e t ∧ t.size ≠ 0 := by
  obtain ⟨d, hd, hfit⟩ := (tab_fact htab hl).und
  obtain ⟨rfl, h1, h2⟩ := fits_slice hfit
  exact ⟨⟨e, hd, tab_fact htab h1⟩, hd, tab_fact htab h1, h2⟩

/-- A part of what is borrowed. -/
theorem bor_cut {Q : Nat → Prop} {t : Ty} {A : Option Addr} {c : Nat} {xs : List (PV t)} {m n : Nat} (hb : xs = [] ∨ ∃ ad ys, A = some ad ∧ Q ad.block ∧ Cells w ad ys ∧ RepL (Rep w Q t .b) ys xs [])
    (h1 : m ≤ n) (h2 : n ≤ xs.length) (hc : xs.length ≤ c) :
    Bor w Q t [.slice (if c = m then A else A.map (·.add (m * t.size))) (n - m) (c - m)] ((xs.take n).drop m) := by
  have hlen : ((xs.take n).drop m).length = n - m := by simp; omega
  refine ⟨_, _, by rw [hlen], by rw [hlen]; omega, ?_⟩
  by_cases he : (xs.take n).drop m = []
  · exact .inl he
  · right
    rcases hb with rfl | ⟨ad, ys, rfl, g1, g2, g3⟩
    · simp at he
    · have hmn : m < n := by
        rcases Nat.lt_or_ge m n with h | h
        · exact h
        · exfalso; apply he; apply List.eq_nil_of_length_eq_zero; rw [hlen]; omega
      have hcm : ¬ c = m := by omega
      obtain ⟨b1, b2, e1, k1, k2⟩ := g3.take (m := t.size) (fun _ _ _ h => h.length) n
      have : b1 ++ b2 = [] := List.perm_nil.1 e1.symm
      simp only [List.append_eq_nil_iff] at this
      obtain ⟨rfl, rfl⟩ := this
      obtain ⟨b3, b4, e2, k3, k4⟩ := k1.take (m := t.size) (fun _ _ _ h => h.length) m
      have : b3 ++ b4 = [] := List.perm_nil.1 e2.symm
      simp only [List.append_eq_nil_iff] at this
      obtain ⟨rfl, rfl⟩ := this
      have hl0 : ((ys.take (n * t.size)).take (m * t.size)).length = m * t.size := by
        have := k3.length (n := t.size) (fun _ _ _ h => h.length)
        rw [this]; congr 1; simp; omega
      refine ⟨ad.add (m * t.size), (ys.take (n * t.size)).drop (m * t.size), by rw [if_neg hcm]; rfl, by rw [add_block]; exact g1, ?_, k4⟩
      have := Cells.sub (w := w) (ad := ad) (c0 := (ys.take (n * t.size)).take (m * t.size)) (c := (ys.take (n * t.size)).drop (m * t.size)) (c2 := ys.drop (n * t.size)) (by
        rw [List.take_append_drop, List.take_append_drop]; exact g2)
      rwa [hl0] at this

theorem good_cut_slice (htab : TabOk P cx.tab) {o : Oper} {tid : TypeId} {x : Operand} {lo hi : Option Operand} {e : TypeId} {t : Ty} {l : List (PV t)} {m n : Int} {s : Slot} (hop : o.op = .slice tid x lo hi none) (h : StB w0 Pr0 M E V w Pr B)
    (hN : ∀ k, E.length ≤ k → B k = []) (hf : Fr off V a) (hl : lookup cx.tab tid = some (.slice e t)) (h1 : bound E off 0 lo = some m) (h2 : bound E off (l.length : Int) hi = some n)
    (hc : cutB m n l.length = true) {Q : Nat → Prop} (hv : ∃ cs, a.eval x = pack (.slice e t) cs ∧ Rep w Q (.slice e t) .b cs l [])
    (hs : ∀ N v cs, B N = [] → v = pack (.slice e t) cs → Rep w Q (.slice e t) .b cs (cutL m n l) [] → SlotOk w Pr E V B N s v) : OpGood w0 Pr0 M P E V w a o (s, []) := by
  obtain ⟨_, hd, hfe, _⟩ := slTy_of htab hl
  obtain ⟨c0, c1, c2⟩ := cutB_iff hc
  obtain ⟨cs, hv1, hv2⟩ := hv
  obtain ⟨_, A, c, rfl, hcc, hb⟩ := rep_bor.1 hv2
  have hlo : (lo.map a.eval = none ∧ m = 0) ∨ ∃ k, lo.map a.eval = some (.int k m) := by
    rcases bound_ok h hf h1 with ⟨rfl, rfl⟩ | ⟨y, k, rfl, hy⟩
    · exact .inl ⟨rfl, rfl⟩
    · exact .inr ⟨k, by simp [hy]⟩
  have hhi : (hi.map a.eval = none ∧ n = (l.length : Int)) ∨ ∃ k, hi.map a.eval = some (.int k n) := by
    rcases bound_ok h hf h2 with ⟨rfl, rfl⟩ | ⟨y, k, rfl, hy⟩
    · exact .inl ⟨rfl, rfl⟩
    · exact .inr ⟨k, by simp [hy]⟩
  have hrb := run_bounds (P := P) (w := w) (s := true) (len := l.length) (cap := c) hlo hhi c0 c1 (by omega)
  have hcut := bor_cut (w := w) (Q := Q) (t := t) (A := A) (c := c) (xs := l) (m := m.toNat) (n := n.toNat) hb (by omega) (by omega) hcc
  refine ⟨.value (.slice (if c = m.toNat then A else A.map (·.add (m.toNat * t.size))) (n.toNat - m.toNat) (c - m.toNat)), w, _, ?_, .inl rfl, rfl, hand_same h hN fun N hB => ?_⟩
  · simp [execOp, hop, hv1, pack, Ty.agg, Instr.sliceAt, Instr.slice, run_underlying hd, hrb, run_sizeOf hfe]
  · exact hs N _ _ hB (by rfl) (rep_bor.2 ⟨rfl, hcut⟩)

theorem rep_noSl {w : World} {Pr : Nat → Prop} : ∀ {t : Ty} {o : Ow} {cs : List Value} {x : PV t} {bs : List Nat}, noSl t = true → Rep w Pr t o cs x bs → bs = []
  | .int _, _, _, _, _, _, h => h.2
  | .bool, _, _, _, _, _, h => h.2
  | .str, _, _, _, _, _, h => h.2
  | .unit, _, _, _, _, _, h => h.2
  | .pair a b, _, _, _, _, hn, h => by
    obtain ⟨c1, c2, b1, b2, _, hp, h1, h2⟩ := rep_pair.1 h
    simp only [noSl, Bool.and_eq_true] at hn
    rw [rep_noSl hn.1 h1, rep_noSl hn.2 h2] at hp
    exact List.perm_nil.1 hp
  | .slice _ _, _, _, _, _, hn, _ => by simp [noSl] at hn
theorem repL_noSl {w : World} {Pr : Nat → Prop} {t : Ty} {o : Ow} (hn : noSl t = true) : ∀ {xs : List (PV t)} {ys : List Value} {bs : List Nat}, RepL (Rep w Pr t o) ys xs bs → bs = []
  | [], _, _, h => h.2
  | _ :: _, _, _, h => by
    obtain ⟨c1, c2, b1, b2, _, hp, h1, h2⟩ := h
    rw [rep_noSl hn h1, repL_noSl hn h2] at hp
    exact List.perm_nil.1 hp

/-- The head of an own row is taken. -/
theorem good_cut_take (htab : TabOk P cx.tab) {o : Oper} {tid : TypeId} {x : Operand} {y : Operand} {e : TypeId} {t : Ty} {oe : Ow} {z : List (PV t)} {n : Int} {us : List U} {d0 : Int} (hop : o.op = .slice tid x none (some y) none) (h : StB w0 Pr0 M E V w Pr B)
    (hN : ∀ k, E.length ≤ k → B k = []) (hf : Fr off V a) (hl : lookup cx.tab tid = some (.slice e t)) (h2 : bound E off d0 (some y) = some n)
    (hc : cutB 0 n z.length = true) (hns : noSl t = true) (ht : take E (opd E off x) = some (⟨.slice e t, .row oe, z⟩, us)) : OpGood w0 Pr0 M P E V w a o (.val (.slice e t) (.row oe) (cutL 0 n z), us) := by
  obtain ⟨_, hd, hfe, _⟩ := slTy_of htab hl
  obtain ⟨c0, c1, c2⟩ := cutB_iff hc
  have hlo : ((none : Option Value) = none ∧ (0 : Int) = 0) ∨ ∃ k, (none : Option Value) = some (.int k 0) := .inl ⟨rfl, rfl⟩
  have hhi : ((some (a.eval y)) = none ∧ n = (z.length : Int)) ∨ ∃ k, some (a.eval y) = some (.int k n) := by
    rcases bound_ok h hf h2 with ⟨q, _⟩ | ⟨y', k, q, hy⟩
    · cases q
    · cases q; exact .inr ⟨k, by rw [hy]⟩
  obtain ⟨hh, hlen⟩ := hand_take h hN (opd_ok h hf x) ht
  obtain ⟨Pr1, B1, g1, g2, g3⟩ := hh
  have g2 : ValOk w Pr1 (a.eval x) (.slice e t) (.row oe) z (B1 (appU E us).length) := g2
  obtain ⟨cs, hv, hr⟩ := g2
  obtain ⟨v, ys, b', rfl, e4, e5, e6⟩ := rep_row.1 hr
  have hv : a.eval x = v := hv
  have hb' : b' = [] := repL_noSl hns e6
  subst hb'
  obtain ⟨b1, b2, q1, q2, q3⟩ := e6.take (m := t.size) (fun _ _ _ h => h.length) n.toNat
  have hbb : b1 ++ b2 = [] := List.perm_nil.1 q1.symm
  simp only [List.append_eq_nil_iff] at hbb
  obtain ⟨rfl, rfl⟩ := hbb
  have hcut : cutL 0 n z = z.take n.toNat := by simp [cutL]
  have hlen2 : (z.take n.toNat).length = n.toNat := by simp; omega
  obtain ⟨hys, hform⟩ := e4
  have key : ∃ v', (execOp a.eval o).run P w = .ok (.value v') w ∧ w.ownsRow 0 e t.size v' n.toNat (ys.take (n.toNat * t.size)) ∧ v'.ownBlock = v.ownBlock := by
    rcases hform with ⟨rfl, hz⟩ | ⟨g, c, cur, rfl, f1, f2, f3, f4, f5, f6⟩
    · have hn0 : n = 0 := by omega
      have hrb := run_bounds (P := P) (w := w) (s := true) (len := 0) (cap := 0) hlo (by rw [hz] at hhi; exact hhi) c0 c1 (by omega)
      refine ⟨.slice none 0 0, ?_, ?_, rfl⟩
      · simp [execOp, hop, hv, Instr.sliceAt, Instr.slice, run_underlying hd, hrb, run_sizeOf hfe, hn0]
      · refine ⟨by simp [hn0], .inl ⟨rfl, by omega⟩⟩
    · have hrb := run_bounds (P := P) (w := w) (s := true) (len := z.length) (cap := c) hlo hhi c0 c1 (by omega)
      refine ⟨.slice (some ⟨g, 0, none⟩) n.toNat c, ?_, ?_, rfl⟩
      · simp [execOp, hop, hv, Instr.sliceAt, Instr.slice, run_underlying hd, hrb, run_sizeOf hfe, Addr.add]
      · have hle : n.toNat * t.size ≤ z.length * t.size := Nat.mul_le_mul_right _ (by omega)
        refine ⟨by rw [List.length_take, hys]; omega, .inr ⟨g, c, cur, rfl, f1, f2, by omega, f4, f5, ?_⟩⟩
        rw [← f6, List.take_take, Nat.min_eq_left hle]
  obtain ⟨v', k1, k2, k3⟩ := key
  refine ⟨.value v', w, v', k1, .inl rfl, hlen, Pr1, B1, g1, ?_, g3⟩
  refine ⟨[v'], rfl, rep_row.2 ⟨v', ys.take (n.toNat * t.size), [], rfl, ?_, ?_, ?_⟩⟩
  · rw [hcut, hlen2]; exact k2
  · rw [k3]; exact e5
  · rw [hcut]; exact q2

/-! ### lengths -/
theorem good_len (htab : TabOk P cx.tab) {o : Oper} {c : Call} {x : Operand} (hop : o.op = .call c) (hc : c.callee = .builtin .len) (hargs : c.args = #[x]) (h : StB w0 Pr0 M E V w Pr B)
    (hN : ∀ k, E.length ≤ k → B k = []) (hf : Fr off V a) {n : Nat} (ht : ∃ tid, c.argTypes[0]? = some tid ∧
      ((lookup cx.tab tid = some .str ∧ ∃ l : List UInt8, rd E (opdT cx E off tid x).s = some ⟨.str, l⟩ ∧ l.length = n) ∨
       (∃ e t e' t', lookup cx.tab tid = some (.slice e t) ∧ ∃ l : List (PV t'), rd E (opdT cx E off tid x).s = some ⟨.slice e' t', l⟩ ∧ l.length = n))) :
    OpGood w0 Pr0 M P E V w a o (sv (.int .i64) (n : Int), []) := by
  obtain ⟨tid, h0, ht⟩ := ht
  refine good_scal h hN (.int _ _) ?_
  rcases ht with ⟨hl, l, hr, rfl⟩ | ⟨e, t, e', t', hl, l, hr, rfl⟩
  · obtain ⟨d, hd, hfit⟩ := (tab_fact htab hl).und
    have hd' : d = .string := by cases d <;> first | rfl | (simp [fits, Ty.agg] at hfit; done)
    subst hd'
    have hv := rd_str h (opdT_ok h hf tid x) hr
    have hsz : (⟨⟨l⟩⟩ : ByteArray).size = l.length := rfl
    simp [execOp, hop, resolve, hc, hargs, invoke, builtin, Builtin.len_, h0, run_underlying hd, hv, strV, hsz, goInt]
  · obtain ⟨_, hd, _⟩ := slTy_of htab hl
    obtain ⟨A, c', hv, _⟩ := rd_slice h (opdT_ok h hf tid x) hr
    simp [execOp, hop, resolve, hc, hargs, invoke, builtin, Builtin.len_, h0, run_underlying hd, hv, goInt]

theorem good_max {o : Oper} {c : Call} {x y : Operand} {k : IntKind} {m n : Int} (hop : o.op = .call c) (hc : c.callee = .builtin .max) (hargs : c.args = #[x, y]) (h : StB w0 Pr0 M E V w Pr B)
    (hN : ∀ k, E.length ≤ k → B k = []) (hf : Fr off V a) (hx : rd E (opd E off x).s = some ⟨.int k, m⟩) (hy : rd E (opd E off y).s = some ⟨.int k, n⟩) :
    OpGood w0 Pr0 M P E V w a o (sv (.int k) (bif decide (n > m) then n else m), []) := by
  have h1 := rd_int h (opd_ok h hf x) hx
  have h2 := rd_int h (opd_ok h hf y) hy
  refine good_scal h hN (.int _ _) ?_
  simp only [execOp, hop, resolve, hc, hargs, List.map_toArray, List.map_cons, List.map_nil, h1, h2]
  simp [invoke, builtin, Builtin.max_, Builtin.max2, cond_eq_ite]

theorem good_min {o : Oper} {c : Call} {x y : Operand} {k : IntKind} {m n : Int} (hop : o.op = .call c) (hc : c.callee = .builtin .min) (hargs : c.args = #[x, y]) (h : StB w0 Pr0 M E V w Pr B)
    (hN : ∀ k, E.length ≤ k → B k = []) (hf : Fr off V a) (hx : rd E (opd E off x).s = some ⟨.int k, m⟩) (hy : rd E (opd E off y).s = some ⟨.int k, n⟩) :
    OpGood w0 Pr0 M P E V w a o (sv (.int k) (bif decide (n < m) then n else m), []) := by
  have h1 := rd_int h (opd_ok h hf x) hx
  have h2 := rd_int h (opd_ok h hf y) hy
  refine good_scal h hN (.int _ _) ?_
  simp only [execOp, hop, resolve, hc, hargs, List.map_toArray, List.map_cons, List.map_nil, h1, h2]
  simp [invoke, builtin, Builtin.min_, Builtin.min2, cond_eq_ite]

theorem good_index_str (htab : TabOk P cx.tab) {o : Oper} {tid : TypeId} {x i : Operand} {l : List UInt8} {k : IntKind} {n : Int} (hop : o.op = .index tid x i) (h : StB w0 Pr0 M E V w Pr B)
    (hN : ∀ k, E.length ≤ k → B k = []) (hf : Fr off V a) (hl : lookup cx.tab tid = some .str) (hx : rd E (opd E off x).s = some ⟨.str, l⟩) (hi : rd E (opd E off i).s = some ⟨.int k, n⟩) (hn : inB n l.length = true) :
    OpGood w0 Pr0 M P E V w a o (sv (.int .u8) ((l.getD n.toNat 0).toNat : Int), []) := by
  obtain ⟨d, hd, hfit⟩ := (tab_fact htab hl).und
  have hd' : d = .string := by cases d <;> first | rfl | (simp [fits, Ty.agg] at hfit; done)
  subst hd'
  obtain ⟨h0, h1, h2⟩ := inB_iff hn
  have hv := rd_str h (opd_ok h hf x) hx
  have hw := rd_int h (opd_ok h hf i) hi
  have hg : (⟨⟨l⟩⟩ : ByteArray)[n.toNat]? = some (l.getD n.toNat 0) := by
    have hsz : n.toNat < (⟨⟨l⟩⟩ : ByteArray).size := h2
    rw [getElem?_pos (⟨⟨l⟩⟩ : ByteArray) n.toNat hsz]
    congr 1
    show l[n.toNat] = _
    simp [List.getD, h2]
  refine good_scal h hN (.int _ _) ?_
  simp [execOp, hop, hv, hw, strV, Instr.index, asIntOf, run_underlying hd, h0, hg]

end
end Go.Dn
