/- Operations, seventh part: tuples, functions, new slices, conversions, appends. -/
import Derived.Test.YtegfhigkmghmjaaDoorDo
import Derived.Laws.BytesArg
import Derived.Laws.BytesString
import Derived.Lib.ConvBytes
namespace Go.Dn

section
variable {w0 : World} {Pr0 M : Nat → Prop}
variable {P : Program} {cx : Cx} {E : Env} {V : List Value} {w w' : World} {Pr : Nat → Prop} {B : Nat → List Nat} {off : Nat} {a : Act}

theorem tup_get : ∀ {l : List TV} {vs : List Value} {bs : List Nat} {i : Nat} {tv : TV}, TupOk w Pr l vs bs → l[i]? = some tv → tv.t ≠ .unit →
    ∃ v b1 b2, vs[i]? = some v ∧ bs.Perm (b1 ++ b2) ∧ ValOk w Pr v tv.t tv.o tv.x b1 ∧ TupOk w Pr (l.set i ⟨.unit, .b, ()⟩) vs b2
  | x :: l, v :: vs, bs, 0, tv, h, hi, hn => by
    obtain ⟨b1, b2, h1, h2, h3⟩ := h
    simp only [List.getElem?_cons_zero, Option.some.injEq] at hi
    subst hi
    exact ⟨v, b1, b2, rfl, h1, h2.resolve_left hn, [], b2, by simp, .inl rfl, h3⟩
  | x :: l, v :: vs, bs, i + 1, tv, h, hi, hn => by
    obtain ⟨b1, b2, h1, h2, h3⟩ := h
    obtain ⟨u, c1, c2, g1, g2, g3, g4⟩ := tup_get (i := i) h3 (by simpa using hi) hn
    refine ⟨u, c1, b1 ++ c2, by simpa using g1, ?_, g3, b1, c2, List.Perm.refl _, h2, g4⟩
    refine h1.trans ((g2.append_left _).trans ?_)
    rw [← List.append_assoc, ← List.append_assoc]
    exact List.perm_append_comm.append_right _
  | [], [], _, _, _, _, hi, _ => by simp at hi
  | [], _ :: _, _, _, _, h, _, _ => h.elim
  | _ :: _, [], _, _, _, h, _, _ => h.elim

theorem good_extract {o : Oper} {x : Operand} {i k : Nat} {l : List TV} {tv : TV} (hop : o.op = .extract x i) (h : StB w0 Pr0 M E V w Pr B) (hN : ∀ k, E.length ≤ k → B k = []) (hf : Fr off V a)
    (hx : opd E off x = ⟨some k, .tup l⟩) (hi : l[i]? = some tv) (hn : tv.t ≠ .unit) : OpGood w0 Pr0 M P E V w a o (.val tv.t tv.o tv.x, [.cont k (.tup (l.set i ⟨.unit, .b, ()⟩))]) := by
  have ho := opd_ok h hf x
  rw [hx] at ho
  rcases ho with h0 | ⟨e, h1, h2, h3⟩
  · cases h0
  have hso := h.slots k e _ h1 h2
  rw [← h3] at hso
  obtain ⟨vs, q1, q2⟩ := hso
  obtain ⟨v, b1, b2, g1, g2, g3, g4⟩ := tup_get q2 hi hn
  have hk := (List.getElem?_eq_some_iff.1 h1).1
  have hkN : k ≠ E.length := by omega
  refine ⟨.value v, w, v, ?_, .inl rfl, by simp [appU, U.app], Pr, swap B E.length k b1 b2, ?_, ?_, ?_⟩
  · have g1' : vs.toArray[i]? = some v := by simpa using g1
    simp [execOp, hop, q1, Instr.extract, g1']
  · show StB w0 Pr0 M (E.set k _) V w Pr _
    refine h.part (Nat.le_refl _) (hN _ (Nat.le_refl _)) h1 h2 g2 ?_ ?_
    · rw [at_of h1]
      refine .inr (.inl ⟨rfl, rfl, Nat.lt_succ_self _, ?_⟩)
      show Slot.ofVal (.tup _) = e.s.ofVal
      rw [← h3]; rfl
    · exact ⟨vs, q1, by rw [swap_k hkN]; exact g4⟩
  · show ValOk _ _ _ _ _ _ _
    rw [show (appU E [.cont k (.tup (l.set i ⟨.unit, .b, ()⟩))]).length = E.length by simp [appU, U.app], swap_N]
    exact g3
  · intro j hj
    rw [show (appU E [.cont k (.tup (l.set i ⟨.unit, .b, ()⟩))]).length = E.length by simp [appU, U.app]] at hj
    rw [swap_ne (by omega) (by omega)]
    exact hN j (by omega)

theorem placesOf_ok (h : StB w0 Pr0 M E V w Pr B) (hf : Fr off V a) : ∀ {xs : List Operand} {as : List Al}, placesOf E off xs = some as → AllL (AddrOk w E V) as (xs.map a.eval)
  | [], as, hp => by simp only [placesOf, Option.some.injEq] at hp; subst hp; trivial
  | x :: xs, as, hp => by
    simp only [placesOf] at hp
    split at hp
    · rename_i al as' h1 h2
      cases hn : isNil al.p with
      | false => rw [hn] at hp; cases hp
      | true =>
        rw [hn] at hp
        simp only [cond_true, Option.some.injEq] at hp
        subst hp
        exact ⟨(place_ok h (opd_ok h hf x) h1).1, placesOf_ok h hf h2⟩
    · cases hp

theorem good_makeFunc {o : Oper} {f : FuncId} {first captured : Array Operand} {as : List Al} (hop : o.op = .makeFunc (.func f) first captured) (h : StB w0 Pr0 M E V w Pr B) (hN : ∀ k, E.length ≤ k → B k = [])
    (hf : Fr off V a) (he : first.isEmpty = true) (hp : placesOf E off captured.toList = some as) : OpGood w0 Pr0 M P E V w a o (.fn f as, []) := by
  have : first = #[] := by simpa using he
  subst this
  refine ⟨.value (.func (.func f) #[] (captured.map a.eval)), w, _, by simp [execOp, hop, Instr.makeFunc], .inl rfl, rfl, hand_same h hN fun N hB => ?_⟩
  refine ⟨(captured.toList.map a.eval), ?_, placesOf_ok h hf hp⟩
  have : captured.map a.eval = (captured.toList.map a.eval).toArray := by apply Array.ext'; simp
  rw [this]

/-! ### new rows -/
theorem repL_zeros {t : Ty} {c : List Value} (hc : ∀ Pr, Rep w Pr t (top t) c (dflt t) []) : ∀ (n : Nat), RepL (Rep w Pr t (top t)) ((List.replicate n c).flatten) (List.replicate n (dflt t)) []
  | 0 => ⟨rfl, rfl⟩
  | n + 1 => ⟨c, (List.replicate n c).flatten, [], [], by simp [List.replicate_succ], by simp, hc Pr, repL_zeros hc n⟩

theorem made_flat (c : List Value) (hc : c ≠ []) : ∀ (n : Nat), (madeCells c.toArray (n * c.length)).toList = (List.replicate n c).flatten := by
  intro n
  have hpos : 0 < c.length := List.length_pos_iff.2 hc
  apply List.ext_getElem?
  intro i
  have hlen : ((List.replicate n c).flatten).length = n * c.length := by simp
  by_cases hi : i < n * c.length
  · have h1 : (madeCells c.toArray (n * c.length)).toList[i]? = c[i % c.length]? := by
      have hm : i % c.length < c.length := Nat.mod_lt _ hpos
      simp [madeCells, hi, hm]
    rw [h1]
    clear h1 hlen
    induction n generalizing i with
    | zero => simp at hi
    | succ n ih =>
      rw [List.replicate_succ, List.flatten_cons]
      by_cases hlt : i < c.length
      · rw [List.getElem?_append_left hlt, Nat.mod_eq_of_lt hlt]
      · rw [List.getElem?_append_right (by omega), ← ih (i - c.length) (by rw [Nat.succ_mul] at hi; omega)]
        congr 1
        exact Nat.mod_eq_sub_mod (by omega)
  · rw [List.getElem?_eq_none (by simp [madeCells]; omega), List.getElem?_eq_none (by rw [hlen]; omega)]

theorem flat_take (c : List Value) (n m : Nat) (h : n ≤ m) : ((List.replicate m c).flatten).take (n * c.length) = (List.replicate n c).flatten := by
  induction n generalizing m with
  | zero => simp
  | succ n ih =>
    cases m with
    | zero => omega
    | succ m =>
      rw [List.replicate_succ, List.flatten_cons, List.replicate_succ, List.flatten_cons, Nat.succ_mul, Nat.add_comm, List.take_append, List.take_of_length_le (by omega), Nat.add_sub_cancel_left, ih m (by omega)]

/-- A new row comes into the hand, with what its elements own. -/
theorem hand_row (h : StB w0 Pr0 M E V w Pr B) {N : Nat} (hN : E.length ≤ N) {cur : List Value} {e : TypeId} {t : Ty} {oe : Ow} {xs : List (PV t)} {ys : List Value} {cap : Nat}
    (hcap : xs.length ≤ cap) (hm : cap ≤ maxLen) (hsz : cur.length = cap * t.size) (htk : cur.take (xs.length * t.size) = ys) (hl : RepL (Rep w Pr t oe) ys xs (B N)) :
    StB w0 Pr0 M E V (w.alloc (.cells cur.toArray e)) Pr (upd B N (w.heap.size :: B N)) ∧
      ValOk (w.alloc (.cells cur.toArray e)) Pr (.slice (some ⟨w.heap.size, 0, none⟩) xs.length cap) (.slice e t) (.row oe) xs (w.heap.size :: B N) := by
  have hlt : ∀ b ∈ B N, b < w.heap.size := fun b hb => (h.free _ _ hb).2.2
  have hs : (w.alloc (.cells cur.toArray e)).heap.size = w.heap.size + 1 := by show (w.heap.push _).size = _; simp
  refine ⟨h.fresh hN (fun b hb => ?_) (List.nodup_cons.2 ⟨fun m => Nat.lt_irrefl _ (hlt _ m), h.nodup N⟩) (fun b hb _ => heap_alloc_ne w _ b hb) rfl rfl rfl (by omega), ?_⟩
  · rcases List.mem_cons.1 hb with rfl | hb
    · exact ⟨.inr (Nat.le_refl _), by omega⟩
    · exact ⟨.inl hb, by have := hlt b hb; omega⟩
  · refine ⟨_, rfl, rep_row.2 ⟨_, ys, B N, rfl, ⟨?_, .inr ⟨w.heap.size, cap, cur.toArray, rfl, Nat.zero_le _, heap_alloc_self w _, hcap, hm, by simpa using hsz, by simpa using htk⟩⟩, by simp [Value.ownBlock], ?_⟩⟩
    · rw [hl.length (fun _ _ _ h => h.length)]
    · exact hl.agree (fun _ h => h) (fun b hb => heap_alloc_ne w _ b (hb.elim (h.prlt b) (hlt b)))

theorem roomB_iff {n : Nat} (h : roomB n = true) : n ≤ 1099511627776 := of_decide_eq_true h

theorem good_makeSlice (htab : TabOk P cx.tab) {o : Oper} {tid : TypeId} {x y : Operand} {e : TypeId} {t : Ty} {k k' : IntKind} {n m : Int} (hop : o.op = .makeSlice tid x y) (h : StB w0 Pr0 M E V w Pr B)
    (hN : ∀ k, E.length ≤ k → B k = []) (hf : Fr off V a) (hl : lookup cx.tab tid = some (.slice e t)) (hx : rd E (opd E off x).s = some ⟨.int k, n⟩) (hy : rd E (opd E off y).s = some ⟨.int k', m⟩)
    (h0 : 0 ≤ n) (h1 : n ≤ m) (h2 : roomB m.toNat = true) : OpGood w0 Pr0 M P E V w a o (.val (.slice e t) (.row (top t)) (List.replicate n.toNat (dflt t)), []) := by
  obtain ⟨_, hd, hfe, hsz⟩ := slTy_of htab hl
  obtain ⟨i, z, i1, i2, i3, i4, i5⟩ := hfe.info
  have hm := roomB_iff h2
  obtain ⟨c, hc, _⟩ := zOk_rep (w := w) (Pr := Pr) i4
  simp only [List.append_nil] at hc
  have hcr : ∀ Q, Rep w Q t (top t) c (dflt t) [] := by
    intro Q
    obtain ⟨c', hc', hr⟩ := zOk_rep (w := w) (Pr := Q) i4
    simp only [List.append_nil] at hc'
    have : c' = c := hc'.symm.trans hc
    rw [← this]; exact hr
  have hcl : c.length = t.size := (hcr Pr).length
  have hcn : c ≠ [] := by rintro rfl; simp at hcl; exact hsz hcl.symm
  have hzc : z.cells = c.toArray := by rw [← hc]
  have hrun := run_make (P := P) w tid e i z hd i1 i3 k k' n m h0 h1 (by
    have : (i.bytes : Int) * m ≤ 128 * m := by
      apply Int.mul_le_mul_of_nonneg_right <;> omega
    omega) (by omega)
  have hB := hN E.length (Nat.le_refl _)
  have hrow := hand_row (w := w) (e := e) (t := t) (oe := top t) h (Nat.le_refl E.length) (cur := (List.replicate m.toNat c).flatten) (cap := m.toNat) (xs := List.replicate n.toNat (dflt t)) (ys := (List.replicate n.toNat c).flatten)
    (by simp; omega) (by simp only [maxLen]; omega) (by simp [hcl]) (by rw [List.length_replicate, ← hcl]; exact flat_take c _ _ (by omega)) (by rw [hB]; exact repL_zeros hcr _)
  rw [hB] at hrow
  have hcells : madeCells z.cells (m.toNat * i.size) = ((List.replicate m.toNat c).flatten).toArray := by
    rw [hzc, i2, ← hcl]
    apply Array.ext'
    simpa using made_flat c hcn m.toNat
  rw [hcells] at hrun
  refine ⟨.value (.slice (some ⟨w.heap.size, 0, none⟩) n.toNat m.toNat), _, .slice (some ⟨w.heap.size, 0, none⟩) n.toNat m.toNat, ?_, .inl rfl, rfl, Pr, upd B E.length [w.heap.size], hrow.1, ?_, fun j hj => ?_⟩
  · simp [execOp, hop, rd_int h (opd_ok h hf x) hx, rd_int h (opd_ok h hf y) hy, hrun]
  · show ValOk _ _ _ _ _ _ _
    simp only [appU]
    rw [upd_N]
    have := hrow.2
    rw [List.length_replicate] at this
    exact this
  · simp only [appU] at hj
    rw [upd_ne (by omega)]; exact hN j (by omega)

end
end Go.Dn
