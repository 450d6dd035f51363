/- The pairs that the reference tells. -/
import Derived.Test.YthcnbokoghjkjaaPv9
open Go Go.Dn
namespace R
set_option linter.unusedVariables false

/-- A pair that may be the next one. -/
def cand (a b : TXT) (i j p q : Nat) : Bool := (a.getD p [] == b.getD q []) && decide (T a b (p + 1) (q + 1) + 1 = T a b i j)
def scanQ (c : Nat → Bool) (p j : Nat) : Nat → Nat × Nat → Nat × Nat
  | 0, acc => acc
  | k + 1, acc => scanQ c p j k (if c (j + k) then (p, j + k) else acc)
def scanR (c : Nat → Nat → Bool) (i j n : Nat) : Nat → Nat × Nat → Nat × Nat
  | 0, acc => acc
  | k + 1, acc => scanR c i j n k (scanQ (c (i + k)) (i + k) j n acc)
def nextPr (a b : TXT) (i j : Nat) : Nat × Nat := scanR (cand a b i j) i j (b.length - j) (a.length - i) (a.length, b.length)
def pairsF (a b : TXT) : Nat → Nat → Nat → List (Nat × Nat)
  | 0, _, _ => []
  | n + 1, i, j => nextPr a b i j :: pairsF a b n ((nextPr a b i j).1 + 1) ((nextPr a b i j).2 + 1)

theorem scanQ_spec (c : Nat → Bool) (p j : Nat) : ∀ (k : Nat) (acc : Nat × Nat),
    (scanQ c p j k acc = acc ∧ ∀ q, j ≤ q → q < j + k → c q = false) ∨ (∃ q, scanQ c p j k acc = (p, q) ∧ j ≤ q ∧ q < j + k ∧ c q = true ∧ ∀ q', j ≤ q' → q' < q → c q' = false)
  | 0, acc => .inl ⟨rfl, fun q h1 h2 => by omega⟩
  | k + 1, acc => by
    simp only [scanQ]
    cases hc : c (j + k) with
    | true =>
      simp only [if_true]
      rcases scanQ_spec c p j k (p, j + k) with ⟨h1, h2⟩ | ⟨q, h1, h2, h3, h4, h5⟩
      · exact .inr ⟨j + k, h1, by omega, by omega, hc, fun q' a1 a2 => h2 q' a1 a2⟩
      · exact .inr ⟨q, h1, h2, by omega, h4, h5⟩
    | false =>
      simp only [Bool.false_eq_true, if_false]
      rcases scanQ_spec c p j k acc with ⟨h1, h2⟩ | ⟨q, h1, h2, h3, h4, h5⟩
      · refine .inl ⟨h1, fun q a1 a2 => ?_⟩
        by_cases h : q = j + k
        · subst h; exact hc
        · exact h2 q a1 (by omega)
      · exact .inr ⟨q, h1, h2, by omega, h4, h5⟩

theorem scanR_spec (c : Nat → Nat → Bool) (i j n : Nat) : ∀ (k : Nat) (acc : Nat × Nat),
    (scanR c i j n k acc = acc ∧ ∀ p q, i ≤ p → p < i + k → j ≤ q → q < j + n → c p q = false) ∨
      (∃ p q, scanR c i j n k acc = (p, q) ∧ i ≤ p ∧ p < i + k ∧ j ≤ q ∧ q < j + n ∧ c p q = true ∧ (∀ q', j ≤ q' → q' < q → c p q' = false) ∧ ∀ p' q', i ≤ p' → p' < p → j ≤ q' → q' < j + n → c p' q' = false)
  | 0, acc => .inl ⟨rfl, fun p q h1 h2 => by omega⟩
  | k + 1, acc => by
    simp only [scanR]
    rcases scanR_spec c i j n k (scanQ (c (i + k)) (i + k) j n acc) with ⟨h1, h2⟩ | ⟨p, q, h1, h2, h3, h4, h5, h6, h7, h8⟩
    · rcases scanQ_spec (c (i + k)) (i + k) j n acc with ⟨g1, g2⟩ | ⟨q, g1, g2, g3, g4, g5⟩
      · refine .inl ⟨h1.trans g1, fun p q a1 a2 a3 a4 => ?_⟩
        by_cases h : p = i + k
        · subst h; exact g2 q a3 a4
        · exact h2 p q a1 (by omega) a3 a4
      · exact .inr ⟨i + k, q, h1.trans g1, by omega, by omega, g2, g3, g4, g5, fun p' q' a1 a2 a3 a4 => h2 p' q' a1 a2 a3 a4⟩
    · exact .inr ⟨p, q, h1, h2, by omega, h4, h5, h6, h7, h8⟩

theorem cand_of {a b : TXT} {i j p q : Nat} (hp : p < a.length) (hq : q < b.length) : cand a b i j p q = true ↔ a[p] = b[q] ∧ T a b (p + 1) (q + 1) + 1 = T a b i j := by
  unfold cand
  rw [getD_of hp, getD_of hq, Bool.and_eq_true, beq_iff_eq, decide_eq_true_eq]

/-- The next pair is there, and is the least. -/
theorem next_spec {a b : TXT} {i j : Nat} (hi : i ≤ a.length) (hj : j ≤ b.length) (h : 0 < T a b i j) :
    i ≤ (nextPr a b i j).1 ∧ (nextPr a b i j).1 < a.length ∧ j ≤ (nextPr a b i j).2 ∧ (nextPr a b i j).2 < b.length ∧ cand a b i j (nextPr a b i j).1 (nextPr a b i j).2 = true ∧
      (∀ q', j ≤ q' → q' < (nextPr a b i j).2 → cand a b i j (nextPr a b i j).1 q' = false) ∧ ∀ p' q', i ≤ p' → p' < (nextPr a b i j).1 → j ≤ q' → q' < b.length → cand a b i j p' q' = false := by
  obtain ⟨p0, q0, a1, a2, hp, hq, a3, a4⟩ := T_pair _ i j (Nat.le_refl _) h
  rcases scanR_spec (cand a b i j) i j (b.length - j) (a.length - i) (a.length, b.length) with ⟨h1, h2⟩ | ⟨p, q, h1, h2, h3, h4, h5, h6, h7, h8⟩
  · have := h2 p0 q0 a1 (by omega) a2 (by omega)
    rw [(cand_of hp hq).2 ⟨a3, a4⟩] at this
    cases this
  · unfold nextPr
    rw [h1]
    exact ⟨h2, by dsimp only; omega, h4, by dsimp only; omega, h6, h7, fun p' q' b1 b2 b3 b4 => h8 p' q' b1 b2 b3 (by omega)⟩

theorem next_T {a b : TXT} {i j n : Nat} (hi : i ≤ a.length) (hj : j ≤ b.length) (h : T a b i j = n + 1) : T a b ((nextPr a b i j).1 + 1) ((nextPr a b i j).2 + 1) = n := by
  obtain ⟨_, h2, _, h4, h5, _⟩ := next_spec hi hj (by omega)
  have := ((cand_of h2 h4).1 h5).2
  omega

theorem pairs_len (a b : TXT) : ∀ n i j, (pairsF a b n i j).length = n
  | 0, _, _ => rfl
  | n + 1, i, j => by simp [pairsF, pairs_len a b n]

theorem tabT_at {a b : TXT} {i : Nat} (hi : i ≤ a.length) {d : List Int} : (tabT a b).getD i d = rowT a b i := mkT_get (by omega)
theorem tabT_len {a b : TXT} : (tabT a b).length = a.length + 1 := mkT_len

abbrev PRS := List (Int × Int × Unit)
theorem scanQ_loop {a b : TXT} {out : PRS} (ha : a.length ≤ 1048576) (hb : b.length ≤ 1048576) {i j p : Nat} (hi : i ≤ a.length) (hj : j ≤ b.length) (hp : p < a.length) : ∀ (k : Nat) (acc : Nat × Nat), j + k ≤ b.length →
    w_S_l3Pairs_10 (a, b, tabT a b, out, (i : Int), (j : Int), (acc.1 : Int), (acc.2 : Int), (p : Int), ((j + k : Nat) : Int) - 1, ()) =
      some (a, b, tabT a b, out, (i : Int), (j : Int), ((scanQ (cand a b i j p) p j k acc).1 : Int), ((scanQ (cand a b i j p) p j k acc).2 : Int), (p : Int), ())
  | 0, acc, hk => by
    refine fix_end (B := fun d => b_S_l3Pairs_10 d.1 d.2.1 d.2.2.1 d.2.2.2.1 d.2.2.2.2.1 d.2.2.2.2.2.1 d.2.2.2.2.2.2.1 d.2.2.2.2.2.2.2.1 d.2.2.2.2.2.2.2.2.1 d.2.2.2.2.2.2.2.2.2.1) ?_
    show b_S_l3Pairs_10 a b (tabT a b) out i j acc.1 acc.2 p (((j + 0 : Nat) : Int) - 1) = _
    unfold b_S_l3Pairs_10
    rw [decide_eq_false (by omega : ¬ (((j + 0 : Nat) : Int) - 1 ≥ (j : Int))), cond_false]
    rfl
  | k + 1, acc, hk => by
    have hq : j + k < b.length := by omega
    have hs : b_S_l3Pairs_10 a b (tabT a b) out i j acc.1 acc.2 p (((j + (k + 1) : Nat) : Int) - 1) = some (.inl (a, b, tabT a b, out, (i : Int), (j : Int), (((if cand a b i j p (j + k) then (p, j + k) else acc).1 : Nat) : Int), (((if cand a b i j p (j + k) then (p, j + k) else acc).2 : Nat) : Int), (p : Int), ((j + k : Nat) : Int) - 1, ())) := by
      rw [show ((j + (k + 1) : Nat) : Int) - 1 = ((j + k : Nat) : Int) from by omega]
      unfold b_S_l3Pairs_10
      have w1 : IntKind.wrap .i64 ((p : Int) + 1) = ((p + 1 : Nat) : Int) := by rw [wrap64 (by omega) (by omega)]; omega
      have w2 : IntKind.wrap .i64 (((j + k : Nat) : Int) + 1) = ((j + k + 1 : Nat) : Int) := by rw [wrap64 (by omega) (by omega)]; omega
      have t1 := T_small (b := b) ha (p + 1) (j + k + 1)
      have w3 : IntKind.wrap .i64 ((T a b (p + 1) (j + k + 1) : Int) + 1) = (T a b (p + 1) (j + k + 1) : Int) + 1 := wrap64 (by omega) (by omega)
      have w4 : IntKind.wrap .i64 (((j + k : Nat) : Int) - 1) = ((j + k : Nat) : Int) - 1 := wrap64 (by omega) (by omega)
      have hc : cand a b i j p (j + k) = ((a.getD p [] == b.getD (j + k) []) && ((T a b (p + 1) (j + k + 1) : Int) + 1 == (T a b i j : Int))) := by
        unfold cand
        congr 1
        rw [Bool.eq_iff_iff, decide_eq_true_eq, beq_iff_eq]
        omega
      rw [decide_eq_true (by omega : ((j + k : Nat) : Int) ≥ (j : Int)), cond_true, hc]
      simp only [toNat_cast, w1, w2, inB_lt hp, inB_lt hq, tabT_len, inB_lt (by omega : p + 1 < a.length + 1), inB_lt (by omega : i < a.length + 1), tabT_at (by omega : p + 1 ≤ a.length), tabT_at hi, rowT_len, inB_lt (by omega : j + k + 1 < b.length + 1), inB_lt (by omega : j < b.length + 1), cond_true,
        rowT_get (by omega : j + k + 1 ≤ b.length), rowT_get hj, w3]
      cases (a.getD p [] == b.getD (j + k) [])
      · simp only [cond_false, Option.bind_some, Bool.false_and, Bool.false_eq_true, if_false, w4]
      · simp only [cond_true, Option.bind_some, Bool.true_and]
        cases ((T a b (p + 1) (j + k + 1) : Int) + 1 == (T a b i j : Int))
        · simp only [cond_false, Option.bind_some, Bool.false_eq_true, if_false, w4]
        · simp only [cond_true, Option.bind_some, if_true, w4]
    refine Eq.trans (fix_go (B := fun d => b_S_l3Pairs_10 d.1 d.2.1 d.2.2.1 d.2.2.2.1 d.2.2.2.2.1 d.2.2.2.2.2.1 d.2.2.2.2.2.2.1 d.2.2.2.2.2.2.2.1 d.2.2.2.2.2.2.2.2.1 d.2.2.2.2.2.2.2.2.2.1) hs) ?_
    exact scanQ_loop ha hb hi hj hp k _ (by omega)

theorem scanR_loop {a b : TXT} {out : PRS} (ha : a.length ≤ 1048576) (hb : b.length ≤ 1048576) {i j : Nat} (hi : i ≤ a.length) (hj : j ≤ b.length) : ∀ (k : Nat) (acc : Nat × Nat), i + k ≤ a.length →
    w_S_l3Pairs_7 (a, b, tabT a b, out, (i : Int), (j : Int), (acc.1 : Int), (acc.2 : Int), ((i + k : Nat) : Int) - 1, ()) =
      some (a, b, tabT a b, out, ((scanR (cand a b i j) i j (b.length - j) k acc).1 : Int), ((scanR (cand a b i j) i j (b.length - j) k acc).2 : Int), ())
  | 0, acc, hk => by
    refine fix_end (B := fun d => b_S_l3Pairs_7 d.1 d.2.1 d.2.2.1 d.2.2.2.1 d.2.2.2.2.1 d.2.2.2.2.2.1 d.2.2.2.2.2.2.1 d.2.2.2.2.2.2.2.1 d.2.2.2.2.2.2.2.2.1) ?_
    show b_S_l3Pairs_7 a b (tabT a b) out i j acc.1 acc.2 (((i + 0 : Nat) : Int) - 1) = _
    unfold b_S_l3Pairs_7
    rw [decide_eq_false (by omega : ¬ (((i + 0 : Nat) : Int) - 1 ≥ (i : Int))), cond_false]
    rfl
  | k + 1, acc, hk => by
    have hs : b_S_l3Pairs_7 a b (tabT a b) out i j acc.1 acc.2 (((i + (k + 1) : Nat) : Int) - 1) = some (.inl (a, b, tabT a b, out, (i : Int), (j : Int), ((scanQ (cand a b i j (i + k)) (i + k) j (b.length - j) acc).1 : Int), ((scanQ (cand a b i j (i + k)) (i + k) j (b.length - j) acc).2 : Int), ((i + k : Nat) : Int) - 1, ())) := by
      rw [show ((i + (k + 1) : Nat) : Int) - 1 = ((i + k : Nat) : Int) from by omega]
      unfold b_S_l3Pairs_7
      rw [decide_eq_true (by omega : ((i + k : Nat) : Int) ≥ (i : Int)), cond_true]
      have := scanQ_loop (out := out) ha hb hi hj (by omega : i + k < a.length) (b.length - j) acc (by omega)
      rw [show ((j + (b.length - j) : Nat) : Int) - 1 = IntKind.wrap .i64 ((b.length : Int) - 1) from by rw [wrap64 (by omega) (by omega)]; omega] at this
      rw [this, Option.bind_some]
      dsimp only
      rw [wrap64 (by omega) (by omega)]
    refine Eq.trans (fix_go (B := fun d => b_S_l3Pairs_7 d.1 d.2.1 d.2.2.1 d.2.2.2.1 d.2.2.2.2.1 d.2.2.2.2.2.1 d.2.2.2.2.2.2.1 d.2.2.2.2.2.2.2.1 d.2.2.2.2.2.2.2.2.1) hs) ?_
    exact scanR_loop ha hb hi hj k _ (by omega)

def encP (x : Nat × Nat) : Int × Int × Unit := ((x.1 : Int), (x.2 : Int), ())

theorem pairs_loop {a b : TXT} (ha : a.length ≤ 1048576) (hb : b.length ≤ 1048576) : ∀ (n i j : Nat) (out : PRS), i ≤ a.length → j ≤ b.length → T a b i j = n → out.length + n ≤ 1099511627776 →
    w_S_l3Pairs_4 (a, b, tabT a b, out, (i : Int), (j : Int), ()) = some (out ++ (pairsF a b n i j).map encP, ())
  | 0, i, j, out, hi, hj, hT, ho => by
    refine fix_end (B := fun d => b_S_l3Pairs_4 d.1 d.2.1 d.2.2.1 d.2.2.2.1 d.2.2.2.2.1 d.2.2.2.2.2.1) ?_
    show b_S_l3Pairs_4 a b (tabT a b) out i j = _
    unfold b_S_l3Pairs_4
    rw [inB_lt (by rw [tabT_len]; omega), cond_true, toNat_cast, toNat_cast, tabT_at hi, inB_lt (by rw [rowT_len]; omega), cond_true, rowT_get hj, hT, decide_eq_false (by omega : ¬ (((0 : Nat) : Int) > 0)), cond_false]
    simp [pairsF]
  | n + 1, i, j, out, hi, hj, hT, ho => by
    obtain ⟨s1, s2, s3, s4, s5, s6, s7⟩ := next_spec hi hj (by omega : 0 < T a b i j)
    have hs : b_S_l3Pairs_4 a b (tabT a b) out i j = some (.inl (a, b, tabT a b, out ++ [encP (nextPr a b i j)], (((nextPr a b i j).1 + 1 : Nat) : Int), (((nextPr a b i j).2 + 1 : Nat) : Int), ())) := by
      unfold b_S_l3Pairs_4
      rw [inB_lt (by rw [tabT_len]; omega), cond_true, toNat_cast, toNat_cast, tabT_at hi, inB_lt (by rw [rowT_len]; omega), cond_true, rowT_get hj, hT, decide_eq_true (by omega : (((n + 1 : Nat) : Int) > 0)), cond_true]
      have := scanR_loop (out := out) ha hb hi hj (a.length - i) (a.length, b.length) (by omega)
      rw [show ((i + (a.length - i) : Nat) : Int) - 1 = IntKind.wrap .i64 ((a.length : Int) - 1) from by rw [wrap64 (by omega) (by omega)]; omega] at this
      rw [this, Option.bind_some]
      dsimp only
      rw [roomB_ok (by simp; omega), cond_true]
      have e : scanR (cand a b i j) i j (b.length - j) (a.length - i) (a.length, b.length) = nextPr a b i j := rfl
      rw [e, wrap64 (by omega) (by omega), wrap64 (by omega) (by omega)]
      simp [encP]
    refine Eq.trans (fix_go (B := fun d => b_S_l3Pairs_4 d.1 d.2.1 d.2.2.1 d.2.2.2.1 d.2.2.2.2.1 d.2.2.2.2.2.1) hs) ?_
    refine Eq.trans (pairs_loop ha hb n ((nextPr a b i j).1 + 1) ((nextPr a b i j).2 + 1) (out ++ [encP (nextPr a b i j)]) (by omega) (by omega) (next_T hi hj hT) (by simp; omega)) ?_
    simp [pairsF]

/-- The pairs of two texts. -/
def pairsP (a b : TXT) : List (Nat × Nat) := pairsF a b (T a b 0 0) 0 0

theorem pairs_S {a b : TXT} (ha : a.length ≤ 1048576) (hb : b.length ≤ 1048576) : f_S_l3Pairs a b = some (((pairsP a b).map encP, ()), ()) := by
  have h := T_small (b := b) ha 0 0
  have := pairs_loop ha hb (T a b 0 0) 0 0 [] (by omega) (by omega) rfl (by simp; omega)
  unfold f_S_l3Pairs
  rw [table_S ha hb, Option.bind_some]
  dsimp only
  rw [show w_S_l3Pairs_4 (a, b, tabT a b, [], 0, 0, ()) = _ from this]
  rfl
end R
