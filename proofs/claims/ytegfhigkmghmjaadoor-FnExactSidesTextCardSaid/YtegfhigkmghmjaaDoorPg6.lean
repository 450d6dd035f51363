/- Runs of rows that change something. -/
import Derived.Test.YtegfhigkmghmjaaDoorPg4
import Derived.Test.YtegfhigkmghmjaaDoorGe
open Go Go.Dn
namespace R
set_option linter.unusedVariables false

def lo (rows : RW) : Nat → Nat
  | 0 => 0
  | k + 1 => bif kd rows k == 1 then k + 1 else lo rows k
def hiF (rows : RW) : Nat → Nat → Nat
  | 0, k => k
  | f + 1, k => bif kd rows k == 1 then k else hiF rows f (k + 1)
def hi (rows : RW) (k : Nat) : Nat := hiF rows (rows.length - k) k
def anyC (rows : RW) (c : Int) (i j : Nat) : Bool := ((rows.take j).drop i).any fun (r : PV Y_impl_Row) => r.1 == c
def runA (rows : RW) (c : Int) (k : Nat) : Bool := anyC rows c (lo rows k) (hi rows k)

theorem anyC_self {rows : RW} {c : Int} {i : Nat} (h : i ≤ rows.length) : anyC rows c i i = false := by
  unfold anyC
  rw [List.drop_eq_nil_of_le (by simp; omega)]
  rfl
theorem anyC_succ {rows : RW} {c : Int} {i j : Nat} (hij : i ≤ j) (hj : j < rows.length) : anyC rows c i (j + 1) = (anyC rows c i j || (kd rows j == c)) := by
  unfold anyC kd
  rw [← List.take_append_getElem hj, List.drop_append_of_le_length (by simp; omega), List.any_append, getD_of hj]
  simp
theorem anyC_mem {rows : RW} {c : Int} {i j k : Nat} (h1 : i ≤ k) (h2 : k < j) (hj : j ≤ rows.length) (hk : kd rows k = c) : anyC rows c i j = true := by
  unfold anyC
  rw [List.any_eq_true]
  have hk' : k < rows.length := by omega
  refine ⟨rows[k], ?_, ?_⟩
  · rw [List.mem_iff_getElem]
    exact ⟨k - i, by simp; omega, by simp [show i + (k - i) = k from by omega]⟩
  · unfold kd at hk
    rw [getD_of hk'] at hk
    rw [hk]
    exact beq_self_eq_true c

theorem lo_le (rows : RW) : ∀ k, lo rows k ≤ k
  | 0 => Nat.le_refl _
  | k + 1 => by
    simp only [lo]
    have := lo_le rows k
    cases (kd rows k == 1)
    · rw [cond_false]; omega
    · rw [cond_true]; omega
theorem lo_run {rows : RW} {i : Nat} (hi0 : lo rows i = i) : ∀ k, i ≤ k → (∀ m, i ≤ m → m < k → (kd rows m == 1) = false) → lo rows k = i
  | 0, h, _ => by
    have : i = 0 := by omega
    subst this; rfl
  | k + 1, h, hm => by
    by_cases e : i = k + 1
    · rw [← e]; exact hi0
    · simp only [lo]
      rw [hm k (by omega) (by omega), cond_false]
      exact lo_run hi0 k (by omega) fun m h1 h2 => hm m h1 (by omega)

theorem hiF_spec (rows : RW) : ∀ f k, k ≤ hiF rows f k ∧ hiF rows f k ≤ k + f ∧ (∀ m, k ≤ m → m < hiF rows f k → (kd rows m == 1) = false) ∧ (hiF rows f k < k + f → (kd rows (hiF rows f k) == 1) = true)
  | 0, k => ⟨Nat.le_refl _, Nat.le_refl _, fun m h1 h2 => by simp only [hiF] at h2; omega, fun h => by simp only [hiF] at h; omega⟩
  | f + 1, k => by
    simp only [hiF]
    cases h : (kd rows k == 1)
    · rw [cond_false]
      obtain ⟨a1, a2, a3, a4⟩ := hiF_spec rows f (k + 1)
      refine ⟨by omega, by omega, fun m h1 h2 => ?_, fun hh => a4 (by omega)⟩
      by_cases e : m = k
      · subst e; exact h
      · exact a3 m (by omega) h2
    · rw [cond_true]
      exact ⟨Nat.le_refl _, by omega, fun m h1 h2 => by omega, fun _ => h⟩
theorem hi_spec {rows : RW} {k : Nat} (hk : k ≤ rows.length) : k ≤ hi rows k ∧ hi rows k ≤ rows.length ∧ (∀ m, k ≤ m → m < hi rows k → (kd rows m == 1) = false) ∧ (hi rows k < rows.length → (kd rows (hi rows k) == 1) = true) := by
  obtain ⟨a1, a2, a3, a4⟩ := hiF_spec rows (rows.length - k) k
  unfold hi
  exact ⟨a1, by omega, a3, fun h => a4 (by omega)⟩
theorem hi_run {rows : RW} {i k : Nat} (hin : i ≤ rows.length) (h1 : i ≤ k) (h2 : k < hi rows i) : hi rows k = hi rows i := by
  obtain ⟨a1, a2, a3, a4⟩ := hi_spec hin
  obtain ⟨b1, b2, b3, b4⟩ := hi_spec (rows := rows) (k := k) (by omega)
  rcases Nat.lt_trichotomy (hi rows k) (hi rows i) with h | h | h
  · have e1 := b4 (by omega)
    rw [a3 (hi rows k) (by omega) h] at e1
    cases e1
  · exact h
  · have e1 := a4 (by omega)
    rw [b3 (hi rows i) (by omega) h] at e1
    cases e1

theorem run_lo {g : PV Y_impl_Group} {rows : RW} (hg : g.2.2.1 = rows) (hl : rows.length ≤ 1048576) {c e : Int} : ∀ k, k ≤ rows.length → w_I_Group_runHas_2 (g, c, (k : Int), e, ()) = some (g, c, (lo rows k : Int), e, ())
  | 0, _ => by
    refine fix_end (B := fun d => b_I_Group_runHas_2 d.1 d.2.1 d.2.2.1 d.2.2.2.1) ?_
    show b_I_Group_runHas_2 g c ((0 : Nat) : Int) e = _
    unfold b_I_Group_runHas_2
    rw [decide_eq_false (by omega : ¬ (((0 : Nat) : Int) > 0)), cond_false]
    rfl
  | k + 1, hk => by
    have w1 : IntKind.wrap .i64 (((k + 1 : Nat) : Int) - 1) = (k : Int) := by rw [wrap64 (by omega) (by omega)]; omega
    have hs : b_I_Group_runHas_2 g c ((k + 1 : Nat) : Int) e = some (bif kd rows k == 1 then .inr (g, c, ((k + 1 : Nat) : Int), e, ()) else .inl (g, c, (k : Int), e, ())) := by
      unfold b_I_Group_runHas_2
      rw [hg, decide_eq_true (by omega : ((k + 1 : Nat) : Int) > 0), cond_true, w1, inB_lt (by omega : k < rows.length), cond_true, toNat_cast]
      unfold kd
      cases ((rows.getD k W0).1 == 1) <;> rfl
    simp only [lo]
    cases h : (kd rows k == 1)
    · rw [h, cond_false] at hs
      rw [cond_false]
      exact (fix_go (B := fun d => b_I_Group_runHas_2 d.1 d.2.1 d.2.2.1 d.2.2.2.1) hs).trans (run_lo hg hl k (by omega))
    · rw [h, cond_true] at hs
      rw [cond_true]
      exact fix_end (B := fun d => b_I_Group_runHas_2 d.1 d.2.1 d.2.2.1 d.2.2.2.1) hs

theorem run_hi {g : PV Y_impl_Group} {rows : RW} (hg : g.2.2.1 = rows) (hl : rows.length ≤ 1048576) {c e : Int} : ∀ f k, rows.length - k = f → k ≤ rows.length → w_I_Group_runHas_4 (g, c, e, (k : Int), ()) = some (g, c, e, (hiF rows f k : Int), ())
  | 0, k, hf, hk => by
    refine fix_end (B := fun d => b_I_Group_runHas_4 d.1 d.2.1 d.2.2.1 d.2.2.2.1) ?_
    show b_I_Group_runHas_4 g c e (k : Int) = _
    unfold b_I_Group_runHas_4
    rw [hg, decide_eq_false (by omega : ¬ ((k : Int) < (rows.length : Int))), cond_false]
    rfl
  | f + 1, k, hf, hk => by
    have w1 : IntKind.wrap .i64 ((k : Int) + 1) = ((k + 1 : Nat) : Int) := by rw [wrap64 (by omega) (by omega)]; omega
    have hs : b_I_Group_runHas_4 g c e (k : Int) = some (bif kd rows k == 1 then .inr (g, c, e, (k : Int), ()) else .inl (g, c, e, ((k + 1 : Nat) : Int), ())) := by
      unfold b_I_Group_runHas_4
      rw [hg, decide_eq_true (by omega : (k : Int) < (rows.length : Int)), cond_true, inB_lt (by omega : k < rows.length), cond_true, toNat_cast, w1]
      unfold kd
      cases ((rows.getD k W0).1 == 1) <;> rfl
    simp only [hiF]
    cases h : (kd rows k == 1)
    · rw [h, cond_false] at hs
      rw [cond_false]
      exact (fix_go (B := fun d => b_I_Group_runHas_4 d.1 d.2.1 d.2.2.1 d.2.2.2.1) hs).trans (run_hi hg hl f (k + 1) (by omega) (by omega))
    · rw [h, cond_true] at hs
      rw [cond_true]
      exact fix_end (B := fun d => b_I_Group_runHas_4 d.1 d.2.1 d.2.2.1 d.2.2.2.1) hs

theorem runHas_I {g : PV Y_impl_Group} {rows : RW} (hg : g.2.2.1 = rows) (hl : rows.length ≤ 1048576) {k : Nat} (hk : k < rows.length) (c : Int) : f_I_Group_runHas g (k : Int) c = some ((runA rows c k, ()), ()) := by
  have h1 := lo_le rows k
  obtain ⟨h2, h3, _, _⟩ := hi_spec (rows := rows) (k := k) (by omega)
  have hcut : cutL (lo rows k : Int) (hi rows k : Int) rows = (rows.take (hi rows k)).drop (lo rows k) := by unfold cutL; simp
  have hlen : ((rows.take (hi rows k)).drop (lo rows k)).length ≤ 1048576 := by simp; omega
  unfold f_I_Group_runHas
  rw [run_lo hg hl k (by omega), Option.bind_some]
  dsimp only
  rw [run_hi hg hl _ k rfl (by omega), Option.bind_some]
  dsimp only
  rw [show hiF rows (rows.length - k) k = hi rows k from rfl, hg]
  rw [show cutB (lo rows k : Int) (hi rows k : Int) rows.length = true from by unfold cutB; simp; omega, cond_true, hcut]
  unfold runA anyC
  generalize (rows.take (hi rows k)).drop (lo rows k) = xs at *
  rw [show w_I_Group_runHas_195_2 (g, c, (lo rows k : Int), (hi rows k : Int), rows, (lo rows k : Int), (hi rows k : Int), xs, xs, false, xs, xs, (xs.length : Int), 0, ()) = _ from
    fix_any (B := fun d => b_I_Group_runHas_195_2 d.1 d.2.1 d.2.2.1 d.2.2.2.1 d.2.2.2.2.1 d.2.2.2.2.2.1 d.2.2.2.2.2.2.1 d.2.2.2.2.2.2.2.1 d.2.2.2.2.2.2.2.2.1 d.2.2.2.2.2.2.2.2.2.1 d.2.2.2.2.2.2.2.2.2.2.1 d.2.2.2.2.2.2.2.2.2.2.2.1 d.2.2.2.2.2.2.2.2.2.2.2.2.1 d.2.2.2.2.2.2.2.2.2.2.2.2.2.1) xs (fun (r : PV Y_impl_Row) => r.1 == c)
      (fun i => (g, c, (lo rows k : Int), (hi rows k : Int), rows, (lo rows k : Int), (hi rows k : Int), xs, xs, false, xs, xs, (xs.length : Int), (i : Int), ()))
      (fun i => .inr (g, c, (lo rows k : Int), (hi rows k : Int), rows, (lo rows k : Int), (hi rows k : Int), xs, xs, false, xs, (i : Int), ())) (.inl (g, c, (lo rows k : Int), (hi rows k : Int), rows, (lo rows k : Int), (hi rows k : Int), xs, xs, false, xs, ()))
      (fun i hi' hq => by
        show b_I_Group_runHas_195_2 _ c _ _ _ _ _ _ _ _ _ xs xs.length i = _
        unfold b_I_Group_runHas_195_2
        rw [decide_eq_true (by omega : (i : Int) < (xs.length : Int)), cond_true, inB_lt hi', cond_true, toNat_cast, getD_of hi', hq, cond_false, wrap64 (by omega) (by omega)]; rfl)
      (fun i hi' hq => by
        show b_I_Group_runHas_195_2 _ c _ _ _ _ _ _ _ _ _ xs xs.length i = _
        unfold b_I_Group_runHas_195_2
        rw [decide_eq_true (by omega : (i : Int) < (xs.length : Int)), cond_true, inB_lt hi', cond_true, toNat_cast, getD_of hi', hq, cond_true])
      (by
        show b_I_Group_runHas_195_2 _ c _ _ _ _ _ _ _ _ _ xs xs.length xs.length = _
        unfold b_I_Group_runHas_195_2
        rw [decide_eq_false (Int.lt_irrefl _), cond_false])]
  cases xs.any fun r => r.1 == c
  · rfl
  · simp

/-! ### the reference's runs -/
theorem scan_S {g : PV Y_impl_Group} {rows : RW} (hg : g.2.2.1 = rows) (hl : rows.length ≤ 1048576) {u v : List Bool} {i : Nat} : ∀ f j, rows.length - j = f → i ≤ j → j ≤ rows.length →
    w_S_l8Runs_7 (g, (rows.length : Int), u, v, (i : Int), (j : Int), anyC rows 2 i j, anyC rows 3 i j, ()) = some (g, (rows.length : Int), u, v, (i : Int), (hiF rows f j : Int), anyC rows 2 i (hiF rows f j), anyC rows 3 i (hiF rows f j), ())
  | 0, j, hf, hij, hj => by
    refine fix_end (B := fun d => b_S_l8Runs_7 d.1 d.2.1 d.2.2.1 d.2.2.2.1 d.2.2.2.2.1 d.2.2.2.2.2.1 d.2.2.2.2.2.2.1 d.2.2.2.2.2.2.2.1) ?_
    show b_S_l8Runs_7 g rows.length u v i j (anyC rows 2 i j) (anyC rows 3 i j) = _
    unfold b_S_l8Runs_7
    rw [decide_eq_false (by omega : ¬ ((j : Int) < (rows.length : Int))), cond_false]
    rfl
  | f + 1, j, hf, hij, hj => by
    have hj' : j < rows.length := by omega
    have w1 : IntKind.wrap .i64 ((j : Int) + 1) = ((j + 1 : Nat) : Int) := by rw [wrap64 (by omega) (by omega)]; omega
    have hs : b_S_l8Runs_7 g rows.length u v i j (anyC rows 2 i j) (anyC rows 3 i j) = some (bif kd rows j == 1 then .inr (g, (rows.length : Int), u, v, (i : Int), (j : Int), anyC rows 2 i j, anyC rows 3 i j, ())
        else .inl (g, (rows.length : Int), u, v, (i : Int), ((j + 1 : Nat) : Int), anyC rows 2 i (j + 1), anyC rows 3 i (j + 1), ())) := by
      unfold b_S_l8Runs_7
      rw [hg, anyC_succ hij hj', anyC_succ hij hj', decide_eq_true (by omega : (j : Int) < (rows.length : Int)), cond_true, inB_lt hj', cond_true, toNat_cast]
      unfold kd
      cases ((rows.getD j W0).1 == 1)
      · rw [Bool.not_false, cond_true]
        cases anyC rows 2 i j
        · rw [cond_false, cond_true, Option.bind_some]
          dsimp only
          cases anyC rows 3 i j
          · rw [cond_false, hg, inB_lt hj', cond_true, Option.bind_some]
            dsimp only
            rw [w1, toNat_cast]
            rfl
          · rw [cond_true, Option.bind_some]
            dsimp only
            rw [w1]
            rfl
        · rw [cond_true, Option.bind_some]
          dsimp only
          cases anyC rows 3 i j
          · rw [cond_false, hg, inB_lt hj', cond_true, Option.bind_some]
            dsimp only
            rw [w1, toNat_cast]
            rfl
          · rw [cond_true, Option.bind_some]
            dsimp only
            rw [w1]
            rfl
      · rfl
    simp only [hiF]
    cases h : (kd rows j == 1)
    · rw [h, cond_false] at hs
      rw [cond_false]
      exact (fix_go (B := fun d => b_S_l8Runs_7 d.1 d.2.1 d.2.2.1 d.2.2.2.1 d.2.2.2.2.1 d.2.2.2.2.2.1 d.2.2.2.2.2.2.1 d.2.2.2.2.2.2.2.1) hs).trans (scan_S hg hl f (j + 1) (by omega) (by omega) (by omega))
    · rw [h, cond_true] at hs
      rw [cond_true]
      exact fix_end (B := fun d => b_S_l8Runs_7 d.1 d.2.1 d.2.2.1 d.2.2.2.1 d.2.2.2.2.1 d.2.2.2.2.2.1 d.2.2.2.2.2.2.1 d.2.2.2.2.2.2.2.1) hs

def between (i m : Nat) (a : Bool) (f : Nat → Bool) (k : Nat) : Bool := if i ≤ k ∧ k < i + m then a else f k
theorem between_set {n i m : Nat} {a : Bool} {f : Nat → Bool} : (mkT n (between i m a f)).set (i + m) a = mkT n (between i (m + 1) a f) := by
  rw [mkT_set]
  refine mkT_ext fun r hr => ?_
  unfold between
  by_cases h : r = i + m
  · rw [if_pos h, if_pos (by omega)]
  · rw [if_neg h]
    by_cases h2 : i ≤ r ∧ r < i + m
    · rw [if_pos h2, if_pos (by omega)]
    · rw [if_neg h2, if_neg (by omega)]

theorem fill_S {g : PV Y_impl_Group} {n i j : Nat} (hn : n ≤ 1048576) (hij : i ≤ j) (hj : j ≤ n) {a b : Bool} {f h : Nat → Bool} :
    w_S_l8Runs_12 (g, (n : Int), mkT n f, mkT n h, (i : Int), (j : Int), a, b, (i : Int), ()) = some (g, (n : Int), mkT n (between i (j - i) a f), mkT n (between i (j - i) b h), (i : Int), (j : Int), ()) := by
  have := fix_all (B := fun d => b_S_l8Runs_12 d.1 d.2.1 d.2.2.1 d.2.2.2.1 d.2.2.2.2.1 d.2.2.2.2.2.1 d.2.2.2.2.2.2.1 d.2.2.2.2.2.2.2.1 d.2.2.2.2.2.2.2.2.1) (fun m => (g, (n : Int), mkT n (between i m a f), mkT n (between i m b h), (i : Int), (j : Int), a, b, ((i + m : Nat) : Int), ())) (j - i)
    (r := (g, (n : Int), mkT n (between i (j - i) a f), mkT n (between i (j - i) b h), (i : Int), (j : Int), ()))
    (fun m hm => by
      show b_S_l8Runs_12 g n (mkT n (between i m a f)) (mkT n (between i m b h)) i j a b ((i + m : Nat) : Int) = _
      unfold b_S_l8Runs_12
      rw [decide_eq_true (by omega : ((i + m : Nat) : Int) < (j : Int)), cond_true, inB_lt (by rw [mkT_len]; omega), cond_true, inB_lt (by rw [mkT_len]; omega), cond_true, toNat_cast, between_set, between_set, wrap64 (by omega) (by omega)]
      simp [Int.add_assoc])
    (by
      show b_S_l8Runs_12 g n _ _ i j a b ((i + (j - i) : Nat) : Int) = _
      unfold b_S_l8Runs_12
      rw [decide_eq_false (by omega : ¬ (((i + (j - i) : Nat) : Int) < (j : Int))), cond_false])
  have e : ∀ (x : Bool) (f : Nat → Bool), mkT n f = mkT n (between i 0 x f) := fun x f => mkT_ext fun r _ => by unfold between; rw [if_neg (by omega)]
  rw [show mkT n f = mkT n (between i 0 a f) from e a f, show mkT n h = mkT n (between i 0 b h) from e b h]
  rw [← show mkT n f = mkT n (between i 0 a f) from e a f, ← show mkT n h = mkT n (between i 0 b h) from e b h] at this ⊢
  exact this

/-- What is told of the rows ahead of a place. -/
def told (rows : RW) (c : Int) (i : Nat) (k : Nat) : Bool := decide (k < i) && (!(kd rows k == 1) && runA rows c k)

theorem told_next {rows : RW} {c : Int} {i : Nat} (hin : i < rows.length) (hlo : (kd rows i == 1) = false → lo rows i = i) {k : Nat} (hk : k < rows.length) :
    between i (hi rows i - i) (anyC rows c i (hi rows i)) (told rows c i) k = told rows c (max (hi rows i) (i + 1)) k := by
  obtain ⟨a1, a2, a3, a4⟩ := hi_spec (rows := rows) (k := i) (by omega)
  unfold between told
  by_cases h : i ≤ k ∧ k < i + (hi rows i - i)
  · rw [if_pos h]
    have hk1 : k < hi rows i := by omega
    have hki := a3 k h.1 hk1
    have hi1 := a3 i (Nat.le_refl _) (by omega)
    have e1 := lo_run (hlo hi1) k h.1 fun m m1 m2 => a3 m m1 (by omega)
    have e2 := hi_run (by omega : i ≤ rows.length) h.1 hk1
    unfold runA
    rw [e1, e2, hki, decide_eq_true (by omega : k < max (hi rows i) (i + 1))]
    rfl
  · rw [if_neg h]
    by_cases hki : k < i
    · rw [decide_eq_true hki, decide_eq_true (by omega : k < max (hi rows i) (i + 1))]
    · rw [decide_eq_false hki]
      by_cases hm : k < max (hi rows i) (i + 1)
      · have : k = i := by omega
        subst this
        have hh : hi rows k = k := by omega
        have := a4 (by omega)
        rw [hh] at this
        rw [decide_eq_true hm, this]
        rfl
      · rw [decide_eq_false hm]

theorem runs_loop {g : PV Y_impl_Group} {rows : RW} (hg : g.2.2.1 = rows) (hl : rows.length ≤ 1048576) : ∀ f i, rows.length - i ≤ f → i ≤ rows.length → ((kd rows i == 1) = false → i < rows.length → lo rows i = i) →
    w_S_l8Runs_4 (g, (rows.length : Int), mkT rows.length (told rows 2 i), mkT rows.length (told rows 3 i), (i : Int), ()) = some (mkT rows.length (told rows 2 rows.length), mkT rows.length (told rows 3 rows.length), ())
  | 0, i, hf, hin, hlo => by
    have : i = rows.length := by omega
    subst this
    refine fix_end (B := fun d => b_S_l8Runs_4 d.1 d.2.1 d.2.2.1 d.2.2.2.1 d.2.2.2.2.1) ?_
    show b_S_l8Runs_4 g rows.length _ _ rows.length = _
    unfold b_S_l8Runs_4
    rw [decide_eq_false (Int.lt_irrefl _), cond_false]
  | f + 1, i, hf, hin, hlo => by
    by_cases hlt : i < rows.length
    · obtain ⟨a1, a2, a3, a4⟩ := hi_spec (rows := rows) (k := i) (by omega)
      have hs : b_S_l8Runs_4 g rows.length (mkT rows.length (told rows 2 i)) (mkT rows.length (told rows 3 i)) i =
          some (.inl (g, (rows.length : Int), mkT rows.length (told rows 2 (max (hi rows i) (i + 1))), mkT rows.length (told rows 3 (max (hi rows i) (i + 1))), ((max (hi rows i) (i + 1) : Nat) : Int), ())) := by
        unfold b_S_l8Runs_4
        have s1 := scan_S (u := mkT rows.length (told rows 2 i)) (v := mkT rows.length (told rows 3 i)) (i := i) hg hl _ i rfl (Nat.le_refl _) (by omega)
        rw [anyC_self (by omega), anyC_self (by omega)] at s1
        rw [decide_eq_true (by omega : (i : Int) < (rows.length : Int)), cond_true, s1, Option.bind_some]
        dsimp only
        rw [show hiF rows (rows.length - i) i = hi rows i from rfl, fill_S (by omega) a1 a2, Option.bind_some]
        dsimp only
        rw [wrap64 (by omega) (by omega)]
        have e : f_S_l1Most (hi rows i : Int) ((i : Int) + 1) = some ((((max (hi rows i) (i + 1) : Nat) : Int), ()), ()) := by
          unfold f_S_l1Most
          by_cases h : (hi rows i : Int) > (i : Int) + 1
          · rw [decide_eq_true h, cond_true, show max (hi rows i) (i + 1) = hi rows i from by omega]
          · rw [decide_eq_false h, cond_false, show max (hi rows i) (i + 1) = i + 1 from by omega]; rfl
        rw [e, Option.bind_some]
        dsimp only
        rw [mkT_ext fun k hk => told_next (c := 2) hlt (fun h => hlo h hlt) hk, mkT_ext fun k hk => told_next (c := 3) hlt (fun h => hlo h hlt) hk]
      refine Eq.trans (fix_go (B := fun d => b_S_l8Runs_4 d.1 d.2.1 d.2.2.1 d.2.2.2.1 d.2.2.2.2.1) hs) ?_
      refine runs_loop hg hl f _ (by omega) (by omega) fun h hl2 => ?_
      by_cases hh : hi rows i ≤ i
      · have e : max (hi rows i) (i + 1) = i + 1 := by omega
        have hii : hi rows i = i := by omega
        have hk := a4 (by omega)
        rw [hii] at hk
        rw [e]
        simp only [lo]
        rw [hk, cond_true]
      · have e : max (hi rows i) (i + 1) = hi rows i := by omega
        rw [e] at h hl2
        rw [a4 hl2] at h
        cases h
    · have : i = rows.length := by omega
      subst this
      refine fix_end (B := fun d => b_S_l8Runs_4 d.1 d.2.1 d.2.2.1 d.2.2.2.1 d.2.2.2.2.1) ?_
      show b_S_l8Runs_4 g rows.length _ _ rows.length = _
      unfold b_S_l8Runs_4
      rw [decide_eq_false (Int.lt_irrefl _), cond_false]

theorem runs_S {g : PV Y_impl_Group} {rows : RW} (hg : g.2.2.1 = rows) (hl : rows.length ≤ 1048576) : f_S_l8Runs g = some ((mkT rows.length (told rows 2 rows.length), mkT rows.length (told rows 3 rows.length), ()), ()) := by
  unfold f_S_l8Runs
  have e : ∀ c : Int, List.replicate rows.length false = mkT rows.length (told rows c 0) := fun c => by
    rw [mkT_rep]
    exact mkT_ext fun k _ => by unfold told; rw [decide_eq_false (by omega)]; rfl
  have := runs_loop hg hl rows.length 0 (by omega) (by omega) (fun _ _ => rfl)
  rw [← e 2, ← e 3] at this
  rw [hg, room_len (by omega), cond_true, cond_true, toNat_cast, show w_S_l8Runs_4 (g, (rows.length : Int), List.replicate rows.length false, List.replicate rows.length false, 0, ()) = _ from this]
  rfl
end R
