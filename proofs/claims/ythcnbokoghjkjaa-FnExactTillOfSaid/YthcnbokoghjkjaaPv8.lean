/- The table of what two texts share: both sides make the same. -/
import Derived.Test.YthcnbokoghjkjaaPv1
import Derived.Test.YthcnbokoghjkjaaGe
open Go Go.Dn
namespace R
set_option linter.unusedVariables false

abbrev TXT := List (List UInt8)
def rowP (a b : TXT) (i m : Nat) : List Int := mkT (b.length + 1) fun j => if m ≤ j then (T a b i j : Int) else 0
def rowT (a b : TXT) (i : Nat) : List Int := mkT (b.length + 1) fun j => (T a b i j : Int)
def tabT (a b : TXT) : List (List Int) := mkT (a.length + 1) (rowT a b)
/-- Row i told from m on, the rows behind it all, the ones ahead as f says. -/
def tabP (f : Nat → List Int) (a b : TXT) (i m : Nat) : List (List Int) := mkT (a.length + 1) fun r => if r = i then rowP a b i m else if i < r then rowT a b r else f r

theorem rowP_0 (a b : TXT) (i : Nat) : rowP a b i 0 = rowT a b i := mkT_ext fun j _ => if_pos (Nat.zero_le j)
theorem rowP_end (a b : TXT) (i : Nat) : rowP a b i b.length = mkT (b.length + 1) fun _ => (0 : Int) := mkT_ext fun j hj => by
  split
  · rw [T_end_r (by omega)]; rfl
  · rfl
theorem rowP_set {a b : TXT} {i m : Nat} : (rowP a b i (m + 1)).set m (T a b i m : Int) = rowP a b i m := by
  unfold rowP
  rw [mkT_set]
  refine mkT_ext fun j hj => ?_
  by_cases h : j = m
  · subst h; rw [if_pos rfl, if_pos (Nat.le_refl _)]
  · rw [if_neg h]
    by_cases h2 : m ≤ j
    · rw [if_pos (by omega), if_pos h2]
    · rw [if_neg (by omega), if_neg h2]
theorem tabP_set {f : Nat → List Int} {a b : TXT} {i m : Nat} {v : List Int} (hv : v = rowP a b i m) {m' : Nat} : (tabP f a b i m').set i v = tabP f a b i m := by
  subst hv
  unfold tabP
  rw [mkT_set]
  refine mkT_ext fun r hr => ?_
  by_cases h : r = i
  · rw [if_pos h, if_pos h]
  · rw [if_neg h, if_neg h, if_neg h]
theorem tabP_len {f : Nat → List Int} {a b : TXT} {i m : Nat} : (tabP f a b i m).length = a.length + 1 := mkT_len
theorem tabP_at {f : Nat → List Int} {a b : TXT} {i m : Nat} (hi : i ≤ a.length) {d : List Int} : (tabP f a b i m).getD i d = rowP a b i m := by
  unfold tabP
  rw [mkT_get (by omega), if_pos rfl]
theorem tabP_next {f : Nat → List Int} {a b : TXT} {i m : Nat} (hi : i < a.length) {d : List Int} : (tabP f a b i m).getD (i + 1) d = rowT a b (i + 1) := by
  unfold tabP
  rw [mkT_get (by omega), if_neg (by omega), if_pos (by omega)]
theorem rowP_len {a b : TXT} {i m : Nat} : (rowP a b i m).length = b.length + 1 := mkT_len
theorem rowT_len {a b : TXT} {i : Nat} : (rowT a b i).length = b.length + 1 := mkT_len
theorem rowT_get {a b : TXT} {i j : Nat} (hj : j ≤ b.length) {d : Int} : (rowT a b i).getD j d = (T a b i j : Int) := mkT_get (by omega)
theorem rowP_get {a b : TXT} {i m j : Nat} (hj : j ≤ b.length) (hm : m ≤ j) {d : Int} : (rowP a b i m).getD j d = (T a b i j : Int) := by
  unfold rowP
  rw [mkT_get (by omega), if_pos hm]

theorem T_small {a b : TXT} (h : a.length ≤ 1048576) (i j : Nat) : T a b i j ≤ 1048576 := Nat.le_trans T_le (by omega)

theorem inner_I {a b : TXT} {f : Nat → List Int} (ha : a.length ≤ 1048576) (hb : b.length ≤ 1048576) {i : Nat} (hi : i < a.length) :
    w_I_common_8 (a, b, tabP f a b i b.length, (i : Int), IntKind.wrap .i64 ((b.length : Int) - 1), ()) = some (a, b, tabP f a b i 0, (i : Int), ()) := by
  have := fix_down (B := fun d => b_I_common_8 d.1 d.2.1 d.2.2.1 d.2.2.2.1 d.2.2.2.2.1) (fun m => (a, b, tabP f a b i m, (i : Int), (m : Int) - 1, ())) (r := (a, b, tabP f a b i 0, (i : Int), ()))
    (by
      show b_I_common_8 a b (tabP f a b i 0) i (((0 : Nat) : Int) - 1) = _
      unfold b_I_common_8
      rw [decide_eq_false (by omega : ¬ ((((0 : Nat) : Int) - 1) ≥ 0)), cond_false]) b.length
    (fun m hm => by
      show b_I_common_8 a b (tabP f a b i (m + 1)) i (((m + 1 : Nat) : Int) - 1) = _
      rw [show ((m + 1 : Nat) : Int) - 1 = (m : Int) from by omega]
      unfold b_I_common_8
      have w1 : IntKind.wrap .i64 ((i : Int) + 1) = ((i + 1 : Nat) : Int) := by rw [wrap64 (by omega) (by omega)]; omega
      have w2 : IntKind.wrap .i64 ((m : Int) + 1) = ((m + 1 : Nat) : Int) := by rw [wrap64 (by omega) (by omega)]; omega
      have t1 := T_small (b := b) ha (i + 1) (m + 1)
      have w3 : IntKind.wrap .i64 ((T a b (i + 1) (m + 1) : Int) + 1) = (T a b (i + 1) (m + 1) : Int) + 1 := wrap64 (by omega) (by omega)
      have w4 : IntKind.wrap .i64 ((m : Int) - 1) = (m : Int) - 1 := wrap64 (by omega) (by omega)
      rw [decide_eq_true (by omega : (m : Int) ≥ 0), cond_true, inB_lt hi, cond_true, inB_lt hm, cond_true]
      simp only [toNat_cast, w1, w2, w4, tabP_len, tabP_at (Nat.le_of_lt hi), tabP_next hi, rowT_len, rowP_len, inB_lt (by omega : i < a.length + 1), inB_lt (by omega : i + 1 < a.length + 1), inB_lt (by omega : m + 1 < b.length + 1), inB_lt (by omega : m < b.length + 1), cond_true,
        rowT_get (by omega : m + 1 ≤ b.length), rowT_get (by omega : m ≤ b.length), rowP_get (by omega : m + 1 ≤ b.length) (Nat.le_refl (m + 1)), w3, getD_of hi, getD_of hm]
      have hs := T_step hi hm
      by_cases hc : a[i] = b[m]
      · rw [if_pos hc] at hs
        rw [beq_iff_eq.2 hc, cond_true, Option.bind_some]
        dsimp only
        rw [w4, show ((T a b (i + 1) (m + 1) : Nat) : Int) + 1 = (T a b i m : Int) from by omega, rowP_set, tabP_set rfl]
      · rw [if_neg hc] at hs
        rw [beq_eq_false_iff_ne.2 hc, cond_false, Option.bind_some]
        dsimp only
        rw [w4]
        have e : (bif decide ((T a b i (m + 1) : Int) > (T a b (i + 1) m : Int)) then (T a b i (m + 1) : Int) else (T a b (i + 1) m : Int)) = (T a b i m : Int) := by
          by_cases h : (T a b i (m + 1) : Int) > (T a b (i + 1) m : Int)
          · rw [decide_eq_true h, cond_true]; omega
          · rw [decide_eq_false h, cond_false]; omega
        rw [e, rowP_set, tabP_set rfl])
  rw [show IntKind.wrap .i64 ((b.length : Int) - 1) = (b.length : Int) - 1 from wrap64 (by omega) (by omega)]
  exact this

def noRow (b : TXT) : Nat → List Int := fun _ => []
def tabE (f : Nat → List Int) (a b : TXT) (n : Nat) : List (List Int) := mkT (a.length + 1) fun r => if n ≤ r then rowT a b r else f r

theorem tabE_of {f : Nat → List Int} {a b : TXT} {i : Nat} : tabP f a b i 0 = tabE f a b i := mkT_ext fun r hr => by
  rw [rowP_0]
  by_cases h : r = i
  · subst h; rw [if_pos rfl, if_pos (Nat.le_refl _)]
  · rw [if_neg h]
    by_cases h2 : i < r
    · rw [if_pos h2, if_pos (by omega)]
    · rw [if_neg h2, if_neg (by omega)]
theorem tabE_set {f : Nat → List Int} {a b : TXT} {i : Nat} : (tabE f a b (i + 1)).set i (rowP a b i b.length) = tabP f a b i b.length := by
  unfold tabE tabP
  rw [mkT_set]
  exact mkT_ext fun r hr => by
    by_cases h : r = i
    · rw [if_pos h, if_pos h]
    · rw [if_neg h, if_neg h]
      rfl
theorem tabE_0 {f : Nat → List Int} {a b : TXT} : tabE f a b 0 = tabT a b := mkT_ext fun r hr => if_pos (Nat.zero_le r)

theorem room1 {n : Nat} (h : n ≤ 1048576) : (decide (0 ≤ (IntKind.wrap .i64 ((n : Int) + 1))) && (decide ((IntKind.wrap .i64 ((n : Int) + 1)) ≤ (IntKind.wrap .i64 ((n : Int) + 1))) && roomB (IntKind.wrap .i64 ((n : Int) + 1)).toNat)) = true ∧ (IntKind.wrap .i64 ((n : Int) + 1)).toNat = n + 1 := by
  have w : IntKind.wrap .i64 ((n : Int) + 1) = ((n + 1 : Nat) : Int) := by rw [wrap64 (by omega) (by omega)]; omega
  rw [w]
  exact ⟨room_len (by omega), by simp⟩

theorem common_I {a b : TXT} (ha : a.length ≤ 1048576) (hb : b.length ≤ 1048576) : f_I_common a b = some ((tabT a b, ()), ()) := by
  obtain ⟨ra, na⟩ := room1 ha
  obtain ⟨rb, nb⟩ := room1 hb
  unfold f_I_common
  rw [ra, cond_true, rb, cond_true, na, nb, inB_lt (by simp), cond_true, toNat_cast]
  have e0 : (List.replicate (a.length + 1) ([] : List Int)).set a.length (List.replicate (b.length + 1) (0 : Int)) = tabE (noRow b) a b a.length := by
    rw [mkT_rep, mkT_set, mkT_rep]
    refine mkT_ext fun r hr => ?_
    by_cases h : r = a.length
    · subst h
      rw [if_pos rfl, if_pos (Nat.le_refl _), ← rowP_end a b a.length, ← rowP_0]
      exact mkT_ext fun j hj => by
        rw [T_end_l (Nat.le_refl _)]
        split <;> split <;> rfl
    · rw [if_neg h, if_neg (by omega)]
      rfl
  rw [show (List.replicate (a.length + 1) ([] : PV S_int)).set a.length (List.replicate (b.length + 1) (0 : Int)) = tabE (noRow b) a b a.length from e0]
  have := fix_down (B := fun d => b_I_common_4 d.1 d.2.1 d.2.2.1 d.2.2.2.1) (fun n => (a, b, tabE (noRow b) a b n, (n : Int) - 1, ())) (r := (tabT a b, ()))
    (by
      show b_I_common_4 a b (tabE (noRow b) a b 0) (((0 : Nat) : Int) - 1) = _
      unfold b_I_common_4
      rw [decide_eq_false (by omega : ¬ ((((0 : Nat) : Int) - 1) ≥ 0)), cond_false, tabE_0]) a.length
    (fun i hi => by
      show b_I_common_4 a b (tabE (noRow b) a b (i + 1)) (((i + 1 : Nat) : Int) - 1) = _
      rw [show ((i + 1 : Nat) : Int) - 1 = (i : Int) from by omega]
      unfold b_I_common_4
      rw [decide_eq_true (by omega : (i : Int) ≥ 0), cond_true, rb, cond_true, nb, toNat_cast, inB_lt (by unfold tabE; rw [mkT_len]; omega), cond_true]
      rw [show (List.replicate (b.length + 1) (0 : Int)) = rowP a b i b.length from by rw [rowP_end, mkT_rep], tabE_set, inner_I ha hb hi, Option.bind_some]
      dsimp only
      rw [tabE_of, show IntKind.wrap .i64 ((i : Int) - 1) = (i : Int) - 1 from wrap64 (by omega) (by omega)])
  rw [show IntKind.wrap .i64 ((a.length : Int) - 1) = (a.length : Int) - 1 from wrap64 (by omega) (by omega), show w_I_common_4 (a, b, tabE (noRow b) a b a.length, (a.length : Int) - 1, ()) = _ from this]
  rfl
end R
