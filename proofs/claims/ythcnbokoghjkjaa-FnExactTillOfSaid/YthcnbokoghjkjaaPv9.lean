/- The reference's table, and its pairs. -/
import Derived.Test.YthcnbokoghjkjaaPv8
open Go Go.Dn
namespace R
set_option linter.unusedVariables false

theorem most_S (x y : Int) : f_S_l1Most x y = some ((max x y, ()), ()) := by
  unfold f_S_l1Most
  by_cases h : x > y
  · rw [decide_eq_true h, cond_true, show max x y = x from by omega]
  · rw [decide_eq_false h, cond_false, show max x y = y from by omega]

theorem getD_set_other {α : Type} {ys : List α} {i j : Nat} {a d : α} (h : i ≠ j) : (ys.set i a).getD j d = ys.getD j d := by
  simp [List.getD, List.getElem?_set, h]

theorem inner_S {a b : TXT} {f : Nat → List Int} (ha : a.length ≤ 1048576) (hb : b.length ≤ 1048576) {i : Nat} (hi : i < a.length) :
    w_S_l3Table_11 (a, b, tabP f a b i b.length, (i : Int), IntKind.wrap .i64 ((b.length : Int) - 1), ()) = some (a, b, tabP f a b i 0, (i : Int), ()) := by
  have := fix_down (B := fun d => b_S_l3Table_11 d.1 d.2.1 d.2.2.1 d.2.2.2.1 d.2.2.2.2.1) (fun m => (a, b, tabP f a b i m, (i : Int), (m : Int) - 1, ())) (r := (a, b, tabP f a b i 0, (i : Int), ()))
    (by
      show b_S_l3Table_11 a b (tabP f a b i 0) i (((0 : Nat) : Int) - 1) = _
      unfold b_S_l3Table_11
      rw [decide_eq_false (by omega : ¬ ((((0 : Nat) : Int) - 1) ≥ 0)), cond_false]) b.length
    (fun m hm => by
      show b_S_l3Table_11 a b (tabP f a b i (m + 1)) i (((m + 1 : Nat) : Int) - 1) = _
      rw [show ((m + 1 : Nat) : Int) - 1 = (m : Int) from by omega]
      unfold b_S_l3Table_11
      have w1 : IntKind.wrap .i64 ((i : Int) + 1) = ((i + 1 : Nat) : Int) := by rw [wrap64 (by omega) (by omega)]; omega
      have w2 : IntKind.wrap .i64 ((m : Int) + 1) = ((m + 1 : Nat) : Int) := by rw [wrap64 (by omega) (by omega)]; omega
      have t1 := T_small (b := b) ha (i + 1) (m + 1)
      have w3 : IntKind.wrap .i64 ((T a b (i + 1) (m + 1) : Int) + 1) = (T a b (i + 1) (m + 1) : Int) + 1 := wrap64 (by omega) (by omega)
      have w4 : IntKind.wrap .i64 ((m : Int) - 1) = (m : Int) - 1 := wrap64 (by omega) (by omega)
      have hn : i ≠ i + 1 := by omega
      have hs := T_max hi hm
      rw [decide_eq_true (by omega : (m : Int) ≥ 0), cond_true]
      simp only [toNat_cast, w1, w2, tabP_len, tabP_at (Nat.le_of_lt hi), tabP_next hi, rowT_len, rowP_len, inB_lt hi, inB_lt hm, inB_lt (by omega : i < a.length + 1), inB_lt (by omega : i + 1 < a.length + 1), inB_lt (by omega : m + 1 < b.length + 1), inB_lt (by omega : m < b.length + 1), cond_true,
        rowT_get (by omega : m + 1 ≤ b.length), rowT_get (by omega : m ≤ b.length), rowP_get (by omega : m + 1 ≤ b.length) (Nat.le_refl (m + 1)), most_S, Option.bind_some, getD_of hi, getD_of hm, List.length_set,
        getD_set_self (by rw [tabP_len]; omega : i < (tabP f a b i (m + 1)).length), getD_set_self (by rw [rowP_len]; omega : m < (rowP a b i (m + 1)).length), getD_set_other hn, w3, List.set_set]
      by_cases hc : a[i] = b[m]
      · rw [if_pos hc] at hs
        rw [beq_iff_eq.2 hc, cond_true, Option.bind_some]
        dsimp only
        rw [w4, show max (max (T a b (i + 1) m : Int) (T a b i (m + 1) : Int)) ((T a b (i + 1) (m + 1) : Int) + 1) = (T a b i m : Int) from by omega, rowP_set, tabP_set rfl]
      · rw [if_neg hc] at hs
        rw [beq_eq_false_iff_ne.2 hc, cond_false, Option.bind_some]
        dsimp only
        rw [w4, show max (T a b (i + 1) m : Int) (T a b i (m + 1) : Int) = (T a b i m : Int) from by omega, rowP_set, tabP_set rfl])
  rw [show IntKind.wrap .i64 ((b.length : Int) - 1) = (b.length : Int) - 1 from wrap64 (by omega) (by omega)]
  exact this

def zeroRow (b : TXT) : Nat → List Int := fun _ => mkT (b.length + 1) fun _ => (0 : Int)

theorem table_S {a b : TXT} (ha : a.length ≤ 1048576) (hb : b.length ≤ 1048576) : f_S_l3Table a b = some ((tabT a b, ()), ()) := by
  obtain ⟨ra, na⟩ := room1 ha
  obtain ⟨rb, nb⟩ := room1 hb
  unfold f_S_l3Table
  rw [ra, cond_true, na, List.length_replicate]
  -- the rows
  have h1 := fix_all (B := fun d => b_S_l3Table_3 d.1 d.2.1 d.2.2.1 d.2.2.2.1 d.2.2.2.2.1) (fun n => (a, b, mkT (a.length + 1) (fun r => if r < n then zeroRow b r else ([] : List Int)), ((a.length + 1 : Nat) : Int), (n : Int), ())) (a.length + 1) (r := (a, b, mkT (a.length + 1) (zeroRow b), ()))
    (fun i hi => by
      show b_S_l3Table_3 a b (mkT (a.length + 1) _) ((a.length + 1 : Nat) : Int) i = _
      unfold b_S_l3Table_3
      rw [decide_eq_true (by omega : (i : Int) < ((a.length + 1 : Nat) : Int)), cond_true, rb, cond_true, inB_lt (by rw [mkT_len]; omega), cond_true, nb, toNat_cast, mkT_set, wrap64 (by omega) (by omega)]
      have e : (mkT (a.length + 1) fun r => if r = i then List.replicate (b.length + 1) (0 : Int) else if r < i then zeroRow b r else []) = mkT (a.length + 1) fun r => if r < i + 1 then zeroRow b r else [] := mkT_ext fun r hr => by
        by_cases h : r = i
        · rw [if_pos h, if_pos (by omega), mkT_rep]; rfl
        · rw [if_neg h]
          by_cases h2 : r < i
          · rw [if_pos h2, if_pos (by omega)]
          · rw [if_neg h2, if_neg (by omega)]
      rw [e]
      rfl)
    (by
      show b_S_l3Table_3 a b (mkT (a.length + 1) _) ((a.length + 1 : Nat) : Int) ((a.length + 1 : Nat) : Int) = _
      unfold b_S_l3Table_3
      rw [decide_eq_false (Int.lt_irrefl _), cond_false]
      have e : (mkT (a.length + 1) fun r => if r < a.length + 1 then zeroRow b r else []) = mkT (a.length + 1) (zeroRow b) := mkT_ext fun r hr => if_pos hr
      rw [e])
  have e0 : List.replicate (a.length + 1) ([] : List Int) = mkT (a.length + 1) (fun r => if r < 0 then zeroRow b r else ([] : List Int)) := by
    rw [mkT_rep]
    exact mkT_ext fun r hr => by rw [if_neg (by omega)]
  rw [show w_S_l3Table_3 (a, b, List.replicate (a.length + 1) ([] : PV S_int), ((a.length + 1 : Nat) : Int), 0, ()) = _ from e0 ▸ h1, Option.bind_some]
  dsimp only
  have e1 : mkT (a.length + 1) (zeroRow b) = tabE (zeroRow b) a b a.length := mkT_ext fun r hr => by
    by_cases h : a.length ≤ r
    · rw [if_pos h]
      exact mkT_ext fun j hj => by rw [T_end_l h]; rfl
    · rw [if_neg h]
  rw [e1]
  have := fix_down (B := fun d => b_S_l3Table_8 d.1 d.2.1 d.2.2.1 d.2.2.2.1) (fun n => (a, b, tabE (zeroRow b) a b n, (n : Int) - 1, ())) (r := (tabT a b, ()))
    (by
      show b_S_l3Table_8 a b (tabE (zeroRow b) a b 0) (((0 : Nat) : Int) - 1) = _
      unfold b_S_l3Table_8
      rw [decide_eq_false (by omega : ¬ ((((0 : Nat) : Int) - 1) ≥ 0)), cond_false, tabE_0]) a.length
    (fun i hi => by
      show b_S_l3Table_8 a b (tabE (zeroRow b) a b (i + 1)) (((i + 1 : Nat) : Int) - 1) = _
      rw [show ((i + 1 : Nat) : Int) - 1 = (i : Int) from by omega]
      unfold b_S_l3Table_8
      have e2 : tabE (zeroRow b) a b (i + 1) = tabP (zeroRow b) a b i b.length := by
        rw [← tabE_set]
        unfold tabE
        rw [mkT_set]
        refine mkT_ext fun r hr => ?_
        by_cases h : r = i
        · rw [if_pos h, if_neg (by omega), rowP_end]; rfl
        · rw [if_neg h]
      rw [decide_eq_true (by omega : (i : Int) ≥ 0), cond_true, e2, inner_S ha hb hi, Option.bind_some]
      dsimp only
      rw [tabE_of, show IntKind.wrap .i64 ((i : Int) - 1) = (i : Int) - 1 from wrap64 (by omega) (by omega)])
  rw [show IntKind.wrap .i64 ((a.length : Int) - 1) = (a.length : Int) - 1 from wrap64 (by omega) (by omega), show w_S_l3Table_8 (a, b, tabE (zeroRow b) a b a.length, (a.length : Int) - 1, ()) = _ from this]
  rfl
end R
