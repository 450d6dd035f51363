/- Part of the proof. -/
import Derived.Test.YtmdlfpmkghkakaaPb1
open Go Go.Dn
namespace R1
set_option linter.unusedVariables false

def badP (x : PV Y94) : Bool := !(decide (x.1 ≥ 1) && decide (x.1 ≤ 5))
def fewP (t0 : List (PV Y94)) : Bool := decide (t0.length ≤ 120) && !(t0.any badP)
def clP (t0 : List (PV Y94)) : Int := t0.foldl (fun (n : Int) (x : PV Y94) => if x.1 == 5 then n + 1 else n) 0

theorem in_I (a b c : Int) : f_I_in a b c = some ((decide (a ≥ b) && decide (a ≤ c), ()), ()) := by
  unfold f_I_in
  cases decide (a ≥ b) <;> rfl
theorem in_S (a b c : Int) : f_S_l1In a b c = some ((decide (a ≥ b) && decide (a ≤ c), ()), ()) := by
  unfold f_S_l1In
  cases decide (a ≥ b) <;> rfl

theorem few_S (t0 : List (PV Y94)) (hl : t0.length ≤ 1048576) : f_S_l11Few t0 = some ((fewP t0, ()), ()) := by
  unfold f_S_l11Few
  rw [show w_S_l11Few_2 (t0, t0, (t0.length : Int), 0, ()) = _ from fix_any (B := fun d => b_S_l11Few_2 d.1 d.2.1 d.2.2.1 d.2.2.2.1) t0 badP (fun i => (t0, t0, (t0.length : Int), (i : Int), ())) (fun _ => .inr (false, ())) (.inl (t0, ()))
    (fun i hi hq => by
      show b_S_l11Few_2 t0 t0 t0.length i = _
      unfold b_S_l11Few_2
      rw [decide_eq_true (by omega : (i : Int) < (t0.length : Int)), cond_true, inB_lt hi, cond_true, toNat_cast, getD_of hi, in_S, Option.bind_some]
      unfold badP at hq
      rw [hq, cond_false, wrap64 (by omega) (by omega)]; rfl)
    (fun i hi hq => by
      show b_S_l11Few_2 t0 t0 t0.length i = _
      unfold b_S_l11Few_2
      rw [decide_eq_true (by omega : (i : Int) < (t0.length : Int)), cond_true, inB_lt hi, cond_true, toNat_cast, getD_of hi, in_S, Option.bind_some]
      unfold badP at hq
      rw [hq, cond_true])
    (by
      show b_S_l11Few_2 t0 t0 t0.length t0.length = _
      unfold b_S_l11Few_2
      rw [decide_eq_false (Int.lt_irrefl _), cond_false])]
  unfold fewP
  cases h : t0.any badP
  · simp only [Bool.false_eq_true, if_false, Option.bind_some, Bool.not_false, Bool.and_true]
    congr 3
    simp
    omega
  · simp

theorem few_I (t0 : List (PV Y94)) : f_I_areParts t0 = some ((fewP t0, ()), ()) := by
  unfold f_I_areParts fewP
  by_cases hl : t0.length ≤ 120
  · rw [decide_eq_true (by omega : (t0.length : Int) ≤ 120), cond_true, decide_eq_true hl, Bool.true_and]
    rw [show w_I_areParts_145_2 (t0, false, t0, (t0.length : Int), true, true, t0, t0, false, t0, t0, (t0.length : Int), 0, ()) = _ from
      fix_any (B := fun d => b_I_areParts_145_2 d.1 d.2.1 d.2.2.1 d.2.2.2.1 d.2.2.2.2.1 d.2.2.2.2.2.1 d.2.2.2.2.2.2.1 d.2.2.2.2.2.2.2.1 d.2.2.2.2.2.2.2.2.1 d.2.2.2.2.2.2.2.2.2.1 d.2.2.2.2.2.2.2.2.2.2.1 d.2.2.2.2.2.2.2.2.2.2.2.1 d.2.2.2.2.2.2.2.2.2.2.2.2.1) t0 badP
      (fun i => (t0, false, t0, (t0.length : Int), true, true, t0, t0, false, t0, t0, (t0.length : Int), (i : Int), ())) (fun i => .inr (t0, false, t0, (t0.length : Int), true, true, t0, t0, false, t0, (i : Int), ())) (.inl (t0, false, t0, (t0.length : Int), true, true, t0, t0, false, t0, ()))
      (fun i hi hq => by
        show b_I_areParts_145_2 _ _ _ _ _ _ _ _ _ _ t0 t0.length i = _
        unfold b_I_areParts_145_2 f_I_areParts_1
        rw [decide_eq_true (by omega : (i : Int) < (t0.length : Int)), cond_true, inB_lt hi, cond_true, toNat_cast, getD_of hi, in_I, Option.bind_some, Option.bind_some]
        unfold badP at hq
        rw [hq, cond_false, wrap64 (by omega) (by omega)]; rfl)
      (fun i hi hq => by
        show b_I_areParts_145_2 _ _ _ _ _ _ _ _ _ _ t0 t0.length i = _
        unfold b_I_areParts_145_2 f_I_areParts_1
        rw [decide_eq_true (by omega : (i : Int) < (t0.length : Int)), cond_true, inB_lt hi, cond_true, toNat_cast, getD_of hi, in_I, Option.bind_some, Option.bind_some]
        unfold badP at hq
        rw [hq, cond_true])
      (by
        show b_I_areParts_145_2 _ _ _ _ _ _ _ _ _ _ t0 t0.length t0.length = _
        unfold b_I_areParts_145_2
        rw [decide_eq_false (Int.lt_irrefl _), cond_false])]
    cases h : t0.any badP
    · rfl
    · simp
  · rw [decide_eq_false (by omega : ¬ (t0.length : Int) ≤ 120), cond_false, decide_eq_false hl]; rfl

theorem cl_I (t0 : List (PV Y94)) (hl : t0.length ≤ 1048576) : f_I_clashes t0 = some ((clP t0, ()), ()) := by
  unfold f_I_clashes
  rw [show w_I_clashes_3 (0, t0, (t0.length : Int), 0, ()) = _ from (fix_fold (B := fun d => b_I_clashes_3 d.1 d.2.1 d.2.2.1 d.2.2.2.1) t0 (fun (n : Int) (x : PV Y94) => if x.1 == 5 then n + 1 else n) (fun n i => (n, t0, (t0.length : Int), (i : Int), ())) (fun n => (n, ())) (fun i n => 0 ≤ n ∧ n ≤ i)
    (fun i hi a hI => by
      refine ⟨by split <;> omega, ?_⟩
      show b_I_clashes_3 a t0 t0.length i = _
      unfold b_I_clashes_3
      rw [decide_eq_true (by omega : (i : Int) < (t0.length : Int)), cond_true, inB_lt hi, cond_true, toNat_cast, getD_of hi]
      cases hx : (t0[i].1 == 5)
      · rw [cond_false, Option.bind_some]; dsimp only; rw [wrap64 (by omega) (by omega)]; simp
      · rw [cond_true, Option.bind_some]; dsimp only; rw [wrap64 (by omega) (by omega), wrap64 (by omega) (by omega)]; simp)
    (fun a _ => by
      show b_I_clashes_3 a t0 t0.length t0.length = _
      unfold b_I_clashes_3
      rw [decide_eq_false (Int.lt_irrefl _), cond_false]) 0 ⟨by omega, by omega⟩).1]
  rfl

theorem cl_S (t0 : List (PV Y94)) (hl : t0.length ≤ 1048576) : w_S_ClashesIn_5 (0, t0, (t0.length : Int), 0, ()) = some (clP t0, ()) := by
  exact (fix_fold (B := fun d => b_S_ClashesIn_5 d.1 d.2.1 d.2.2.1 d.2.2.2.1) t0 (fun (n : Int) (x : PV Y94) => if x.1 == 5 then n + 1 else n) (fun n i => (n, t0, (t0.length : Int), (i : Int), ())) (fun n => (n, ())) (fun i n => 0 ≤ n ∧ n ≤ i)
    (fun i hi a hI => by
      refine ⟨by split <;> omega, ?_⟩
      show b_S_ClashesIn_5 a t0 t0.length i = _
      unfold b_S_ClashesIn_5
      rw [decide_eq_true (by omega : (i : Int) < (t0.length : Int)), cond_true, inB_lt hi, cond_true, toNat_cast, getD_of hi]
      cases hx : (t0[i].1 == 5)
      · rw [cond_false, Option.bind_some]; dsimp only; rw [wrap64 (by omega) (by omega)]; simp
      · rw [cond_true, Option.bind_some]; dsimp only; rw [wrap64 (by omega) (by omega), wrap64 (by omega) (by omega)]; simp)
    (fun a _ => by
      show b_S_ClashesIn_5 a t0 t0.length t0.length = _
      unfold b_S_ClashesIn_5
      rw [decide_eq_false (Int.lt_irrefl _), cond_false]) 0 ⟨by omega, by omega⟩).1

theorem law (t0 : PV (.slice 94 Y94)) (hw : WfV (.slice 94 Y94) t0) : f_L_FnExactClashesIn t0 = some ((true, ()), ()) := by
  unfold f_L_FnExactClashesIn
  rw [p_L_szPartS t0 1048576 (by omega) (by omega) hw, Option.bind_some]
  by_cases hs : ((tot (.slice 94 Y94) t0 : Nat) : Int) ≤ 1048576
  · rw [szR_pos hs]
    dsimp only
    have hs' : tot (.slice 94 Y94) t0 ≤ 1048576 := by omega
    have hl : List.length t0 ≤ 1048576 := Nat.le_trans (Nat.le_add_right _ _) (tot_slice ▸ hs')
    rw [decide_eq_false (by omega : ¬ ((1048576 : Int) - ((tot (.slice 94 Y94) t0 : Nat) : Int) < 0)), cond_false, p_L_toPartS t0 hs', Option.bind_some]
    dsimp only
    have hS : f_S_ClashesIn t0 = f_I_ClashesIn t0 := by
      unfold f_S_ClashesIn f_I_ClashesIn
      rw [few_S t0 hl, few_I, cl_S t0 hl, cl_I t0 hl]
      rfl
    have hI : ∃ a b, f_I_ClashesIn t0 = some ((a, b, ()), ()) := by
      unfold f_I_ClashesIn
      rw [few_I, cl_I t0 hl, Option.bind_some, Option.bind_some]
      cases (fewP t0) <;> exact ⟨_, _, rfl⟩
    obtain ⟨a, b, hI⟩ := hI
    rw [hS, hI, Option.bind_some, Option.bind_some, hI, Option.bind_some]
    dsimp only
    rw [beq_self_eq_true, Bool.not_true, cond_false, Option.bind_some]
    dsimp only
    rw [beq_self_eq_true, Bool.not_true, cond_false, p_L_toPartS t0 hs', Option.bind_some]
    dsimp only
    rw [p_L_eqPartS t0 (by show tot (.slice 94 Y94) t0 ≤ _; omega)]
    rfl
  · rw [szR_neg hs]; rfl
end R1
