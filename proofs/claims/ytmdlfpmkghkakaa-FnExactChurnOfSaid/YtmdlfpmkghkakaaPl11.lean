/- Versions, and how much turns from each to the next: both sides answer the same. -/
import Derived.Test.YtmdlfpmkghkakaaPl10
open Go Go.Dn
namespace R
set_option linter.unusedVariables false

theorem sum_const {α : Type} {f : α → Nat} {c : Nat} : ∀ {l : List α}, (∀ x ∈ l, f x ≤ c) → (l.map f).sum ≤ c * l.length
  | [], _ => by simp
  | x :: l, h => by
    simp only [List.map_cons, List.sum_cons, List.length_cons]
    have h1 := h x (List.mem_cons_self ..)
    have h2 := sum_const (l := l) fun y hy => h y (List.mem_cons_of_mem _ hy)
    rw [Nat.mul_add]
    omega

def versP (v : List TXT) : Bool := inI (v.length : Int) 1 8 && !(v.any fun l => !goodP l)
def SmV (v : List TXT) : Prop := v.length ≤ 4611686018427387904 ∧ ∀ l ∈ v, Sm l

theorem SmV.of {e : TypeId} {v : List TXT} {n : Nat} (h : tot (.slice e S_string) v ≤ n) (hn : n ≤ 4611686018427387904) : SmV v := by
  refine ⟨?_, fun l hl => Sm.of (n := n) (tot_all h l hl) hn⟩
  have h' := h
  rw [tot_slice] at h'
  omega

theorem vers_I {v : List TXT} (hs : SmV v) : f_I_areVersions v = some ((versP v, ()), ()) := by
  unfold f_I_areVersions versP
  rw [in_I, Option.bind_some]
  dsimp only
  unfold inI
  generalize hb : (decide ((v.length : Int) ≥ 1) && decide ((v.length : Int) ≤ 8)) = b
  cases b
  · rfl
  · have hl := hs.1
    rw [cond_true, show w_I_areVersions_154_2 (v, false, v, (v.length : Int), true, true, v, v, false, v, v, (v.length : Int), 0, ()) = _ from
      fix_any (B := fun d => b_I_areVersions_154_2 d.1 d.2.1 d.2.2.1 d.2.2.2.1 d.2.2.2.2.1 d.2.2.2.2.2.1 d.2.2.2.2.2.2.1 d.2.2.2.2.2.2.2.1 d.2.2.2.2.2.2.2.2.1 d.2.2.2.2.2.2.2.2.2.1 d.2.2.2.2.2.2.2.2.2.2.1 d.2.2.2.2.2.2.2.2.2.2.2.1 d.2.2.2.2.2.2.2.2.2.2.2.2.1) v (fun l => !goodP l)
      (fun i => (v, false, v, (v.length : Int), true, true, v, v, false, v, v, (v.length : Int), (i : Int), ())) (fun i => .inr (v, false, v, (v.length : Int), true, true, v, v, false, v, (i : Int), ())) (.inl (v, false, v, (v.length : Int), true, true, v, v, false, v, ()))
      (fun i hi hq => by
        show b_I_areVersions_154_2 _ _ _ _ _ _ _ _ _ _ v v.length i = _
        unfold b_I_areVersions_154_2 f_I_areVersions_1
        rw [decide_eq_true (by omega : (i : Int) < (v.length : Int)), cond_true, inB_lt hi, cond_true, toNat_cast, getD_of hi, goodLines_I _ (hs.2 _ (List.getElem_mem hi)), Option.bind_some, Option.bind_some]
        dsimp only
        rw [hq, cond_false, wrap64 (by omega) (by omega)]; rfl)
      (fun i hi hq => by
        show b_I_areVersions_154_2 _ _ _ _ _ _ _ _ _ _ v v.length i = _
        unfold b_I_areVersions_154_2 f_I_areVersions_1
        rw [decide_eq_true (by omega : (i : Int) < (v.length : Int)), cond_true, inB_lt hi, cond_true, toNat_cast, getD_of hi, goodLines_I _ (hs.2 _ (List.getElem_mem hi)), Option.bind_some, Option.bind_some]
        dsimp only
        rw [hq, cond_true])
      (by
        show b_I_areVersions_154_2 _ _ _ _ _ _ _ _ _ _ v v.length v.length = _
        unfold b_I_areVersions_154_2
        rw [decide_eq_false (Int.lt_irrefl _), cond_false])]
    cases v.any fun l => !goodP l
    · rfl
    · simp

theorem vers_S {v : List TXT} (hs : SmV v) : f_S_l12Good v = some ((versP v, ()), ()) := by
  have hl := hs.1
  unfold f_S_l12Good versP
  rw [show w_S_l12Good_2 (v, v, (v.length : Int), 0, ()) = _ from fix_any (B := fun d => b_S_l12Good_2 d.1 d.2.1 d.2.2.1 d.2.2.2.1) v (fun l => !goodP l) (fun i => (v, v, (v.length : Int), (i : Int), ())) (fun _ => .inr (false, ())) (.inl (v, ()))
    (fun i hi hq => by
      show b_S_l12Good_2 v v v.length i = _
      unfold b_S_l12Good_2
      rw [decide_eq_true (by omega : (i : Int) < (v.length : Int)), cond_true, inB_lt hi, cond_true, toNat_cast, getD_of hi, l1Good_S _ (hs.2 _ (List.getElem_mem hi)), Option.bind_some]
      dsimp only
      rw [hq, cond_false, wrap64 (by omega) (by omega)]; rfl)
    (fun i hi hq => by
      show b_S_l12Good_2 v v v.length i = _
      unfold b_S_l12Good_2
      rw [decide_eq_true (by omega : (i : Int) < (v.length : Int)), cond_true, inB_lt hi, cond_true, toNat_cast, getD_of hi, l1Good_S _ (hs.2 _ (List.getElem_mem hi)), Option.bind_some]
      dsimp only
      rw [hq, cond_true])
    (by
      show b_S_l12Good_2 v v v.length v.length = _
      unfold b_S_l12Good_2
      rw [decide_eq_false (Int.lt_irrefl _), cond_false])]
  unfold inI
  cases v.any fun l => !goodP l
  · rw [if_neg (by simp), Option.bind_some]
    dsimp only
    rw [in_S, Option.bind_some, Bool.not_false, Bool.and_true]
  · rw [if_pos rfl]
    simp

theorem goodP_small {l : TXT} (h : goodP l = true) : l.length ≤ 40 := by
  unfold goodP linesP at h
  simp only [Bool.and_eq_true, decide_eq_true_eq] at h
  exact h.1.1

theorem vers_at {v : List TXT} (h : versP v = true) : 1 ≤ v.length ∧ v.length ≤ 8 ∧ ∀ i, i < v.length → (v.getD i []).length ≤ 40 := by
  unfold versP inI at h
  simp only [Bool.and_eq_true, decide_eq_true_eq, Bool.not_eq_true'] at h
  refine ⟨by omega, by omega, fun i hi => ?_⟩
  have := List.any_eq_false.1 h.2 _ (List.getElem_mem hi)
  rw [getD_of hi]
  exact goodP_small (by simpa using this)

/-- What turns from a text to the next. -/
def churnE (a b : TXT) : List Int := [(a.length : Int) - (T a b 0 0 : Int), (b.length : Int) - (T a b 0 0 : Int)]
def churnL (v : List TXT) (n : Nat) : List (List Int) := (List.range n).map fun m => churnE (v.getD m []) (v.getD (m + 1) [])
theorem churnL_succ (v : List TXT) (n : Nat) : churnL v (n + 1) = churnL v n ++ [churnE (v.getD n []) (v.getD (n + 1) [])] := by
  unfold churnL
  rw [List.range_succ, List.map_append]
  rfl
theorem churnL_len (v : List TXT) (n : Nat) : (churnL v n).length = n := by simp [churnL]

theorem churn_loop_I {v : List TXT} (h : versP v = true) : w_I_ChurnOf_5 (v, ([] : List (List Int)), 1, ()) = some (churnL v (v.length - 1), ()) := by
  obtain ⟨h1, h2, h3⟩ := vers_at h
  have := fix_all (B := fun d => b_I_ChurnOf_5 d.1 d.2.1 d.2.2.1) (fun i => (v, churnL v i, ((i + 1 : Nat) : Int), ())) (v.length - 1) (r := (churnL v (v.length - 1), ()))
    (fun i hi => by
      show b_I_ChurnOf_5 v (churnL v i) ((i + 1 : Nat) : Int) = _
      unfold b_I_ChurnOf_5
      have ha := h3 i (by omega)
      have hb := h3 (i + 1) (by omega)
      have t1 := T_le (a := v.getD i []) (b := v.getD (i + 1) []) (i := 0) (j := 0)
      have w1 : IntKind.wrap .i64 (((i + 1 : Nat) : Int) - 1) = (i : Int) := by rw [wrap64 (by omega) (by omega)]; omega
      have w2 : IntKind.wrap .i64 (((i + 1 : Nat) : Int) + 1) = ((i + 1 + 1 : Nat) : Int) := by rw [wrap64 (by omega) (by omega)]; omega
      have w3 : IntKind.wrap .i64 (((v.getD i []).length : Int) - (T (v.getD i []) (v.getD (i + 1) []) 0 0 : Int)) = ((v.getD i []).length : Int) - (T (v.getD i []) (v.getD (i + 1) []) 0 0 : Int) := wrap64 (by omega) (by omega)
      have w4 : IntKind.wrap .i64 (((v.getD (i + 1) []).length : Int) - (T (v.getD i []) (v.getD (i + 1) []) 0 0 : Int)) = ((v.getD (i + 1) []).length : Int) - (T (v.getD i []) (v.getD (i + 1) []) 0 0 : Int) := wrap64 (by omega) (by omega)
      have z : ((0 : Int).toNat) = 0 := rfl
      have i0 : ∀ n : Nat, inB 0 (n + 1) = true := fun n => inB_lt (i := 0) (by omega)
      rw [decide_eq_true (by omega : ((i + 1 : Nat) : Int) < (v.length : Int)), cond_true, w1, inB_lt (by omega : i < v.length), cond_true, inB_lt (by omega : i + 1 < v.length), cond_true, toNat_cast, toNat_cast, common_I (by omega) (by omega), Option.bind_some]
      dsimp only
      rw [z, tabT_len, i0, cond_true, tabT_at (Nat.zero_le _), rowT_len, i0, cond_true, cond_true, cond_true, rowT_get (Nat.zero_le _), w3, w4, roomB_ok (by rw [churnL_len]; simp; omega), cond_true, w2, churnL_succ]
      rfl)
    (by
      show b_I_ChurnOf_5 v (churnL v (v.length - 1)) ((v.length - 1 + 1 : Nat) : Int) = _
      unfold b_I_ChurnOf_5
      rw [decide_eq_false (by omega : ¬ (((v.length - 1 + 1 : Nat) : Int) < (v.length : Int))), cond_false])
  exact this

theorem churn_loop_S {v : List TXT} (h : versP v = true) : w_S_ChurnOf_5 (v, ([] : List (List Int)), 1, ()) = some (churnL v (v.length - 1), ()) := by
  obtain ⟨h1, h2, h3⟩ := vers_at h
  have := fix_all (B := fun d => b_S_ChurnOf_5 d.1 d.2.1 d.2.2.1) (fun i => (v, churnL v i, ((i + 1 : Nat) : Int), ())) (v.length - 1) (r := (churnL v (v.length - 1), ()))
    (fun i hi => by
      show b_S_ChurnOf_5 v (churnL v i) ((i + 1 : Nat) : Int) = _
      unfold b_S_ChurnOf_5
      have ha := h3 i (by omega)
      have hb := h3 (i + 1) (by omega)
      have t1 := T_le (a := v.getD i []) (b := v.getD (i + 1) []) (i := 0) (j := 0)
      have w1 : IntKind.wrap .i64 (((i + 1 : Nat) : Int) - 1) = (i : Int) := by rw [wrap64 (by omega) (by omega)]; omega
      have w2 : IntKind.wrap .i64 (((i + 1 : Nat) : Int) + 1) = ((i + 1 + 1 : Nat) : Int) := by rw [wrap64 (by omega) (by omega)]; omega
      have w3 : IntKind.wrap .i64 (((v.getD i []).length : Int) - (T (v.getD i []) (v.getD (i + 1) []) 0 0 : Int)) = ((v.getD i []).length : Int) - (T (v.getD i []) (v.getD (i + 1) []) 0 0 : Int) := wrap64 (by omega) (by omega)
      have w4 : IntKind.wrap .i64 (((v.getD (i + 1) []).length : Int) - (T (v.getD i []) (v.getD (i + 1) []) 0 0 : Int)) = ((v.getD (i + 1) []).length : Int) - (T (v.getD i []) (v.getD (i + 1) []) 0 0 : Int) := wrap64 (by omega) (by omega)
      have el : ((pairsP (v.getD i []) (v.getD (i + 1) [])).map encP).length = T (v.getD i []) (v.getD (i + 1) []) 0 0 := by rw [List.length_map]; exact pairs_len _ _ _ _ _
      rw [decide_eq_true (by omega : ((i + 1 : Nat) : Int) < (v.length : Int)), cond_true, w1, inB_lt (by omega : i < v.length), cond_true, inB_lt (by omega : i + 1 < v.length), cond_true, toNat_cast, toNat_cast, pairs_S (by omega) (by omega), Option.bind_some]
      dsimp only
      rw [cond_true, cond_true, el, w3, w4, roomB_ok (by rw [churnL_len]; simp; omega), cond_true, w2, churnL_succ]
      rfl)
    (by
      show b_S_ChurnOf_5 v (churnL v (v.length - 1)) ((v.length - 1 + 1 : Nat) : Int) = _
      unfold b_S_ChurnOf_5
      rw [decide_eq_false (by omega : ¬ (((v.length - 1 + 1 : Nat) : Int) < (v.length : Int))), cond_false])
  exact this

def churnR (v : List TXT) : List (List Int) := bif versP v then churnL v (v.length - 1) else []

theorem churn_I {v : List TXT} (hs : SmV v) : f_I_ChurnOf v = some ((churnR v, versP v, ()), ()) := by
  unfold f_I_ChurnOf churnR
  rw [vers_I hs, Option.bind_some]
  dsimp only
  cases h : versP v
  · rfl
  · rw [Bool.not_true, cond_false, show w_I_ChurnOf_5 (v, ([] : PV S_S_int), 1, ()) = _ from churn_loop_I h]; rfl
theorem churn_S {v : List TXT} (hs : SmV v) : f_S_ChurnOf v = some ((churnR v, versP v, ()), ()) := by
  unfold f_S_ChurnOf churnR
  rw [vers_S hs, Option.bind_some]
  dsimp only
  cases h : versP v
  · rfl
  · rw [Bool.not_true, cond_false, show w_S_ChurnOf_5 (v, [], 1, ()) = _ from churn_loop_S h]; rfl

theorem churn_tot (v : List TXT) : tot S_S_int (churnR v) ≤ 100 := by
  unfold churnR
  cases h : versP v
  · exact Nat.zero_le _
  · obtain ⟨h1, h2, _⟩ := vers_at h
    rw [cond_true, show tot S_S_int (churnL v (v.length - 1)) = (churnL v (v.length - 1)).length + ((churnL v (v.length - 1)).map (tot S_int)).sum from tot_slice, churnL_len]
    have := sum_const (l := churnL v (v.length - 1)) (f := tot S_int) (c := 2) (fun x hx => by
      obtain ⟨m, _, rfl⟩ := List.mem_map.1 hx
      exact Nat.le_refl 2)
    rw [churnL_len] at this
    omega

theorem law_ChurnOf (t0 : PV S_S_string) (hw : WfV S_S_string t0) : f_L_FnExactChurnOf t0 = some ((true, ()), ()) := by
  unfold f_L_FnExactChurnOf
  rw [p_L_szStringSS t0 1048576 (by omega) (by omega) hw, Option.bind_some]
  by_cases hs : ((tot S_S_string t0 : Nat) : Int) ≤ 1048576
  · rw [szR_pos hs]
    dsimp only
    have hs' : tot S_S_string t0 ≤ 1048576 := by omega
    have hS := SmV.of (v := t0) hs' (by omega)
    have hR := churn_tot t0
    have c1 : cn S_S_string t0 ≤ 0 + 1 * tot S_S_string t0 := cn_tot_le (by decide) (by decide)
    have c2 : cn S_S_int (churnR t0) ≤ 0 + 1 * tot S_S_int (churnR t0) := cn_tot_le (by decide) (by decide)
    have m1 := mk_cn tx S_S_string t0 1
    have m2 := mk_cn tx S_S_int (churnR t0) 1
    rw [decide_eq_false (by omega : ¬ ((1048576 : Int) - ((tot S_S_string t0 : Nat) : Int) < 0)), cond_false]
    simp only [p_L_toStringSS t0 hs', churn_S hS, churn_I hS, Option.bind_some, p_L_eqIntSS (churnR t0) (by omega), p_L_eqStringSS t0 (by omega), p_L_markStringSS t0 1 (by omega) (by omega) (by omega), p_L_markIntSS (churnR t0) 1 (by omega) (by omega) (by omega),
      p_L_heldIntSS (churnR t0) 1 (by omega) (by omega) (by omega), decide_eq_false (by omega : ¬ (mk tx S_S_string t0 1).2 < 0), decide_eq_false (by omega : ¬ (mk tx S_S_int (churnR t0) 1).2 < 0), beq_self_eq_true, Bool.not_true, cond_false]
  · rw [szR_neg hs]; rfl
end R
