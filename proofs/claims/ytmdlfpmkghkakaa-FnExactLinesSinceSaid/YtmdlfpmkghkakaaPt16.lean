/- Since when each line is there: both sides. -/
import Derived.Test.YtmdlfpmkghkakaaPt14
open Go Go.Dn
namespace R
set_option linter.unusedVariables false
set_option linter.unusedSectionVars false

def stay (prev m o : List Int) (k : Nat) : List Int := bif decide (m.getD k 0 ≥ 0) then o.set (m.getD k 0).toNat (prev.getD k 0) else o
theorem stay_len (prev m o : List Int) (k : Nat) : (stay prev m o k).length = o.length := by
  unfold stay
  cases decide (m.getD k 0 ≥ 0) <;> simp
def stayF (prev m base : List Int) : List Int := (List.range m.length).foldl (stay prev m) base
theorem stayF_len (prev m base : List Int) : (stayF prev m base).length = base.length := by
  unfold stayF
  generalize List.range m.length = l
  induction l generalizing base with
  | nil => rfl
  | cons x l ih => rw [List.foldl_cons, ih, stay_len]

def sinceP (v : List TXT) : Nat → List Int
  | 0 => List.replicate (v.getD 0 []).length 0
  | n + 1 => stayF (sinceP v n) (matesP (v.getD n []) (v.getD (n + 1) [])) (List.replicate (v.getD (n + 1) []).length ((n + 1 : Nat) : Int))
theorem sinceP_len (v : List TXT) (n : Nat) : (sinceP v n).length = (v.getD n []).length := by
  cases n with
  | zero => simp [sinceP]
  | succ n => simp [sinceP, stayF_len]
def sinceL (v : List TXT) (n : Nat) : List (List Int) := (List.range n).map (sinceP v)
theorem sinceL_len (v : List TXT) (n : Nat) : (sinceL v n).length = n := by simp [sinceL]
theorem sinceL_succ (v : List TXT) (n : Nat) : sinceL v (n + 1) = sinceL v n ++ [sinceP v n] := by simp [sinceL, List.range_succ]
theorem sinceL_at {v : List TXT} {n i : Nat} (h : i < n) {d : List Int} : (sinceL v n).getD i d = sinceP v i := by rw [getD_of (by rw [sinceL_len]; exact h)]; simp [sinceL]

section
variable {v : List TXT} (h : versP v = true)
include h

theorem stay_I {n : Nat} (hn : n + 1 < v.length) :
    w_I_since_8 (v, sinceL v (n + 1), ((n + 1 : Nat) : Int), List.replicate (v.getD (n + 1) []).length ((n + 1 : Nat) : Int), v, (v.length : Int), ((n + 1 : Nat) : Int), matesP (v.getD n []) (v.getD (n + 1) []), ((matesP (v.getD n []) (v.getD (n + 1) [])).length : Int), 0, ()) =
      some (v, sinceL v (n + 1), sinceP v (n + 1), v, (v.length : Int), ((n + 1 : Nat) : Int), ()) := by
  obtain ⟨v1, v2, v3⟩ := vers_at h
  have ha := v3 n (by omega)
  generalize hm : matesP (v.getD n []) (v.getD (n + 1) []) = m
  have hml : m.length = (v.getD n []).length := by rw [← hm, matesP_len]
  have hp := sinceP_len v n
  have hloop := (fix_fold (B := fun d => b_I_since_8 d.1 d.2.1 d.2.2.1 d.2.2.2.1 d.2.2.2.2.1 d.2.2.2.2.2.1 d.2.2.2.2.2.2.1 d.2.2.2.2.2.2.2.1 d.2.2.2.2.2.2.2.2.1 d.2.2.2.2.2.2.2.2.2.1) (List.range m.length) (stay (sinceP v n) m)
    (fun o i => (v, sinceL v (n + 1), ((n + 1 : Nat) : Int), o, v, (v.length : Int), ((n + 1 : Nat) : Int), m, (m.length : Int), (i : Int), ())) (fun o => (v, sinceL v (n + 1), o, v, (v.length : Int), ((n + 1 : Nat) : Int), ())) (fun _ o => o.length = (v.getD (n + 1) []).length)
    (fun i hi o ho => by
      rw [List.length_range] at hi
      refine ⟨by rw [stay_len]; exact ho, ?_⟩
      show b_I_since_8 v (sinceL v (n + 1)) ((n + 1 : Nat) : Int) o v (v.length : Int) ((n + 1 : Nat) : Int) m (m.length : Int) (i : Int) = _
      unfold b_I_since_8
      have w1 : IntKind.wrap .i64 (((n + 1 : Nat) : Int) - 1) = (n : Int) := by rw [wrap64 (by omega) (by omega)]; omega
      have w2 : IntKind.wrap .i64 ((i : Int) + 1) = ((i + 1 : Nat) : Int) := by rw [wrap64 (by omega) (by omega)]; omega
      have hat : m.getD i 0 = -1 ∨ (0 ≤ m.getD i 0 ∧ m.getD i 0 < ((v.getD (n + 1) []).length : Int)) := by rw [← hm]; exact matesP_at (by omega)
      have hst : stay (sinceP v n) m o (List.range m.length)[i] = bif decide (m.getD i 0 ≥ 0) then o.set (m.getD i 0).toNat ((sinceP v n).getD i 0) else o := by rw [List.getElem_range]; rfl
      rw [decide_eq_true (by omega : (i : Int) < (m.length : Int)), cond_true, inB_lt hi, cond_true, toNat_cast, w1, inB_lt (by rw [sinceL_len]; omega), toNat_cast, sinceL_at (by omega), inB_lt (by omega : i < (sinceP v n).length), hst]
      cases hd : decide (m.getD i 0 ≥ 0) with
      | false => simp only [cond_false, Option.bind_some, w2]
      | true =>
        have hd := of_decide_eq_true hd
        obtain ⟨q, hq⟩ := Int.eq_ofNat_of_zero_le hd
        rw [hq] at hat ⊢
        simp only [cond_true]
        rw [inB_lt (by omega)]
        simp only [cond_true, Option.bind_some, w2])
    (fun o ho => by
      rw [List.length_range]
      show b_I_since_8 v (sinceL v (n + 1)) ((n + 1 : Nat) : Int) o v (v.length : Int) ((n + 1 : Nat) : Int) m (m.length : Int) (m.length : Int) = _
      unfold b_I_since_8
      rw [decide_eq_false (by omega : ¬ ((m.length : Int) < (m.length : Int))), cond_false]) (List.replicate (v.getD (n + 1) []).length ((n + 1 : Nat) : Int)) (by simp)).1
  refine Eq.trans hloop ?_
  simp only [sinceP, stayF, hm]

theorem rep_I (x : Int) {n : Nat} (hn : n ≤ 1048576) : f_slices_Repeat_int [x] (n : Int) = some ((List.replicate n x, ()), ()) := by
  unfold f_slices_Repeat_int repF
  dsimp only
  rw [decide_eq_true (by omega : (0 : Int) ≤ (n : Int)), decide_eq_true (show (n : Int) ≤ 1099511627776 by omega)]
  rfl

theorem since_I : f_I_since v = some ((sinceL v v.length, ()), ()) := by
  obtain ⟨v1, v2, v3⟩ := vers_at h
  unfold f_I_since
  have hloop := fix_all (B := fun d => b_I_since_3 d.1 d.2.1 d.2.2.1 d.2.2.2.1 d.2.2.2.2.1) (fun i => (v, sinceL v i, v, (v.length : Int), (i : Int), ())) v.length (r := (sinceL v v.length, ()))
    (fun i hi => by
      show b_I_since_3 v (sinceL v i) v (v.length : Int) (i : Int) = _
      unfold b_I_since_3
      have ha := v3 i hi
      have w2 : IntKind.wrap .i64 ((i : Int) + 1) = ((i + 1 : Nat) : Int) := by rw [wrap64 (by omega) (by omega)]; omega
      rw [decide_eq_true (by omega : (i : Int) < (v.length : Int)), cond_true, inB_lt hi, cond_true, toNat_cast, rep_I h (i : Int) (by omega), Option.bind_some]
      dsimp only
      cases i with
      | zero =>
        rw [decide_eq_false (by omega : ¬ (((0 : Nat) : Int) > 0)), cond_false, Option.bind_some]
        dsimp only
        rw [roomB_ok (by rw [sinceL_len]; simp), cond_true, sinceL_succ, w2]
        rfl
      | succ n =>
        have hb := v3 n (by omega)
        have w1 : IntKind.wrap .i64 (((n + 1 : Nat) : Int) - 1) = (n : Int) := by rw [wrap64 (by omega) (by omega)]; omega
        rw [decide_eq_true (by omega : (((n + 1 : Nat) : Int) > 0)), cond_true, w1, inB_lt (by omega), cond_true, toNat_cast, mates_I (by omega) (by omega), Option.bind_some]
        dsimp only
        rw [stay_I h hi, Option.bind_some, Option.bind_some]
        dsimp only
        rw [roomB_ok (by rw [sinceL_len]; simp; omega), cond_true, sinceL_succ v (n + 1), w2])
    (by
      show b_I_since_3 v (sinceL v v.length) v (v.length : Int) (v.length : Int) = _
      unfold b_I_since_3
      rw [decide_eq_false (by omega : ¬ ((v.length : Int) < (v.length : Int))), cond_false])
  rw [show w_I_since_3 (v, [], v, (v.length : Int), 0, ()) = _ from hloop]
  rfl

theorem stay_S {n : Nat} (hn : n + 1 < v.length) (o0 : List Int) (ho0 : o0.length = (v.getD (n + 1) []).length) :
    w_S_l12Since_12 (v, sinceP v n, ((n + 1 : Nat) : Int), o0, matesP (v.getD n []) (v.getD (n + 1) []), ((matesP (v.getD n []) (v.getD (n + 1) [])).length : Int), 0, ()) =
      some (v, ((n + 1 : Nat) : Int), stayF (sinceP v n) (matesP (v.getD n []) (v.getD (n + 1) [])) o0, ()) := by
  obtain ⟨v1, v2, v3⟩ := vers_at h
  have ha := v3 n (by omega)
  generalize hm : matesP (v.getD n []) (v.getD (n + 1) []) = m
  have hml : m.length = (v.getD n []).length := by rw [← hm, matesP_len]
  have hp := sinceP_len v n
  have hloop := (fix_fold (B := fun d => b_S_l12Since_12 d.1 d.2.1 d.2.2.1 d.2.2.2.1 d.2.2.2.2.1 d.2.2.2.2.2.1 d.2.2.2.2.2.2.1) (List.range m.length) (stay (sinceP v n) m)
    (fun o i => (v, sinceP v n, ((n + 1 : Nat) : Int), o, m, (m.length : Int), (i : Int), ())) (fun o => (v, ((n + 1 : Nat) : Int), o, ())) (fun _ o => o.length = (v.getD (n + 1) []).length)
    (fun i hi o ho => by
      rw [List.length_range] at hi
      refine ⟨by rw [stay_len]; exact ho, ?_⟩
      show b_S_l12Since_12 v (sinceP v n) ((n + 1 : Nat) : Int) o m (m.length : Int) (i : Int) = _
      unfold b_S_l12Since_12
      have w2 : IntKind.wrap .i64 ((i : Int) + 1) = ((i + 1 : Nat) : Int) := by rw [wrap64 (by omega) (by omega)]; omega
      have hat : m.getD i 0 = -1 ∨ (0 ≤ m.getD i 0 ∧ m.getD i 0 < ((v.getD (n + 1) []).length : Int)) := by rw [← hm]; exact matesP_at (by omega)
      have hst : stay (sinceP v n) m o (List.range m.length)[i] = bif decide (m.getD i 0 ≥ 0) then o.set (m.getD i 0).toNat ((sinceP v n).getD i 0) else o := by rw [List.getElem_range]; rfl
      rw [decide_eq_true (by omega : (i : Int) < (m.length : Int)), cond_true, inB_lt hi, cond_true, toNat_cast, inB_lt (by omega : i < (sinceP v n).length), hst]
      cases hd : decide (m.getD i 0 ≥ 0) with
      | false => simp only [cond_false, Option.bind_some, w2]
      | true =>
        have hd := of_decide_eq_true hd
        obtain ⟨q, hq⟩ := Int.eq_ofNat_of_zero_le hd
        rw [hq] at hat ⊢
        simp only [cond_true]
        rw [inB_lt (by omega)]
        simp only [cond_true, Option.bind_some, w2])
    (fun o ho => by
      rw [List.length_range]
      show b_S_l12Since_12 v (sinceP v n) ((n + 1 : Nat) : Int) o m (m.length : Int) (m.length : Int) = _
      unfold b_S_l12Since_12
      rw [decide_eq_false (by omega : ¬ ((m.length : Int) < (m.length : Int))), cond_false]) o0 ho0).1
  exact hloop

theorem fill_S {n : Nat} (hn : n + 1 < v.length) :
    w_S_l12Since_7 (v, sinceP v n, ((n + 1 : Nat) : Int), List.replicate (v.getD (n + 1) []).length (0 : Int), ((v.getD (n + 1) []).length : Int), 0, ()) = some (v, sinceP v n, ((n + 1 : Nat) : Int), List.replicate (v.getD (n + 1) []).length ((n + 1 : Nat) : Int), ()) := by
  obtain ⟨v1, v2, v3⟩ := vers_at h
  have ha := v3 (n + 1) hn
  generalize (v.getD (n + 1) []).length = c at ha ⊢
  have hfill := fix_all (B := fun d => b_S_l12Since_7 d.1 d.2.1 d.2.2.1 d.2.2.2.1 d.2.2.2.2.1 d.2.2.2.2.2.1) (fun i => (v, sinceP v n, ((n + 1 : Nat) : Int), (List.replicate c ((n + 1 : Nat) : Int)).take i ++ List.replicate ((List.replicate c ((n + 1 : Nat) : Int)).length - i) (0 : Int), (c : Int), (i : Int), ())) c
    (r := (v, sinceP v n, ((n + 1 : Nat) : Int), List.replicate c ((n + 1 : Nat) : Int), ()))
    (fun i hi => by
      show b_S_l12Since_7 v (sinceP v n) ((n + 1 : Nat) : Int) ((List.replicate c ((n + 1 : Nat) : Int)).take i ++ List.replicate ((List.replicate c ((n + 1 : Nat) : Int)).length - i) (0 : Int)) c i = _
      unfold b_S_l12Since_7
      have hi' : i < (List.replicate c ((n + 1 : Nat) : Int)).length := by rw [List.length_replicate]; exact hi
      have hs := set_fill (d := (0 : Int)) hi'
      rw [List.getElem_replicate] at hs
      rw [decide_eq_true (by omega : (i : Int) < (c : Int)), cond_true, inB_lt (by simp; omega), cond_true, toNat_cast, hs, wrap64 (by omega) (by omega)]
      rfl)
    (by
      show b_S_l12Since_7 v (sinceP v n) ((n + 1 : Nat) : Int) _ c (c : Int) = _
      unfold b_S_l12Since_7
      rw [decide_eq_false (by omega : ¬ ((c : Int) < (c : Int))), cond_false]
      simp)
  refine Eq.trans ?_ hfill
  unfold w_S_l12Since_7
  congr 1
  simp

theorem since_S : f_S_l12Since v = some ((sinceP v (v.length - 1), ()), ()) := by
  obtain ⟨v1, v2, v3⟩ := vers_at h
  unfold f_S_l12Since
  have h0 := v3 0 (by omega)
  rw [show inB 0 v.length = true from inB_lt (i := 0) (by omega), cond_true, show ((0 : Int).toNat) = 0 from rfl, room_len (by omega), cond_true, toNat_cast]
  have hloop := fix_all (B := fun d => b_S_l12Since_3 d.1 d.2.1 d.2.2.1) (fun i => (v, sinceP v i, ((i + 1 : Nat) : Int), ())) (v.length - 1) (r := (sinceP v (v.length - 1), ()))
    (fun n hi => by
      show b_S_l12Since_3 v (sinceP v n) ((n + 1 : Nat) : Int) = _
      unfold b_S_l12Since_3
      have ha := v3 (n + 1) (by omega)
      have hb := v3 n (by omega)
      have w2 : IntKind.wrap .i64 (((n + 1 : Nat) : Int) + 1) = ((n + 1 + 1 : Nat) : Int) := by rw [wrap64 (by omega) (by omega)]; omega
      have w1 : IntKind.wrap .i64 (((n + 1 : Nat) : Int) - 1) = (n : Int) := by rw [wrap64 (by omega) (by omega)]; omega
      rw [decide_eq_true (by omega : ((n + 1 : Nat) : Int) < (v.length : Int)), cond_true, inB_lt (by omega), cond_true, toNat_cast, room_len (by omega), cond_true, toNat_cast, List.length_replicate, fill_S h (by omega), Option.bind_some]
      dsimp only
      rw [w1, inB_lt (by omega), cond_true, inB_lt (by omega), cond_true, toNat_cast, toNat_cast, next_S (by omega) (by omega), Option.bind_some]
      dsimp only
      rw [stay_S h (by omega) _ (by simp), Option.bind_some]
      dsimp only
      rw [w2]
      rfl)
    (by
      show b_S_l12Since_3 v (sinceP v (v.length - 1)) ((v.length - 1 + 1 : Nat) : Int) = _
      unfold b_S_l12Since_3
      rw [decide_eq_false (by omega : ¬ (((v.length - 1 + 1 : Nat) : Int) < (v.length : Int))), cond_false])
  rw [show w_S_l12Since_3 (v, List.replicate (v.getD 0 []).length (0 : Int), 1, ()) = _ from hloop]
  rfl
end

def sinceR (v : List TXT) : List Int := bif versP v then sinceP v (v.length - 1) else []

theorem sinceOf_I {v : List TXT} (hs : SmV v) : f_I_SinceOf v = some ((sinceR v, versP v, ()), ()) := by
  unfold f_I_SinceOf sinceR
  rw [vers_I hs, Option.bind_some]
  dsimp only
  cases hv : versP v with
  | false => rfl
  | true =>
    obtain ⟨v1, v2, v3⟩ := vers_at hv
    simp only [Bool.not_true, cond_false, cond_true]
    rw [since_I hv, Option.bind_some]
    dsimp only
    rw [show IntKind.wrap .i64 ((v.length : Int) - 1) = ((v.length - 1 : Nat) : Int) from by rw [wrap64 (by omega) (by omega)]; omega, inB_lt (by rw [sinceL_len]; omega), cond_true, toNat_cast, sinceL_at (by omega)]

theorem sinceOf_S {v : List TXT} (hs : SmV v) : f_S_SinceOf v = some ((sinceR v, versP v, ()), ()) := by
  unfold f_S_SinceOf sinceR
  rw [vers_S hs, Option.bind_some]
  dsimp only
  cases hv : versP v with
  | false => rfl
  | true =>
    simp only [Bool.not_true, cond_false, cond_true]
    rw [since_S hv, Option.bind_some]

theorem since_tot (v : List TXT) : tot S_int (sinceR v) ≤ 100 := by
  rw [tot_ints]
  unfold sinceR
  cases h : versP v with
  | false => exact Nat.zero_le _
  | true =>
    obtain ⟨v1, v2, v3⟩ := vers_at h
    rw [cond_true, sinceP_len]
    have := v3 (v.length - 1) (by omega)
    omega

theorem law_SinceOf (t0 : PV S_S_string) (hw : WfV S_S_string t0) : f_L_FnExactSinceOf t0 = some ((true, ()), ()) := by
  unfold f_L_FnExactSinceOf
  rw [p_L_szStringSS t0 1048576 (by omega) (by omega) hw, Option.bind_some]
  by_cases hs : ((tot S_S_string t0 : Nat) : Int) ≤ 1048576
  · rw [szR_pos hs]
    dsimp only
    have hs' : tot S_S_string t0 ≤ 1048576 := by omega
    have hS := SmV.of (v := t0) hs' (by omega)
    have hR := since_tot t0
    have c1 : cn S_S_string t0 ≤ 0 + 1 * tot S_S_string t0 := cn_tot_le (by decide) (by decide)
    have c2 : cn S_int (sinceR t0) ≤ 0 + 1 * tot S_int (sinceR t0) := cn_tot_le (by decide) (by decide)
    have m1 := mk_cn tx S_S_string t0 1
    have m2 := mk_cn tx S_int (sinceR t0) 1
    rw [decide_eq_false (by omega : ¬ ((1048576 : Int) - ((tot S_S_string t0 : Nat) : Int) < 0)), cond_false]
    simp only [p_L_toStringSS t0 hs', sinceOf_S hS, sinceOf_I hS, Option.bind_some, p_L_eqIntS (sinceR t0) (by omega), p_L_eqStringSS t0 (by omega), p_L_markStringSS t0 1 (by omega) (by omega) (by omega), p_L_markIntS (sinceR t0) 1 (by omega) (by omega) (by omega),
      p_L_heldIntS (sinceR t0) 1 (by omega) (by omega) (by omega), decide_eq_false (by omega : ¬ (mk tx S_S_string t0 1).2 < 0), decide_eq_false (by omega : ¬ (mk tx S_int (sinceR t0) 1).2 < 0), beq_self_eq_true, Bool.not_true, cond_false]
  · rw [szR_neg hs]; rfl
end R
