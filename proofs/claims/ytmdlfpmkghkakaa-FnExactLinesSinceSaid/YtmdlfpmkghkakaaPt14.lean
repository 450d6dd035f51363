/- A line's places from a version on. -/
import Derived.Test.YtmdlfpmkghkakaaPt13
open Go Go.Dn
namespace R
set_option linter.unusedVariables false
set_option linter.unusedSectionVars false

def trF (v : List TXT) : Nat → Nat → Int → List Int → List Int
  | 0, _, _, out => out
  | f + 1, n, k, out => bif decide ((matesP (v.getD n []) (v.getD (n + 1) [])).getD k.toNat 0 < 0) then out
      else trF v f (n + 1) ((matesP (v.getD n []) (v.getD (n + 1) [])).getD k.toNat 0) (out ++ [(matesP (v.getD n []) (v.getD (n + 1) [])).getD k.toNat 0])

theorem trF_len (v : List TXT) : ∀ (f n : Nat) (k : Int) (out : List Int), (trF v f n k out).length ≤ out.length + f
  | 0, _, _, out => Nat.le_refl _
  | f + 1, n, k, out => by
    unfold trF
    cases decide ((matesP (v.getD n []) (v.getD (n + 1) [])).getD k.toNat 0 < 0) with
    | true => rw [cond_true]; omega
    | false => rw [cond_false]; refine Nat.le_trans (trF_len v f _ _ _) (by simp; omega)

section
variable {v : List TXT} (h : versP v = true)
include h

theorem tr_I : ∀ (f n : Nat) (k : Int) (out : List Int), n + f + 1 = v.length → 0 ≤ k → k < ((v.getD n []).length : Int) → out.length + f ≤ 100 → w_I_trace_2 (v, (n : Int), k, out, ()) = some (trF v f n k out, ())
  | 0, n, k, out, hn, hk0, hk1, ho => by
    obtain ⟨v1, v2, v3⟩ := vers_at h
    refine fix_end (B := fun d => b_I_trace_2 d.1 d.2.1 d.2.2.1 d.2.2.2.1) ?_
    show b_I_trace_2 v n k out = _
    unfold b_I_trace_2
    rw [wrap64 (by omega) (by omega), decide_eq_false (by omega : ¬ ((n : Int) + 1 < (v.length : Int))), cond_false]
    rfl
  | f + 1, n, k, out, hn, hk0, hk1, ho => by
    obtain ⟨v1, v2, v3⟩ := vers_at h
    have ha := v3 n (by omega)
    have hb := v3 (n + 1) (by omega)
    obtain ⟨m, rfl⟩ := Int.eq_ofNat_of_zero_le hk0
    have hm : m < (v.getD n []).length := by omega
    have hat := matesP_at (b := v.getD (n + 1) []) hm (d := 0)
    have w1 : IntKind.wrap .i64 ((n : Int) + 1) = ((n + 1 : Nat) : Int) := by rw [wrap64 (by omega) (by omega)]; omega
    have e : b_I_trace_2 v n (m : Int) out = bif decide ((matesP (v.getD n []) (v.getD (n + 1) [])).getD m 0 < 0) then some (.inr (out, ())) else
        some (.inl (v, ((n + 1 : Nat) : Int), (matesP (v.getD n []) (v.getD (n + 1) [])).getD m 0, out ++ [(matesP (v.getD n []) (v.getD (n + 1) [])).getD m 0], ())) := by
      unfold b_I_trace_2
      rw [w1, decide_eq_true (by omega : (((n + 1 : Nat) : Int) < (v.length : Int))), cond_true, inB_lt (by omega), cond_true, inB_lt (by omega), cond_true, toNat_cast, toNat_cast, mates_I (by omega) (by omega), Option.bind_some]
      dsimp only
      rw [inB_lt (by rw [matesP_len]; exact hm), cond_true, toNat_cast, roomB_ok (by simp; omega), cond_true]
    unfold trF
    rw [toNat_cast]
    cases hd : decide ((matesP (v.getD n []) (v.getD (n + 1) [])).getD m 0 < 0) with
    | true =>
      rw [hd] at e
      exact fix_end (B := fun d => b_I_trace_2 d.1 d.2.1 d.2.2.1 d.2.2.2.1) e
    | false =>
      rw [hd] at e
      have hd := of_decide_eq_false hd
      refine Eq.trans (fix_go (B := fun d => b_I_trace_2 d.1 d.2.1 d.2.2.1 d.2.2.2.1) e) ?_
      exact tr_I f (n + 1) _ _ (by omega) (by omega) (by omega) (by simp; omega)

theorem tr_S : ∀ (f n : Nat) (k : Int) (out : List Int), n + f + 1 = v.length → 0 ≤ k → k < ((v.getD n []).length : Int) → out.length + f ≤ 100 → w_S_TraceLine_5 (v, k, out, (n : Int), ()) = some (trF v f n k out, ())
  | 0, n, k, out, hn, hk0, hk1, ho => by
    obtain ⟨v1, v2, v3⟩ := vers_at h
    refine fix_end (B := fun d => b_S_TraceLine_5 d.1 d.2.1 d.2.2.1 d.2.2.2.1) ?_
    show b_S_TraceLine_5 v k out n = _
    unfold b_S_TraceLine_5
    rw [wrap64 (by omega) (by omega), decide_eq_false (by omega : ¬ ((n : Int) < (v.length : Int) - 1)), cond_false]
    rfl
  | f + 1, n, k, out, hn, hk0, hk1, ho => by
    obtain ⟨v1, v2, v3⟩ := vers_at h
    have ha := v3 n (by omega)
    have hb := v3 (n + 1) (by omega)
    obtain ⟨m, rfl⟩ := Int.eq_ofNat_of_zero_le hk0
    have hm : m < (v.getD n []).length := by omega
    have hat := matesP_at (b := v.getD (n + 1) []) hm (d := 0)
    have w1 : IntKind.wrap .i64 ((n : Int) + 1) = ((n + 1 : Nat) : Int) := by rw [wrap64 (by omega) (by omega)]; omega
    have w2 : IntKind.wrap .i64 ((v.length : Int) - 1) = (v.length : Int) - 1 := wrap64 (by omega) (by omega)
    have e : b_S_TraceLine_5 v (m : Int) out n = bif decide ((matesP (v.getD n []) (v.getD (n + 1) [])).getD m 0 < 0) then some (.inr (out, ())) else
        some (.inl (v, (matesP (v.getD n []) (v.getD (n + 1) [])).getD m 0, out ++ [(matesP (v.getD n []) (v.getD (n + 1) [])).getD m 0], ((n + 1 : Nat) : Int), ())) := by
      unfold b_S_TraceLine_5
      rw [w1, w2, decide_eq_true (by omega : ((n : Int) < (v.length : Int) - 1)), cond_true, inB_lt (by omega), cond_true, inB_lt (by omega), cond_true, toNat_cast, toNat_cast, next_S (by omega) (by omega), Option.bind_some]
      dsimp only
      rw [inB_lt (by rw [matesP_len]; exact hm), cond_true, toNat_cast, roomB_ok (by simp; omega), cond_true]
    unfold trF
    rw [toNat_cast]
    cases hd : decide ((matesP (v.getD n []) (v.getD (n + 1) [])).getD m 0 < 0) with
    | true =>
      rw [hd] at e
      exact fix_end (B := fun d => b_S_TraceLine_5 d.1 d.2.1 d.2.2.1 d.2.2.2.1) e
    | false =>
      rw [hd] at e
      have hd := of_decide_eq_false hd
      refine Eq.trans (fix_go (B := fun d => b_S_TraceLine_5 d.1 d.2.1 d.2.2.1 d.2.2.2.1) e) ?_
      exact tr_S f (n + 1) _ _ (by omega) (by omega) (by omega) (by simp; omega)
end

def okT (v : List TXT) (x y : Int) : Bool := versP v && (inI x 0 ((v.length : Int) - 1) && inI y 0 (((v.getD x.toNat []).length : Int) - 1))
def traceR (v : List TXT) (x y : Int) : List Int := bif okT v x y then trF v (v.length - 1 - x.toNat) x.toNat y [y] else []

theorem okT_at {v : List TXT} {x y : Int} (h : okT v x y = true) : versP v = true ∧ (0 ≤ x ∧ x < v.length) ∧ (0 ≤ y ∧ y < ((v.getD x.toNat []).length : Int)) := by
  unfold okT inI at h
  simp only [Bool.and_eq_true, decide_eq_true_eq] at h
  exact ⟨h.1, by omega, by omega⟩

theorem trace_I {v : List TXT} (hs : SmV v) (x y : Int) : f_I_TraceLine v x y = some ((traceR v x y, okT v x y, ()), ()) := by
  unfold f_I_TraceLine traceR
  rw [vers_I hs, Option.bind_some]
  dsimp only
  cases hv : versP v with
  | false =>
    have : okT v x y = false := by unfold okT; rw [hv]; rfl
    rw [this]; rfl
  | true =>
    obtain ⟨v1, v2, v3⟩ := vers_at hv
    simp only [Bool.not_true, cond_false]
    rw [in_I, Option.bind_some, wrap64 (by omega) (by omega)]
    dsimp only
    change Option.bind (bif !inI x 0 ((v.length : Int) - 1) then _ else _) _ = _
    cases hx : inI x 0 ((v.length : Int) - 1) with
    | false =>
      have : okT v x y = false := by unfold okT; rw [hv, hx]; rfl
      rw [this]; rfl
    | true =>
      have hx' : 0 ≤ x ∧ x < v.length := by unfold inI at hx; simp only [Bool.and_eq_true, decide_eq_true_eq] at hx; omega
      obtain ⟨n, rfl⟩ := Int.eq_ofNat_of_zero_le hx'.1
      have ha := v3 n (by omega)
      simp only [Bool.not_true, cond_false]
      rw [inB_lt (by omega), cond_true, toNat_cast, in_I, wrap64 (by omega) (by omega), Option.bind_some, Option.bind_some]
      dsimp only
      have e : okT v (n : Int) y = inI y 0 (((v.getD n []).length : Int) - 1) := by unfold okT; rw [hv, hx, toNat_cast]; rfl
      rw [e]
      change (bif !inI y 0 (((v.getD n []).length : Int) - 1) then _ else _) = _
      cases hy : inI y 0 (((v.getD n []).length : Int) - 1) with
      | false => rfl
      | true =>
        obtain ⟨_, _, y1, y2⟩ := okT_at (e.trans hy)
        rw [toNat_cast] at y2
        simp only [Bool.not_true, cond_false, cond_true]
        unfold f_I_trace
        rw [tr_I hv (v.length - 1 - n) n y [y] (by omega) y1 y2 (by simp; omega)]
        rfl

theorem trace_S {v : List TXT} (hs : SmV v) (x y : Int) : f_S_TraceLine v x y = some ((traceR v x y, okT v x y, ()), ()) := by
  unfold f_S_TraceLine traceR
  rw [vers_S hs, Option.bind_some]
  dsimp only
  cases hv : versP v with
  | false =>
    have : okT v x y = false := by unfold okT; rw [hv]; rfl
    rw [this]; rfl
  | true =>
    obtain ⟨v1, v2, v3⟩ := vers_at hv
    simp only [Bool.not_true, cond_false]
    rw [in_S, Option.bind_some, wrap64 (by omega) (by omega)]
    dsimp only
    change Option.bind (bif !inI x 0 ((v.length : Int) - 1) then _ else _) _ = _
    cases hx : inI x 0 ((v.length : Int) - 1) with
    | false =>
      have : okT v x y = false := by unfold okT; rw [hv, hx]; rfl
      rw [this]; rfl
    | true =>
      have hx' : 0 ≤ x ∧ x < v.length := by unfold inI at hx; simp only [Bool.and_eq_true, decide_eq_true_eq] at hx; omega
      obtain ⟨n, rfl⟩ := Int.eq_ofNat_of_zero_le hx'.1
      have ha := v3 n (by omega)
      simp only [Bool.not_true, cond_false]
      rw [inB_lt (by omega), cond_true, toNat_cast, in_S, wrap64 (by omega) (by omega), Option.bind_some, Option.bind_some]
      dsimp only
      have e : okT v (n : Int) y = inI y 0 (((v.getD n []).length : Int) - 1) := by unfold okT; rw [hv, hx, toNat_cast]; rfl
      rw [e]
      change (bif !inI y 0 (((v.getD n []).length : Int) - 1) then _ else _) = _
      cases hy : inI y 0 (((v.getD n []).length : Int) - 1) with
      | false => rfl
      | true =>
        obtain ⟨_, _, y1, y2⟩ := okT_at (e.trans hy)
        rw [toNat_cast] at y2
        simp only [Bool.not_true, cond_false, cond_true]
        rw [tr_S hv (v.length - 1 - n) n y [y] (by omega) y1 y2 (by simp; omega)]
        rfl

theorem tot_ints (l : List Int) : tot S_int l = l.length := by
  rw [show tot S_int l = l.length + (l.map (tot (.int .i64))).sum from tot_slice]
  have : (l.map (tot (.int .i64))).sum = 0 := sum_zero (fun x => by simp only [tot])
  omega

theorem trace_tot (v : List TXT) (x y : Int) : tot S_int (traceR v x y) ≤ 100 := by
  rw [tot_ints]
  unfold traceR
  cases h : okT v x y with
  | false => exact Nat.zero_le _
  | true =>
    obtain ⟨h1, _⟩ := okT_at h
    obtain ⟨v1, v2, v3⟩ := vers_at h1
    rw [cond_true]
    refine Nat.le_trans (trF_len v _ _ _ _) (by simp; omega)

theorem law_TraceLine (t0 : PV S_S_string) (t1 t2 : PV (.int .i64)) (hw : WfV S_S_string t0) (_ : WfV (.int .i64) t1) (_ : WfV (.int .i64) t2) : f_L_FnExactTraceLine t0 t1 t2 = some ((true, ()), ()) := by
  unfold f_L_FnExactTraceLine
  rw [p_L_szStringSS t0 1048576 (by omega) (by omega) hw, Option.bind_some]
  by_cases hs : ((tot S_S_string t0 : Nat) : Int) ≤ 1048576
  · rw [szR_pos hs]
    dsimp only
    have hs' : tot S_S_string t0 ≤ 1048576 := by omega
    have hS := SmV.of (v := t0) hs' (by omega)
    have hR := trace_tot t0 t1 t2
    have c1 : cn S_S_string t0 ≤ 0 + 1 * tot S_S_string t0 := cn_tot_le (by decide) (by decide)
    have c2 : cn S_int (traceR t0 t1 t2) ≤ 0 + 1 * tot S_int (traceR t0 t1 t2) := cn_tot_le (by decide) (by decide)
    have m1 := mk_cn tx S_S_string t0 1
    have m2 := mk_cn tx S_int (traceR t0 t1 t2) 1
    rw [decide_eq_false (by omega : ¬ ((1048576 : Int) - ((tot S_S_string t0 : Nat) : Int) < 0)), cond_false]
    simp only [p_L_toStringSS t0 hs', trace_S hS, trace_I hS, Option.bind_some, p_L_eqIntS (traceR t0 t1 t2) (by omega), p_L_eqStringSS t0 (by omega), p_L_markStringSS t0 1 (by omega) (by omega) (by omega), p_L_markIntS (traceR t0 t1 t2) 1 (by omega) (by omega) (by omega),
      p_L_heldIntS (traceR t0 t1 t2) 1 (by omega) (by omega) (by omega), decide_eq_false (by omega : ¬ (mk tx S_S_string t0 1).2 < 0), decide_eq_false (by omega : ¬ (mk tx S_int (traceR t0 t1 t2) 1).2 < 0), beq_self_eq_true, Bool.not_true, cond_false]
  · rw [szR_neg hs]; rfl
end R
