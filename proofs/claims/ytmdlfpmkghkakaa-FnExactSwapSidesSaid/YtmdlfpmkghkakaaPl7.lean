/- Parts: tests and changing sides. -/
import Derived.Test.YtmdlfpmkghkakaaPl1
import Derived.Test.YtmdlfpmkghkakaaGd
open Go Go.Dn
namespace R
set_option linter.unusedVariables false

def badPt (x : PV Y_impl_Part) : Bool := !(decide (x.1 ≥ 1) && decide (x.1 ≤ 5))
def fewP (t0 : List (PV Y_impl_Part)) : Bool := decide (t0.length ≤ 120) && !(t0.any badPt)

theorem few_S (t0 : List (PV Y_impl_Part)) (hl : t0.length ≤ 4611686018427387904) : f_S_l11Few t0 = some ((fewP t0, ()), ()) := by
  unfold f_S_l11Few
  rw [show w_S_l11Few_2 (t0, t0, (t0.length : Int), 0, ()) = _ from fix_any (B := fun d => b_S_l11Few_2 d.1 d.2.1 d.2.2.1 d.2.2.2.1) t0 badPt (fun i => (t0, t0, (t0.length : Int), (i : Int), ())) (fun _ => .inr (false, ())) (.inl (t0, ()))
    (fun i hi hq => by
      show b_S_l11Few_2 t0 t0 t0.length i = _
      unfold b_S_l11Few_2
      rw [decide_eq_true (by omega : (i : Int) < (t0.length : Int)), cond_true, inB_lt hi, cond_true, toNat_cast, getD_of hi, in_S, Option.bind_some]
      unfold badPt at hq
      rw [hq, cond_false, wrap64 (by omega) (by omega)]; rfl)
    (fun i hi hq => by
      show b_S_l11Few_2 t0 t0 t0.length i = _
      unfold b_S_l11Few_2
      rw [decide_eq_true (by omega : (i : Int) < (t0.length : Int)), cond_true, inB_lt hi, cond_true, toNat_cast, getD_of hi, in_S, Option.bind_some]
      unfold badPt at hq
      rw [hq, cond_true])
    (by
      show b_S_l11Few_2 t0 t0 t0.length t0.length = _
      unfold b_S_l11Few_2
      rw [decide_eq_false (Int.lt_irrefl _), cond_false])]
  unfold fewP
  cases h : t0.any badPt
  · simp only [Bool.false_eq_true, if_false, Option.bind_some, Bool.not_false, Bool.and_true]
    congr 3
    simp
    omega
  · simp

theorem few_I (t0 : List (PV Y_impl_Part)) : f_I_areParts t0 = some ((fewP t0, ()), ()) := by
  unfold f_I_areParts fewP
  by_cases hl : t0.length ≤ 120
  · rw [decide_eq_true (by omega : (t0.length : Int) ≤ 120), cond_true, decide_eq_true hl, Bool.true_and]
    rw [show w_I_areParts_145_2 (t0, false, t0, (t0.length : Int), true, true, t0, t0, false, t0, t0, (t0.length : Int), 0, ()) = _ from
      fix_any (B := fun d => b_I_areParts_145_2 d.1 d.2.1 d.2.2.1 d.2.2.2.1 d.2.2.2.2.1 d.2.2.2.2.2.1 d.2.2.2.2.2.2.1 d.2.2.2.2.2.2.2.1 d.2.2.2.2.2.2.2.2.1 d.2.2.2.2.2.2.2.2.2.1 d.2.2.2.2.2.2.2.2.2.2.1 d.2.2.2.2.2.2.2.2.2.2.2.1 d.2.2.2.2.2.2.2.2.2.2.2.2.1) t0 badPt
      (fun i => (t0, false, t0, (t0.length : Int), true, true, t0, t0, false, t0, t0, (t0.length : Int), (i : Int), ())) (fun i => .inr (t0, false, t0, (t0.length : Int), true, true, t0, t0, false, t0, (i : Int), ())) (.inl (t0, false, t0, (t0.length : Int), true, true, t0, t0, false, t0, ()))
      (fun i hi hq => by
        show b_I_areParts_145_2 _ _ _ _ _ _ _ _ _ _ t0 t0.length i = _
        unfold b_I_areParts_145_2 f_I_areParts_1
        rw [decide_eq_true (by omega : (i : Int) < (t0.length : Int)), cond_true, inB_lt hi, cond_true, toNat_cast, getD_of hi, in_I, Option.bind_some, Option.bind_some]
        unfold badPt at hq
        rw [hq, cond_false, wrap64 (by omega) (by omega)]; rfl)
      (fun i hi hq => by
        show b_I_areParts_145_2 _ _ _ _ _ _ _ _ _ _ t0 t0.length i = _
        unfold b_I_areParts_145_2 f_I_areParts_1
        rw [decide_eq_true (by omega : (i : Int) < (t0.length : Int)), cond_true, inB_lt hi, cond_true, toNat_cast, getD_of hi, in_I, Option.bind_some, Option.bind_some]
        unfold badPt at hq
        rw [hq, cond_true])
      (by
        show b_I_areParts_145_2 _ _ _ _ _ _ _ _ _ _ t0 t0.length t0.length = _
        unfold b_I_areParts_145_2
        rw [decide_eq_false (Int.lt_irrefl _), cond_false])]
    cases h : t0.any badPt
    · rfl
    · simp
  · rw [decide_eq_false (by omega : ¬ (t0.length : Int) ≤ 120), cond_false, decide_eq_false hl]; rfl

def kindX (k : Int) : Int := bif k == 2 then 3 else bif k == 3 then 2 else k
def swapX (x : PV Y_impl_Part) : PV Y_impl_Part := (kindX x.1, x.2.1, x.2.2.1, x.2.2.2.2.1, x.2.2.2.1, ())
def swapR (t0 : List (PV Y_impl_Part)) : List (PV Y_impl_Part) := bif fewP t0 then t0.map swapX else []

theorem own_S (l : List (List UInt8)) (h : l.length ≤ 1099511627776) : f_S_l1OwnT l = some ((l, ()), ()) := by
  unfold f_S_l1OwnT
  rw [roomB_ok (by simpa using h)]
  rfl
theorem own_I (l : List (List UInt8)) (h : l.length ≤ 1099511627776) : f_slices_Clone_string l = some ((l, ()), ()) := by
  unfold f_slices_Clone_string
  rw [roomB_ok (by simpa using h)]
  rfl

theorem take_map_next {α β : Type} (f : α → β) {l : List α} {i : Nat} (hi : i < l.length) : (l.take i).map f ++ [f l[i]] = (l.take (i + 1)).map f := by
  rw [← List.take_append_getElem hi, List.map_append]
  rfl

def SmP (t0 : List (PV Y_impl_Part)) : Prop := t0.length ≤ 1048576 ∧ ∀ x ∈ t0, List.length x.2.2.2.1 ≤ 1048576 ∧ List.length x.2.2.2.2.1 ≤ 1048576

theorem loop_I {t0 : List (PV Y_impl_Part)} (hs : SmP t0) : w_I_SwapSides_5 (([] : List (PV Y_impl_Part)), t0, (t0.length : Int), 0, ()) = some (t0.map swapX, ()) := by
  have hl := hs.1
  have := fix_all (B := fun d => b_I_SwapSides_5 d.1 d.2.1 d.2.2.1 d.2.2.2.1) (fun i => ((t0.take i).map swapX, t0, (t0.length : Int), (i : Int), ())) t0.length (r := (t0.map swapX, ()))
    (fun i hi => by
      show b_I_SwapSides_5 ((t0.take i).map swapX) t0 t0.length i = _
      obtain ⟨h1, h2⟩ := hs.2 _ (List.getElem_mem hi)
      unfold b_I_SwapSides_5
      rw [decide_eq_true (by omega : (i : Int) < (t0.length : Int)), cond_true, inB_lt hi, cond_true, toNat_cast, getD_of hi]
      have hb : ((bif (t0[i].1 == 2) then some ((t0.take i).map swapX, (3, t0[i].2), t0, (t0.length : Int), (i : Int), ()) else bif (t0[i].1 == 3) then some ((t0.take i).map swapX, (2, t0[i].2), t0, (t0.length : Int), (i : Int), ()) else some ((t0.take i).map swapX, t0[i], t0, (t0.length : Int), (i : Int), ())) :
          Option ((PV S_impl_Part × PV Y_impl_Part × PV S_impl_Part × PV (.int .i64) × PV (.int .i64) × Unit))) = some ((t0.take i).map swapX, (kindX t0[i].1, t0[i].2), t0, (t0.length : Int), (i : Int), ()) := by
        unfold kindX
        cases (t0[i].1 == 2) <;> cases (t0[i].1 == 3) <;> rfl
      rw [hb, Option.bind_some]
      dsimp only
      rw [own_I _ (by omega), Option.bind_some, own_I _ (by omega), Option.bind_some]
      dsimp only
      rw [roomB_ok (by simp; omega), cond_true, wrap64 (by omega) (by omega), ← take_map_next swapX hi]
      rfl)
    (by
      show b_I_SwapSides_5 _ t0 t0.length t0.length = _
      unfold b_I_SwapSides_5
      rw [decide_eq_false (Int.lt_irrefl _), cond_false, List.take_length])
  exact this

theorem loop_S {t0 : List (PV Y_impl_Part)} (hs : SmP t0) : w_S_SwapSides_5 (([] : List (PV Y_impl_Part)), t0, (t0.length : Int), 0, ()) = some (t0.map swapX, ()) := by
  have hl := hs.1
  have := fix_all (B := fun d => b_S_SwapSides_5 d.1 d.2.1 d.2.2.1 d.2.2.2.1) (fun i => ((t0.take i).map swapX, t0, (t0.length : Int), (i : Int), ())) t0.length (r := (t0.map swapX, ()))
    (fun i hi => by
      show b_S_SwapSides_5 ((t0.take i).map swapX) t0 t0.length i = _
      obtain ⟨h1, h2⟩ := hs.2 _ (List.getElem_mem hi)
      unfold b_S_SwapSides_5
      rw [decide_eq_true (by omega : (i : Int) < (t0.length : Int)), cond_true, inB_lt hi, cond_true, toNat_cast, getD_of hi, own_S _ (by omega), Option.bind_some, own_S _ (by omega), Option.bind_some]
      dsimp only
      have hb : ∀ y : PV Y_impl_Part, y = t0[i] → ((bif (y.1 == 2) then some ((t0.take i).map swapX, (3, (y.2.1, (y.2.2.1, (y.2.2.2.2.1, (y.2.2.2.1, ()))))), t0, (t0.length : Int), (i : Int), ()) else bif (y.1 == 3) then some ((t0.take i).map swapX, (2, (y.2.1, (y.2.2.1, (y.2.2.2.2.1, (y.2.2.2.1, ()))))), t0, (t0.length : Int), (i : Int), ()) else some ((t0.take i).map swapX, (y.1, (y.2.1, (y.2.2.1, (y.2.2.2.2.1, (y.2.2.2.1, ()))))), t0, (t0.length : Int), (i : Int), ())) :
          Option ((PV S_impl_Part × PV Y_impl_Part × PV S_impl_Part × PV (.int .i64) × PV (.int .i64) × Unit))) = some ((t0.take i).map swapX, swapX y, t0, (t0.length : Int), (i : Int), ()) := by
        intro y _
        unfold swapX kindX
        cases (y.1 == 2) <;> cases (y.1 == 3) <;> rfl
      rw [hb _ rfl, Option.bind_some]
      dsimp only
      rw [roomB_ok (by simp; omega), cond_true, wrap64 (by omega) (by omega), ← take_map_next swapX hi]
      rfl)
    (by
      show b_S_SwapSides_5 _ t0 t0.length t0.length = _
      unfold b_S_SwapSides_5
      rw [decide_eq_false (Int.lt_irrefl _), cond_false, List.take_length])
  exact this

theorem swap_I {t0 : List (PV Y_impl_Part)} (hs : SmP t0) : f_I_SwapSides t0 = some ((swapR t0, fewP t0, ()), ()) := by
  unfold f_I_SwapSides swapR
  rw [few_I, Option.bind_some, show w_I_SwapSides_5 (([] : List (PV Y_impl_Part)), t0, (t0.length : Int), 0, ()) = _ from loop_I hs]
  cases fewP t0 <;> rfl
theorem swap_S {t0 : List (PV Y_impl_Part)} (hs : SmP t0) : f_S_SwapSides t0 = some ((swapR t0, fewP t0, ()), ()) := by
  unfold f_S_SwapSides swapR
  rw [few_S t0 (Nat.le_trans hs.1 (by omega)), Option.bind_some, show w_S_SwapSides_5 (([] : List (PV Y_impl_Part)), t0, (t0.length : Int), 0, ()) = _ from loop_S hs]
  cases fewP t0 <;> rfl

theorem swap_tot (t0 : List (PV Y_impl_Part)) : tot S_impl_Part (swapR t0) ≤ tot S_impl_Part t0 := by
  unfold swapR
  cases fewP t0
  · exact Nat.zero_le _
  · rw [cond_true]
    rw [show tot S_impl_Part (t0.map swapX) = (t0.map swapX).length + ((t0.map swapX).map (tot Y_impl_Part)).sum from tot_slice, show tot S_impl_Part t0 = t0.length + (t0.map (tot Y_impl_Part)).sum from tot_slice, List.map_map, List.length_map]
    have : t0.map (tot Y_impl_Part ∘ swapX) = t0.map (tot Y_impl_Part) := List.map_congr_left fun x _ => by
      simp only [Function.comp, swapX, tot]
      omega
    rw [this]
    exact Nat.le_refl _

theorem SmP.of {t0 : List (PV Y_impl_Part)} {e : TypeId} (h : tot (.slice e Y_impl_Part) t0 ≤ 1048576) : SmP t0 := by
  refine ⟨Nat.le_trans (Nat.le_add_right _ _) (tot_slice ▸ h), fun x hx => ?_⟩
  have := tot_all h x hx
  simp only [tot] at this
  omega

theorem law_SwapSides (t0 : PV S_laws_Part) (hw : WfV S_laws_Part t0) : f_L_FnExactSwapSides t0 = some ((true, ()), ()) := by
  unfold f_L_FnExactSwapSides
  rw [p_L_szPartS t0 1048576 (by omega) (by omega) hw, Option.bind_some]
  by_cases hs : ((tot S_laws_Part t0 : Nat) : Int) ≤ 1048576
  · rw [szR_pos hs]
    dsimp only
    have hs' : tot S_laws_Part t0 ≤ 1048576 := by omega
    have hb : tot S_impl_Part t0 ≤ 1048576 := hs'
    have hS := SmP.of (t0 := t0) hs'
    have hR : tot S_impl_Part (swapR t0) ≤ 1048576 := Nat.le_trans (swap_tot t0) hb
    have c1 : cn S_impl_Part t0 ≤ 0 + 5 * tot S_impl_Part t0 := cn_tot_le (by decide) (by decide)
    have c2 : cn S_impl_Part (swapR t0) ≤ 0 + 5 * tot S_impl_Part (swapR t0) := cn_tot_le (by decide) (by decide)
    have m1 := mk_cn tx S_impl_Part t0 1
    have m2 := mk_cn tx S_impl_Part (swapR t0) 1
    rw [decide_eq_false (by omega : ¬ ((1048576 : Int) - ((tot S_laws_Part t0 : Nat) : Int) < 0)), cond_false]
    simp only [p_L_toPartS t0 hs', swap_S hS, swap_I hS, Option.bind_some, p_L_eqPartS (swapR t0) (by omega), p_L_eqPartS t0 (by omega), p_L_markPartS t0 1 (by omega) (by omega) (by omega), p_L_markPartS (swapR t0) 1 (by omega) (by omega) (by omega),
      p_L_heldPartS (swapR t0) 1 (by omega) (by omega) (by omega), decide_eq_false (by omega : ¬ (mk tx S_impl_Part t0 1).2 < 0), decide_eq_false (by omega : ¬ (mk tx S_impl_Part (swapR t0) 1).2 < 0), beq_self_eq_true, Bool.not_true, cond_false]
  · rw [szR_neg hs]; rfl
end R
