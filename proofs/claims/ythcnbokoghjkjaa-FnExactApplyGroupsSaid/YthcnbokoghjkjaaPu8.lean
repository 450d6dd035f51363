/- The law of groups done. -/
import Derived.Test.YthcnbokoghjkjaaPu7
open Go Go.Dn
namespace R
set_option linter.unusedVariables false

theorem goodP_tot {l : TX} (h : goodP l = true) : tot S_string l ≤ 1240 := by
  have hl := goodP_len h
  unfold goodP linesP at h
  simp only [Bool.and_eq_true, decide_eq_true_eq, Bool.not_eq_true'] at h
  have h2 : ∀ s ∈ l, tot .str s ≤ 30 := fun s hs => by
    rw [tot_str]
    have := List.any_eq_false.1 h.1.2 s hs
    exact (line_len (by simpa using this)).2
  rw [show tot S_string l = l.length + (l.map (tot .str)).sum from tot_slice]
  have h3 : ∀ (l : TX), (∀ s ∈ l, tot .str s ≤ 30) → (l.map (tot .str)).sum ≤ 30 * l.length := by
    intro l
    induction l with
    | nil => intro _; simp
    | cons s l ih =>
      intro h
      have h4 := h s (List.mem_cons_self ..)
      have h5 := ih fun y hy => h y (List.mem_cons_of_mem _ hy)
      simp only [List.map_cons, List.sum_cons, List.length_cons]
      rw [Nat.mul_add]
      omega
  have := h3 l h2
  omega
theorem patchR_tot (l : TX) (h : HK) : tot S_string (patchR l h) ≤ 1240 := by
  unfold patchR
  cases hp : patchOk l h
  · exact Nat.zero_le _
  · unfold patchOk at hp
    simp only [Bool.and_eq_true] at hp
    exact goodP_tot hp.2.2
theorem agR_tot (l : TX) (g : GR) : tot S_string (agR l g) ≤ 1240 := by
  unfold agR
  cases agB l g
  · exact Nat.zero_le _
  · exact patchR_tot _ _

theorem law_ApplyGroups (t0 : PV S_string) (t1 : PV S_laws_Group) (hw : WfV S_string t0) (hw1 : WfV S_laws_Group t1) : f_L_FnExactApplyGroups t0 t1 = some ((true, ()), ()) := by
  unfold f_L_FnExactApplyGroups
  rw [p_L_szStringS t0 1048576 (by omega) (by omega) hw, Option.bind_some]
  by_cases hs : ((tot S_string t0 : Nat) : Int) ≤ 1048576
  · rw [szR_pos hs]
    dsimp only
    rw [decide_eq_false (by omega : ¬ ((1048576 : Int) - ((tot S_string t0 : Nat) : Int) < 0)), cond_false]
    rw [p_L_szGroupS t1 (1048576 - ((tot S_string t0 : Nat) : Int)) (by omega) (by omega) hw1, Option.bind_some]
    by_cases hs1 : ((tot S_laws_Group t1 : Nat) : Int) ≤ 1048576 - ((tot S_string t0 : Nat) : Int)
    · rw [szR_pos hs1]
      dsimp only
      have hs' : tot S_string t0 ≤ 1048576 := by omega
      have hs1' : tot S_laws_Group t1 ≤ 1048576 := by omega
      have hb1 : tot S_impl_Group t1 ≤ 1048576 := hs1'
      have hl : Sm t0 := Sm.of hs' (by omega)
      have hg : SmG t1 := SmG.of (e := 0) hb1
      have hR := agR_tot t0 t1
      have c1 : cn S_string t0 ≤ 0 + 1 * tot S_string t0 := cn_tot_le (by decide) (by decide)
      have c2 : cn S_impl_Group t1 ≤ 0 + 5 * tot S_impl_Group t1 := cn_tot_le (by decide) (by decide)
      have c3 : cn S_string (agR t0 t1) ≤ 0 + 1 * tot S_string (agR t0 t1) := cn_tot_le (by decide) (by decide)
      have m1 := mk_cn tx S_string t0 1
      have m2 := mk_cn tx S_impl_Group t1 (mk tx S_string t0 1).2
      have m3 := mk_cn tx S_string (agR t0 t1) 1
      rw [decide_eq_false (by omega : ¬ ((1048576 : Int) - ((tot S_string t0 : Nat) : Int) - ((tot S_laws_Group t1 : Nat) : Int) < 0)), cond_false]
      simp only [p_L_toStringS t0 hs', p_L_toGroupS t1 hs1', apply_S hl hg, apply_I hl hg, Option.bind_some, p_L_eqStringS (agR t0 t1) (by omega), p_L_eqStringS t0 (by omega), p_L_eqGroupS t1 (by omega), p_L_markStringS t0 1 (by omega) (by omega) (by omega),
        p_L_markGroupS t1 (mk tx S_string t0 1).2 (by omega) (by omega) (by omega), p_L_markStringS (agR t0 t1) 1 (by omega) (by omega) (by omega),
        p_L_heldStringS (agR t0 t1) 1 (by omega) (by omega) (by omega), decide_eq_false (by omega : ¬ (mk tx S_impl_Group t1 (mk tx S_string t0 1).2).2 < 0), decide_eq_false (by omega : ¬ (mk tx S_string (agR t0 t1) 1).2 < 0), beq_self_eq_true, Bool.not_true, cond_false]
    · rw [szR_neg hs1]; rfl
  · rw [szR_neg hs]; rfl
end R
