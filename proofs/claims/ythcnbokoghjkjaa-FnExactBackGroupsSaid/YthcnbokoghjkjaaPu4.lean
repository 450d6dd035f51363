/- The law of groups that lead back. -/
import Derived.Test.YthcnbokoghjkjaaPu3
open Go Go.Dn
namespace R
set_option linter.unusedVariables false

def totR (l : RW) : Nat := l.length + (l.map (tot Y_impl_Row)).sum
theorem totR_app (a b : RW) : totR (a ++ b) = totR a + totR b := by
  unfold totR
  rw [List.length_append, List.map_append, List.sum_append]
  omega
theorem totR_one (k : Int) (s : List UInt8) : totR [((k, (s, ())) : PV Y_impl_Row)] = 1 + s.length := by
  unfold totR
  simp [tot]
theorem bk_tot (rows : RW) : totR (bkL rows) = totR rows := by
  have : ∀ (l : RW) (a : RW × RW), totR (l.foldl bkStep a).1 + totR (l.foldl bkStep a).2 = totR a.1 + totR a.2 + totR l := by
    intro l
    induction l with
    | nil => intro a; rfl
    | cons r l ih =>
      intro a
      obtain ⟨k, s, u⟩ := r
      rw [List.foldl_cons, ih, show ((k, s, u) : PV Y_impl_Row) :: l = [((k, (s, ())) : PV Y_impl_Row)] ++ l from rfl, totR_app, totR_one]
      have e1 : ∀ (x : RW) (k : Int), totR (x ++ [((k, (s, ())) : PV Y_impl_Row)]) = totR x + (1 + s.length) := fun x k => (totR_app _ _).trans (by rw [totR_one])
      have e2 : totR (a.1 ++ a.2) = totR a.1 + totR a.2 := totR_app _ _
      have e3 : totR [] = 0 := rfl
      unfold bkStep
      dsimp only
      cases k == 2
      · cases k == 3
        · have := e1 (a.1 ++ a.2) k
          show totR ((a.1 ++ a.2) ++ [((k, (s, ())) : PV Y_impl_Row)]) + totR [] + totR l = _
          omega
        · have := e1 a.1 2
          show totR (a.1 ++ [((2, (s, ())) : PV Y_impl_Row)]) + totR a.2 + totR l = _
          omega
      · have := e1 a.2 3
        show totR a.1 + totR (a.2 ++ [((3, (s, ())) : PV Y_impl_Row)]) + totR l = _
        omega
  unfold bkL
  rw [totR_app, this]
  simp [totR]
theorem tot_rows (rows : RW) : tot S_impl_Row rows = totR rows := tot_slice
theorem bkR_tot (g : GR) : tot S_impl_Group (bkR g) ≤ tot S_impl_Group g := by
  unfold bkR
  cases goodGs g
  · exact Nat.zero_le _
  · rw [cond_true, show tot S_impl_Group (g.map bkG) = _ from tot_slice, show tot S_impl_Group g = _ from tot_slice, List.length_map, List.map_map]
    have : (tot Y_impl_Group ∘ bkG) = tot Y_impl_Group := by
      funext x
      have h1 := bk_tot x.2.2.1
      have e1 : tot Y_impl_Group (bkG x) = 0 + (0 + (tot S_impl_Row (bkL x.2.2.1) + 0)) := rfl
      have e2 : tot Y_impl_Group x = 0 + (0 + (tot S_impl_Row x.2.2.1 + 0)) := rfl
      show tot Y_impl_Group (bkG x) = tot Y_impl_Group x
      rw [e1, e2, tot_rows, tot_rows, h1]
    rw [this]
    exact Nat.le_refl _

theorem law_BackGroups (t0 : PV S_laws_Group) (hw : WfV S_laws_Group t0) : f_L_FnExactBackGroups t0 = some ((true, ()), ()) := by
  unfold f_L_FnExactBackGroups
  rw [p_L_szGroupS t0 1048576 (by omega) (by omega) hw, Option.bind_some]
  by_cases hs : ((tot S_laws_Group t0 : Nat) : Int) ≤ 1048576
  · rw [szR_pos hs]
    dsimp only
    have hs' : tot S_laws_Group t0 ≤ 1048576 := by omega
    have hb : tot S_impl_Group t0 ≤ 1048576 := hs'
    have hS : SmG t0 := SmG.of (e := 0) hb
    have hR := bkR_tot t0
    have c1 : cn S_impl_Group t0 ≤ 0 + 5 * tot S_impl_Group t0 := cn_tot_le (by decide) (by decide)
    have c2 : cn S_impl_Group (bkR t0) ≤ 0 + 5 * tot S_impl_Group (bkR t0) := cn_tot_le (by decide) (by decide)
    have m1 := mk_cn tx S_impl_Group t0 1
    have m2 := mk_cn tx S_impl_Group (bkR t0) 1
    rw [decide_eq_false (by omega : ¬ ((1048576 : Int) - ((tot S_laws_Group t0 : Nat) : Int) < 0)), cond_false]
    simp only [p_L_toGroupS t0 hs', backGroups_S hS, backGroups_I hS, Option.bind_some, p_L_eqGroupS (bkR t0) (by omega), p_L_eqGroupS t0 (by omega), p_L_markGroupS t0 1 (by omega) (by omega) (by omega), p_L_markGroupS (bkR t0) 1 (by omega) (by omega) (by omega),
      p_L_heldGroupS (bkR t0) 1 (by omega) (by omega) (by omega), decide_eq_false (by omega : ¬ (mk tx S_impl_Group t0 1).2 < 0), decide_eq_false (by omega : ¬ (mk tx S_impl_Group (bkR t0) 1).2 < 0), beq_self_eq_true, Bool.not_true, cond_false]
  · rw [szR_neg hs]; rfl
end R
