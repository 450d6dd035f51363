/- Plain laws of the law's helpers. -/
import Derived.Test.YtegfhigkmghmjaaDoorPaD
import Derived.Test.YtegfhigkmghmjaaDoorGd
open Go Go.Dn
namespace R
set_option linter.unusedVariables false
theorem p_L_szRow (t0 : PV Y_impl_Row) (L : Int) (h0 : 0 ≤ L) (h1 : L ≤ 1048576) (hw : WfV Y_impl_Row t0) : f_L_szRow t0 L = some ((szR (tot Y_impl_Row t0) L, ()), ()) := by
  unfold f_L_szRow
  have q1 : (t0.2.1).length ≤ 9223372036854775807 := hw.2.1
  rw [wrap64 (x := L - ((t0.2.1).length : Int)) (by omega) (by omega)]
  by_cases c1 : (((t0.2.1).length : Nat) : Int) ≤ L
  · (try dsimp only); rw [decide_eq_false (by omega : ¬ (L - (((t0.2.1).length : Nat) : Int) < 0)), cond_false]
    rw [szR_pos (by simp only [tot] at *; omega)]
    refine congrArg (fun (z : Int) => some ((z, ()), ())) ?_
    simp only [tot] at *; omega
  · rw [decide_eq_true (by omega : L - (((t0.2.1).length : Nat) : Int) < 0), cond_true, szR_neg (by simp only [tot] at *; omega)]

theorem p_L_szRowS (t0 : PV S_laws_Row) (L : Int) (h0 : 0 ≤ L) (h1 : L ≤ 1048576) (hw : WfV S_laws_Row t0) : f_L_szRowS t0 L = some ((szR (tot S_laws_Row t0) L, ()), ()) := by
  have hl : List.length t0 ≤ 9223372036854775807 := hw.1
  unfold f_L_szRowS
  rw [wrap64 (by omega) (by omega)]
  by_cases hc : (t0.length : Int) ≤ L
  · rw [decide_eq_false (by omega : ¬ (L - (t0.length : Int) < 0)), cond_false, show w_L_szRowS_5 (t0, L - (t0.length : Int), 0, ()) = _ from sz_loop (T := Y_impl_Row) (xs := t0) (B := fun d => b_L_szRowS_5 d.1 d.2.1 d.2.2.1) (fun i hi l g0 g1 => by
      show b_L_szRowS_5 t0 l i = _
      generalize hxs : t0 = xs at *
      have hi' : (i : Int) < (xs.length : Int) := by omega
      unfold b_L_szRowS_5
      rw [decide_eq_true hi', cond_true, inB_lt hi, cond_true, toNat_cast, getD_of hi]
      rw [p_L_szRow _ l g0 g1 (hw.2 _ (List.getElem_mem hi)), Option.bind_some, wrap64 (x := (i : Int) + 1) (by omega) (by omega)]
      by_cases hq : ((tot Y_impl_Row xs[i] : Nat) : Int) ≤ l
      · rw [if_pos hq, szR_pos hq]; dsimp only; rw [decide_eq_false (by omega : ¬ (l - ((tot Y_impl_Row xs[i] : Nat) : Int) < 0)), cond_false]
      · rw [if_neg hq, szR_neg hq]; rfl) (fun l => by
      show b_L_szRowS_5 t0 l t0.length = _
      unfold b_L_szRowS_5
      rw [decide_eq_false (Int.lt_irrefl _), cond_false]) (by omega) (by omega)]
    exact sz_out hc tot_slice
  · rw [decide_eq_true (by omega : L - (t0.length : Int) < 0), cond_true, szR_neg (by rw [tot_slice]; omega)]

theorem p_L_szGroup (t0 : PV Y_laws_Group) (L : Int) (h0 : 0 ≤ L) (h1 : L ≤ 1048576) (hw : WfV Y_laws_Group t0) : f_L_szGroup t0 L = some ((szR (tot Y_laws_Group t0) L, ()), ()) := by
  unfold f_L_szGroup
  rw [p_L_szRowS _ L (by omega) (by omega) hw.2.2.1, Option.bind_some]
  by_cases c2 : ((tot S_laws_Row t0.2.2.1 : Nat) : Int) ≤ L
  · rw [szR_pos c2]; (try dsimp only); rw [decide_eq_false (by omega : ¬ (L - ((tot S_laws_Row t0.2.2.1 : Nat) : Int) < 0)), cond_false]
    rw [szR_pos (by simp only [tot] at *; omega)]
    refine congrArg (fun (z : Int) => some ((z, ()), ())) ?_
    simp only [tot] at *; omega
  · rw [szR_neg c2]; rw [szR_neg (by simp only [tot] at *; omega)]; rfl

theorem p_L_szGroupS (t0 : PV S_laws_Group) (L : Int) (h0 : 0 ≤ L) (h1 : L ≤ 1048576) (hw : WfV S_laws_Group t0) : f_L_szGroupS t0 L = some ((szR (tot S_laws_Group t0) L, ()), ()) := by
  have hl : List.length t0 ≤ 9223372036854775807 := hw.1
  unfold f_L_szGroupS
  rw [wrap64 (by omega) (by omega)]
  by_cases hc : (t0.length : Int) ≤ L
  · rw [decide_eq_false (by omega : ¬ (L - (t0.length : Int) < 0)), cond_false, show w_L_szGroupS_5 (t0, L - (t0.length : Int), 0, ()) = _ from sz_loop (T := Y_laws_Group) (xs := t0) (B := fun d => b_L_szGroupS_5 d.1 d.2.1 d.2.2.1) (fun i hi l g0 g1 => by
      show b_L_szGroupS_5 t0 l i = _
      generalize hxs : t0 = xs at *
      have hi' : (i : Int) < (xs.length : Int) := by omega
      unfold b_L_szGroupS_5
      rw [decide_eq_true hi', cond_true, inB_lt hi, cond_true, toNat_cast, getD_of hi]
      rw [p_L_szGroup _ l g0 g1 (hw.2 _ (List.getElem_mem hi)), Option.bind_some, wrap64 (x := (i : Int) + 1) (by omega) (by omega)]
      by_cases hq : ((tot Y_laws_Group xs[i] : Nat) : Int) ≤ l
      · rw [if_pos hq, szR_pos hq]; dsimp only; rw [decide_eq_false (by omega : ¬ (l - ((tot Y_laws_Group xs[i] : Nat) : Int) < 0)), cond_false]
      · rw [if_neg hq, szR_neg hq]; rfl) (fun l => by
      show b_L_szGroupS_5 t0 l t0.length = _
      unfold b_L_szGroupS_5
      rw [decide_eq_false (Int.lt_irrefl _), cond_false]) (by omega) (by omega)]
    exact sz_out hc tot_slice
  · rw [decide_eq_true (by omega : L - (t0.length : Int) < 0), cond_true, szR_neg (by rw [tot_slice]; omega)]

theorem p_L_toRow (t0 : PV Y_impl_Row) (hs : tot Y_impl_Row t0 ≤ 1048576) : f_L_toRow t0 = some ((t0, ()), ()) := by
  unfold f_L_toRow
  simp only [tot] at hs
  rfl

theorem p_L_toRowS (t0 : PV S_laws_Row) (hs : tot S_laws_Row t0 ≤ 1048576) : f_L_toRowS t0 = some ((t0, ()), ()) := by
  unfold f_L_toRowS
  have hl : List.length t0 ≤ 1048576 := Nat.le_trans (Nat.le_add_right _ _) (tot_slice ▸ hs)
  rw [room_len (by omega), cond_true, toNat_cast]
  rw [show w_L_toRowS_3 (t0, List.replicate t0.length _, 0, ()) = _ from to_loop (xs := t0) t0 (B := lp_L_toRowS_3.B) rfl (fun i hi acc ha => by
      show b_L_toRowS_3 t0 acc i = _
      unfold b_L_toRowS_3
      have hi' : (i : Int) < (t0.length : Int) := by omega
      rw [decide_eq_true hi', cond_true, inB_lt hi, cond_true, toNat_cast, getD_of hi]
      rw [p_L_toRow _ (Nat.le_trans (tot_mem hi) hs), Option.bind_some, inB_lt (by omega), cond_true, wrap64 (by omega) (by omega)]) (fun acc => by
      show b_L_toRowS_3 t0 acc t0.length = _
      unfold b_L_toRowS_3
      rw [decide_eq_false (Int.lt_irrefl _), cond_false])]
  rfl

theorem p_L_toGroup (t0 : PV Y_laws_Group) (hs : tot Y_laws_Group t0 ≤ 1048576) : f_L_toGroup t0 = some ((t0, ()), ()) := by
  unfold f_L_toGroup
  simp only [tot] at hs
  rw [p_L_toRowS t0.2.2.1 (by simp only [tot]; omega), Option.bind_some]

theorem p_L_toGroupS (t0 : PV S_laws_Group) (hs : tot S_laws_Group t0 ≤ 1048576) : f_L_toGroupS t0 = some ((t0, ()), ()) := by
  unfold f_L_toGroupS
  have hl : List.length t0 ≤ 1048576 := Nat.le_trans (Nat.le_add_right _ _) (tot_slice ▸ hs)
  rw [room_len (by omega), cond_true, toNat_cast]
  rw [show w_L_toGroupS_3 (t0, List.replicate t0.length _, 0, ()) = _ from to_loop (xs := t0) t0 (B := lp_L_toGroupS_3.B) rfl (fun i hi acc ha => by
      show b_L_toGroupS_3 t0 acc i = _
      unfold b_L_toGroupS_3
      have hi' : (i : Int) < (t0.length : Int) := by omega
      rw [decide_eq_true hi', cond_true, inB_lt hi, cond_true, toNat_cast, getD_of hi]
      rw [p_L_toGroup _ (Nat.le_trans (tot_mem hi) hs), Option.bind_some, inB_lt (by omega), cond_true, wrap64 (by omega) (by omega)]) (fun acc => by
      show b_L_toGroupS_3 t0 acc t0.length = _
      unfold b_L_toGroupS_3
      rw [decide_eq_false (Int.lt_irrefl _), cond_false])]
  rfl

theorem p_L_eqRow (t0 : PV Y_impl_Row) (hs : tot Y_impl_Row t0 ≤ 4611686018427387904) : f_L_eqRow t0 t0 = some ((true, ()), ()) := by
  unfold f_L_eqRow
  simp only [tot] at hs
  rw [beq_self_eq_true, Bool.not_true, cond_false]
  rw [beq_self_eq_true, Bool.not_true, cond_false]

theorem p_L_eqRowS (t0 : PV S_impl_Row) (hs : tot S_impl_Row t0 ≤ 4611686018427387904) : f_L_eqRowS t0 t0 = some ((true, ()), ()) := by
  unfold f_L_eqRowS
  have hl : List.length t0 ≤ 4611686018427387904 := Nat.le_trans (Nat.le_add_right _ _) (tot_slice ▸ hs)
  rw [beq_self_eq_true, Bool.not_true, cond_false]
  rw [show w_L_eqRowS_4 (t0, t0, 0, ()) = _ from eq_loop (xs := t0) (B := fun d => b_L_eqRowS_4 d.1 d.2.1 d.2.2.1) (fun i hi => by
      show b_L_eqRowS_4 t0 t0 i = _
      unfold b_L_eqRowS_4
      have hi' : (i : Int) < (t0.length : Int) := by omega
      rw [decide_eq_true hi', cond_true, inB_lt hi, cond_true, cond_true, toNat_cast, getD_of hi]
      rw [p_L_eqRow _ (Nat.le_trans (tot_mem hi) hs), Option.bind_some, Bool.not_true, cond_false, wrap64 (by omega) (by omega)]) (by
      show b_L_eqRowS_4 t0 t0 t0.length = _
      unfold b_L_eqRowS_4
      rw [decide_eq_false (Int.lt_irrefl _), cond_false])]
  rfl

theorem p_L_eqGroup (t0 : PV Y_impl_Group) (hs : tot Y_impl_Group t0 ≤ 4611686018427387904) : f_L_eqGroup t0 t0 = some ((true, ()), ()) := by
  unfold f_L_eqGroup
  simp only [tot] at hs
  rw [beq_self_eq_true, Bool.not_true, cond_false]
  rw [beq_self_eq_true, Bool.not_true, cond_false]
  rw [p_L_eqRowS t0.2.2.1 (by simp only [tot]; omega), Option.bind_some, Bool.not_true, cond_false]

theorem p_L_eqGroupS (t0 : PV S_impl_Group) (hs : tot S_impl_Group t0 ≤ 4611686018427387904) : f_L_eqGroupS t0 t0 = some ((true, ()), ()) := by
  unfold f_L_eqGroupS
  have hl : List.length t0 ≤ 4611686018427387904 := Nat.le_trans (Nat.le_add_right _ _) (tot_slice ▸ hs)
  rw [beq_self_eq_true, Bool.not_true, cond_false]
  rw [show w_L_eqGroupS_4 (t0, t0, 0, ()) = _ from eq_loop (xs := t0) (B := fun d => b_L_eqGroupS_4 d.1 d.2.1 d.2.2.1) (fun i hi => by
      show b_L_eqGroupS_4 t0 t0 i = _
      unfold b_L_eqGroupS_4
      have hi' : (i : Int) < (t0.length : Int) := by omega
      rw [decide_eq_true hi', cond_true, inB_lt hi, cond_true, cond_true, toNat_cast, getD_of hi]
      rw [p_L_eqGroup _ (Nat.le_trans (tot_mem hi) hs), Option.bind_some, Bool.not_true, cond_false, wrap64 (by omega) (by omega)]) (by
      show b_L_eqGroupS_4 t0 t0 t0.length = _
      unfold b_L_eqGroupS_4
      rw [decide_eq_false (Int.lt_irrefl _), cond_false])]
  rfl
end R
