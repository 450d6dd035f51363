/- Plain laws of the law's helpers. -/
import Derived.Test.YtmdlfpmkghkakaaPaR
import Derived.Test.YtmdlfpmkghkakaaGb
open Go Go.Dn
namespace R
set_option linter.unusedVariables false
theorem p_L_szStringS (t0 : PV S_string) (L : Int) (h0 : 0 ≤ L) (h1 : L ≤ 1048576) (hw : WfV S_string t0) : f_L_szStringS t0 L = some ((szR (tot S_string t0) L, ()), ()) := by
  have hl : List.length t0 ≤ 9223372036854775807 := hw.1
  unfold f_L_szStringS
  rw [wrap64 (by omega) (by omega)]
  by_cases hc : (t0.length : Int) ≤ L
  · rw [decide_eq_false (by omega : ¬ (L - (t0.length : Int) < 0)), cond_false, show w_L_szStringS_5 (t0, L - (t0.length : Int), 0, ()) = _ from sz_loop (T := .str) (xs := t0) (B := fun d => b_L_szStringS_5 d.1 d.2.1 d.2.2.1) (fun i hi l g0 g1 => by
      show b_L_szStringS_5 t0 l i = _
      generalize hxs : t0 = xs at *
      have hi' : (i : Int) < (xs.length : Int) := by omega
      unfold b_L_szStringS_5
      rw [decide_eq_true hi', cond_true, inB_lt hi, cond_true, toNat_cast, getD_of hi]
      have hx : (xs[i]).length ≤ 9223372036854775807 := hw.2 _ (List.getElem_mem hi)
      rw [wrap64 (by omega) (by omega), wrap64 (x := (i : Int) + 1) (by omega) (by omega)]
      by_cases hq : ((tot .str xs[i] : Nat) : Int) ≤ l
      · rw [if_pos hq]; rw [tot_str] at hq ⊢; rw [decide_eq_false (by omega : ¬ (l - (xs[i].length : Int) < 0)), cond_false]
      · rw [if_neg hq]; rw [tot_str] at hq; rw [decide_eq_true (by omega : l - (xs[i].length : Int) < 0), cond_true]) (fun l => by
      show b_L_szStringS_5 t0 l t0.length = _
      unfold b_L_szStringS_5
      rw [decide_eq_false (Int.lt_irrefl _), cond_false]) (by omega) (by omega)]
    exact sz_out hc tot_slice
  · rw [decide_eq_true (by omega : L - (t0.length : Int) < 0), cond_true, szR_neg (by rw [tot_slice]; omega)]

theorem p_L_szPart (t0 : PV Y_impl_Part) (L : Int) (h0 : 0 ≤ L) (h1 : L ≤ 1048576) (hw : WfV Y_impl_Part t0) : f_L_szPart t0 L = some ((szR (tot Y_impl_Part t0) L, ()), ()) := by
  unfold f_L_szPart
  rw [p_L_szStringS _ L (by omega) (by omega) hw.2.2.2.1, Option.bind_some]
  by_cases c3 : ((tot S_string t0.2.2.2.1 : Nat) : Int) ≤ L
  · rw [szR_pos c3]; dsimp only; rw [decide_eq_false (by omega : ¬ (L - ((tot S_string t0.2.2.2.1 : Nat) : Int) < 0)), cond_false]
    rw [p_L_szStringS _ (L - ((tot S_string t0.2.2.2.1 : Nat) : Int)) (by omega) (by omega) hw.2.2.2.2.1, Option.bind_some]
    by_cases c4 : ((tot S_string t0.2.2.2.2.1 : Nat) : Int) ≤ L - ((tot S_string t0.2.2.2.1 : Nat) : Int)
    · rw [szR_pos c4]; dsimp only; rw [decide_eq_false (by omega : ¬ (L - ((tot S_string t0.2.2.2.1 : Nat) : Int) - ((tot S_string t0.2.2.2.2.1 : Nat) : Int) < 0)), cond_false]
      rw [szR_pos (by simp only [tot] at *; omega)]
      refine congrArg (fun (z : Int) => some ((z, ()), ())) ?_
      simp only [tot] at *; omega
    · rw [szR_neg c4]; rw [szR_neg (by simp only [tot] at *; omega)]; rfl
  · rw [szR_neg c3]; rw [szR_neg (by simp only [tot] at *; omega)]; rfl

theorem p_L_szPartS (t0 : PV S_laws_Part) (L : Int) (h0 : 0 ≤ L) (h1 : L ≤ 1048576) (hw : WfV S_laws_Part t0) : f_L_szPartS t0 L = some ((szR (tot S_laws_Part t0) L, ()), ()) := by
  have hl : List.length t0 ≤ 9223372036854775807 := hw.1
  unfold f_L_szPartS
  rw [wrap64 (by omega) (by omega)]
  by_cases hc : (t0.length : Int) ≤ L
  · rw [decide_eq_false (by omega : ¬ (L - (t0.length : Int) < 0)), cond_false, show w_L_szPartS_5 (t0, L - (t0.length : Int), 0, ()) = _ from sz_loop (T := Y_impl_Part) (xs := t0) (B := fun d => b_L_szPartS_5 d.1 d.2.1 d.2.2.1) (fun i hi l g0 g1 => by
      show b_L_szPartS_5 t0 l i = _
      generalize hxs : t0 = xs at *
      have hi' : (i : Int) < (xs.length : Int) := by omega
      unfold b_L_szPartS_5
      rw [decide_eq_true hi', cond_true, inB_lt hi, cond_true, toNat_cast, getD_of hi]
      rw [p_L_szPart _ l g0 g1 (hw.2 _ (List.getElem_mem hi)), Option.bind_some, wrap64 (x := (i : Int) + 1) (by omega) (by omega)]
      by_cases hq : ((tot Y_impl_Part xs[i] : Nat) : Int) ≤ l
      · rw [if_pos hq, szR_pos hq]; dsimp only; rw [decide_eq_false (by omega : ¬ (l - ((tot Y_impl_Part xs[i] : Nat) : Int) < 0)), cond_false]
      · rw [if_neg hq, szR_neg hq]; rfl) (fun l => by
      show b_L_szPartS_5 t0 l t0.length = _
      unfold b_L_szPartS_5
      rw [decide_eq_false (Int.lt_irrefl _), cond_false]) (by omega) (by omega)]
    exact sz_out hc tot_slice
  · rw [decide_eq_true (by omega : L - (t0.length : Int) < 0), cond_true, szR_neg (by rw [tot_slice]; omega)]

theorem p_L_toStringS (t0 : PV S_string) (hs : tot S_string t0 ≤ 1048576) : f_L_toStringS t0 = some ((t0, ()), ()) := by
  unfold f_L_toStringS
  have hl : List.length t0 ≤ 1048576 := Nat.le_trans (Nat.le_add_right _ _) (tot_slice ▸ hs)
  rw [room_len (by omega), cond_true, toNat_cast]
  rw [show w_L_toStringS_3 (t0, List.replicate t0.length _, 0, ()) = _ from to_loop (xs := t0) t0 (B := lp_L_toStringS_3.B) rfl (fun i hi acc ha => by
      show b_L_toStringS_3 t0 acc i = _
      unfold b_L_toStringS_3
      have hi' : (i : Int) < (t0.length : Int) := by omega
      rw [decide_eq_true hi', cond_true, inB_lt hi, cond_true, toNat_cast, getD_of hi]
      rw [inB_lt (by omega), cond_true, wrap64 (by omega) (by omega)]) (fun acc => by
      show b_L_toStringS_3 t0 acc t0.length = _
      unfold b_L_toStringS_3
      rw [decide_eq_false (Int.lt_irrefl _), cond_false])]
  rfl

theorem p_L_toPart (t0 : PV Y_impl_Part) (hs : tot Y_impl_Part t0 ≤ 1048576) : f_L_toPart t0 = some ((t0, ()), ()) := by
  unfold f_L_toPart
  simp only [tot] at hs
  rw [p_L_toStringS t0.2.2.2.1 (by simp only [tot]; omega), Option.bind_some]
  rw [p_L_toStringS t0.2.2.2.2.1 (by simp only [tot]; omega), Option.bind_some]

theorem p_L_toPartS (t0 : PV S_laws_Part) (hs : tot S_laws_Part t0 ≤ 1048576) : f_L_toPartS t0 = some ((t0, ()), ()) := by
  unfold f_L_toPartS
  have hl : List.length t0 ≤ 1048576 := Nat.le_trans (Nat.le_add_right _ _) (tot_slice ▸ hs)
  rw [room_len (by omega), cond_true, toNat_cast]
  rw [show w_L_toPartS_3 (t0, List.replicate t0.length _, 0, ()) = _ from to_loop (xs := t0) t0 (B := lp_L_toPartS_3.B) rfl (fun i hi acc ha => by
      show b_L_toPartS_3 t0 acc i = _
      unfold b_L_toPartS_3
      have hi' : (i : Int) < (t0.length : Int) := by omega
      rw [decide_eq_true hi', cond_true, inB_lt hi, cond_true, toNat_cast, getD_of hi]
      rw [p_L_toPart _ (Nat.le_trans (tot_mem hi) hs), Option.bind_some, inB_lt (by omega), cond_true, wrap64 (by omega) (by omega)]) (fun acc => by
      show b_L_toPartS_3 t0 acc t0.length = _
      unfold b_L_toPartS_3
      rw [decide_eq_false (Int.lt_irrefl _), cond_false])]
  rfl

theorem p_L_eqStringS (t0 : PV S_string) (hs : tot S_string t0 ≤ 4611686018427387904) : f_L_eqStringS t0 t0 = some ((true, ()), ()) := by
  unfold f_L_eqStringS
  have hl : List.length t0 ≤ 4611686018427387904 := Nat.le_trans (Nat.le_add_right _ _) (tot_slice ▸ hs)
  rw [beq_self_eq_true, Bool.not_true, cond_false]
  rw [show w_L_eqStringS_4 (t0, t0, 0, ()) = _ from eq_loop (xs := t0) (B := fun d => b_L_eqStringS_4 d.1 d.2.1 d.2.2.1) (fun i hi => by
      show b_L_eqStringS_4 t0 t0 i = _
      unfold b_L_eqStringS_4
      have hi' : (i : Int) < (t0.length : Int) := by omega
      rw [decide_eq_true hi', cond_true, inB_lt hi, cond_true, cond_true, toNat_cast, getD_of hi]
      rw [beq_self_eq_true, Bool.not_true, cond_false, wrap64 (by omega) (by omega)]) (by
      show b_L_eqStringS_4 t0 t0 t0.length = _
      unfold b_L_eqStringS_4
      rw [decide_eq_false (Int.lt_irrefl _), cond_false])]
  rfl

theorem p_L_eqPart (t0 : PV Y_impl_Part) (hs : tot Y_impl_Part t0 ≤ 4611686018427387904) : f_L_eqPart t0 t0 = some ((true, ()), ()) := by
  unfold f_L_eqPart
  simp only [tot] at hs
  rw [beq_self_eq_true, Bool.not_true, cond_false]
  rw [beq_self_eq_true, Bool.not_true, cond_false]
  rw [beq_self_eq_true, Bool.not_true, cond_false]
  rw [p_L_eqStringS t0.2.2.2.1 (by simp only [tot]; omega), Option.bind_some, Bool.not_true, cond_false]
  rw [p_L_eqStringS t0.2.2.2.2.1 (by simp only [tot]; omega), Option.bind_some, Bool.not_true, cond_false]

theorem p_L_eqPartS (t0 : PV S_impl_Part) (hs : tot S_impl_Part t0 ≤ 4611686018427387904) : f_L_eqPartS t0 t0 = some ((true, ()), ()) := by
  unfold f_L_eqPartS
  have hl : List.length t0 ≤ 4611686018427387904 := Nat.le_trans (Nat.le_add_right _ _) (tot_slice ▸ hs)
  rw [beq_self_eq_true, Bool.not_true, cond_false]
  rw [show w_L_eqPartS_4 (t0, t0, 0, ()) = _ from eq_loop (xs := t0) (B := fun d => b_L_eqPartS_4 d.1 d.2.1 d.2.2.1) (fun i hi => by
      show b_L_eqPartS_4 t0 t0 i = _
      unfold b_L_eqPartS_4
      have hi' : (i : Int) < (t0.length : Int) := by omega
      rw [decide_eq_true hi', cond_true, inB_lt hi, cond_true, cond_true, toNat_cast, getD_of hi]
      rw [p_L_eqPart _ (Nat.le_trans (tot_mem hi) hs), Option.bind_some, Bool.not_true, cond_false, wrap64 (by omega) (by omega)]) (by
      show b_L_eqPartS_4 t0 t0 t0.length = _
      unfold b_L_eqPartS_4
      rw [decide_eq_false (Int.lt_irrefl _), cond_false])]
  rfl

theorem p_L_szOrder (t0 : PV Y_impl_Order) (L : Int) (h0 : 0 ≤ L) (h1 : L ≤ 1048576) (hw : WfV Y_impl_Order t0) : f_L_szOrder t0 L = some ((szR (tot Y_impl_Order t0) L, ()), ()) := by
  unfold f_L_szOrder
  rw [p_L_szStringS _ L (by omega) (by omega) hw.2.2.2.1, Option.bind_some]
  by_cases c3 : ((tot S_string t0.2.2.2.1 : Nat) : Int) ≤ L
  · rw [szR_pos c3]; dsimp only; rw [decide_eq_false (by omega : ¬ (L - ((tot S_string t0.2.2.2.1 : Nat) : Int) < 0)), cond_false]
    rw [szR_pos (by simp only [tot] at *; omega)]
    refine congrArg (fun (z : Int) => some ((z, ()), ())) ?_
    simp only [tot] at *; omega
  · rw [szR_neg c3]; rw [szR_neg (by simp only [tot] at *; omega)]; rfl

theorem p_L_szOrderS (t0 : PV S_laws_Order) (L : Int) (h0 : 0 ≤ L) (h1 : L ≤ 1048576) (hw : WfV S_laws_Order t0) : f_L_szOrderS t0 L = some ((szR (tot S_laws_Order t0) L, ()), ()) := by
  have hl : List.length t0 ≤ 9223372036854775807 := hw.1
  unfold f_L_szOrderS
  rw [wrap64 (by omega) (by omega)]
  by_cases hc : (t0.length : Int) ≤ L
  · rw [decide_eq_false (by omega : ¬ (L - (t0.length : Int) < 0)), cond_false, show w_L_szOrderS_5 (t0, L - (t0.length : Int), 0, ()) = _ from sz_loop (T := Y_impl_Order) (xs := t0) (B := fun d => b_L_szOrderS_5 d.1 d.2.1 d.2.2.1) (fun i hi l g0 g1 => by
      show b_L_szOrderS_5 t0 l i = _
      generalize hxs : t0 = xs at *
      have hi' : (i : Int) < (xs.length : Int) := by omega
      unfold b_L_szOrderS_5
      rw [decide_eq_true hi', cond_true, inB_lt hi, cond_true, toNat_cast, getD_of hi]
      rw [p_L_szOrder _ l g0 g1 (hw.2 _ (List.getElem_mem hi)), Option.bind_some, wrap64 (x := (i : Int) + 1) (by omega) (by omega)]
      by_cases hq : ((tot Y_impl_Order xs[i] : Nat) : Int) ≤ l
      · rw [if_pos hq, szR_pos hq]; dsimp only; rw [decide_eq_false (by omega : ¬ (l - ((tot Y_impl_Order xs[i] : Nat) : Int) < 0)), cond_false]
      · rw [if_neg hq, szR_neg hq]; rfl) (fun l => by
      show b_L_szOrderS_5 t0 l t0.length = _
      unfold b_L_szOrderS_5
      rw [decide_eq_false (Int.lt_irrefl _), cond_false]) (by omega) (by omega)]
    exact sz_out hc tot_slice
  · rw [decide_eq_true (by omega : L - (t0.length : Int) < 0), cond_true, szR_neg (by rw [tot_slice]; omega)]

theorem p_L_toOrder (t0 : PV Y_impl_Order) (hs : tot Y_impl_Order t0 ≤ 1048576) : f_L_toOrder t0 = some ((t0, ()), ()) := by
  unfold f_L_toOrder
  simp only [tot] at hs
  rw [p_L_toStringS t0.2.2.2.1 (by simp only [tot]; omega), Option.bind_some]

theorem p_L_toOrderS (t0 : PV S_laws_Order) (hs : tot S_laws_Order t0 ≤ 1048576) : f_L_toOrderS t0 = some ((t0, ()), ()) := by
  unfold f_L_toOrderS
  have hl : List.length t0 ≤ 1048576 := Nat.le_trans (Nat.le_add_right _ _) (tot_slice ▸ hs)
  rw [room_len (by omega), cond_true, toNat_cast]
  rw [show w_L_toOrderS_3 (t0, List.replicate t0.length _, 0, ()) = _ from to_loop (xs := t0) t0 (B := lp_L_toOrderS_3.B) rfl (fun i hi acc ha => by
      show b_L_toOrderS_3 t0 acc i = _
      unfold b_L_toOrderS_3
      have hi' : (i : Int) < (t0.length : Int) := by omega
      rw [decide_eq_true hi', cond_true, inB_lt hi, cond_true, toNat_cast, getD_of hi]
      rw [p_L_toOrder _ (Nat.le_trans (tot_mem hi) hs), Option.bind_some, inB_lt (by omega), cond_true, wrap64 (by omega) (by omega)]) (fun acc => by
      show b_L_toOrderS_3 t0 acc t0.length = _
      unfold b_L_toOrderS_3
      rw [decide_eq_false (Int.lt_irrefl _), cond_false])]
  rfl

theorem p_L_eqOrder (t0 : PV Y_impl_Order) (hs : tot Y_impl_Order t0 ≤ 4611686018427387904) : f_L_eqOrder t0 t0 = some ((true, ()), ()) := by
  unfold f_L_eqOrder
  simp only [tot] at hs
  rw [beq_self_eq_true, Bool.not_true, cond_false]
  rw [beq_self_eq_true, Bool.not_true, cond_false]
  rw [beq_self_eq_true, Bool.not_true, cond_false]
  rw [p_L_eqStringS t0.2.2.2.1 (by simp only [tot]; omega), Option.bind_some, Bool.not_true, cond_false]

theorem p_L_eqOrderS (t0 : PV S_impl_Order) (hs : tot S_impl_Order t0 ≤ 4611686018427387904) : f_L_eqOrderS t0 t0 = some ((true, ()), ()) := by
  unfold f_L_eqOrderS
  have hl : List.length t0 ≤ 4611686018427387904 := Nat.le_trans (Nat.le_add_right _ _) (tot_slice ▸ hs)
  rw [beq_self_eq_true, Bool.not_true, cond_false]
  rw [show w_L_eqOrderS_4 (t0, t0, 0, ()) = _ from eq_loop (xs := t0) (B := fun d => b_L_eqOrderS_4 d.1 d.2.1 d.2.2.1) (fun i hi => by
      show b_L_eqOrderS_4 t0 t0 i = _
      unfold b_L_eqOrderS_4
      have hi' : (i : Int) < (t0.length : Int) := by omega
      rw [decide_eq_true hi', cond_true, inB_lt hi, cond_true, cond_true, toNat_cast, getD_of hi]
      rw [p_L_eqOrder _ (Nat.le_trans (tot_mem hi) hs), Option.bind_some, Bool.not_true, cond_false, wrap64 (by omega) (by omega)]) (by
      show b_L_eqOrderS_4 t0 t0 t0.length = _
      unfold b_L_eqOrderS_4
      rw [decide_eq_false (Int.lt_irrefl _), cond_false])]
  rfl

theorem p_L_szHunk (t0 : PV Y_impl_Hunk) (L : Int) (h0 : 0 ≤ L) (h1 : L ≤ 1048576) (hw : WfV Y_impl_Hunk t0) : f_L_szHunk t0 L = some ((szR (tot Y_impl_Hunk t0) L, ()), ()) := by
  unfold f_L_szHunk
  rw [p_L_szStringS _ L (by omega) (by omega) hw.2.2.1, Option.bind_some]
  by_cases c2 : ((tot S_string t0.2.2.1 : Nat) : Int) ≤ L
  · rw [szR_pos c2]; dsimp only; rw [decide_eq_false (by omega : ¬ (L - ((tot S_string t0.2.2.1 : Nat) : Int) < 0)), cond_false]
    rw [szR_pos (by simp only [tot] at *; omega)]
    refine congrArg (fun (z : Int) => some ((z, ()), ())) ?_
    simp only [tot] at *; omega
  · rw [szR_neg c2]; rw [szR_neg (by simp only [tot] at *; omega)]; rfl

theorem p_L_szHunkS (t0 : PV S_laws_Hunk) (L : Int) (h0 : 0 ≤ L) (h1 : L ≤ 1048576) (hw : WfV S_laws_Hunk t0) : f_L_szHunkS t0 L = some ((szR (tot S_laws_Hunk t0) L, ()), ()) := by
  have hl : List.length t0 ≤ 9223372036854775807 := hw.1
  unfold f_L_szHunkS
  rw [wrap64 (by omega) (by omega)]
  by_cases hc : (t0.length : Int) ≤ L
  · rw [decide_eq_false (by omega : ¬ (L - (t0.length : Int) < 0)), cond_false, show w_L_szHunkS_5 (t0, L - (t0.length : Int), 0, ()) = _ from sz_loop (T := Y_impl_Hunk) (xs := t0) (B := fun d => b_L_szHunkS_5 d.1 d.2.1 d.2.2.1) (fun i hi l g0 g1 => by
      show b_L_szHunkS_5 t0 l i = _
      generalize hxs : t0 = xs at *
      have hi' : (i : Int) < (xs.length : Int) := by omega
      unfold b_L_szHunkS_5
      rw [decide_eq_true hi', cond_true, inB_lt hi, cond_true, toNat_cast, getD_of hi]
      rw [p_L_szHunk _ l g0 g1 (hw.2 _ (List.getElem_mem hi)), Option.bind_some, wrap64 (x := (i : Int) + 1) (by omega) (by omega)]
      by_cases hq : ((tot Y_impl_Hunk xs[i] : Nat) : Int) ≤ l
      · rw [if_pos hq, szR_pos hq]; dsimp only; rw [decide_eq_false (by omega : ¬ (l - ((tot Y_impl_Hunk xs[i] : Nat) : Int) < 0)), cond_false]
      · rw [if_neg hq, szR_neg hq]; rfl) (fun l => by
      show b_L_szHunkS_5 t0 l t0.length = _
      unfold b_L_szHunkS_5
      rw [decide_eq_false (Int.lt_irrefl _), cond_false]) (by omega) (by omega)]
    exact sz_out hc tot_slice
  · rw [decide_eq_true (by omega : L - (t0.length : Int) < 0), cond_true, szR_neg (by rw [tot_slice]; omega)]

theorem p_L_szHunkSS (t0 : PV S_S_laws_Hunk) (L : Int) (h0 : 0 ≤ L) (h1 : L ≤ 1048576) (hw : WfV S_S_laws_Hunk t0) : f_L_szHunkSS t0 L = some ((szR (tot S_S_laws_Hunk t0) L, ()), ()) := by
  have hl : List.length t0 ≤ 9223372036854775807 := hw.1
  unfold f_L_szHunkSS
  rw [wrap64 (by omega) (by omega)]
  by_cases hc : (t0.length : Int) ≤ L
  · rw [decide_eq_false (by omega : ¬ (L - (t0.length : Int) < 0)), cond_false, show w_L_szHunkSS_5 (t0, L - (t0.length : Int), 0, ()) = _ from sz_loop (T := S_laws_Hunk) (xs := t0) (B := fun d => b_L_szHunkSS_5 d.1 d.2.1 d.2.2.1) (fun i hi l g0 g1 => by
      show b_L_szHunkSS_5 t0 l i = _
      generalize hxs : t0 = xs at *
      have hi' : (i : Int) < (xs.length : Int) := by omega
      unfold b_L_szHunkSS_5
      rw [decide_eq_true hi', cond_true, inB_lt hi, cond_true, toNat_cast, getD_of hi]
      rw [p_L_szHunkS _ l g0 g1 (hw.2 _ (List.getElem_mem hi)), Option.bind_some, wrap64 (x := (i : Int) + 1) (by omega) (by omega)]
      by_cases hq : ((tot S_laws_Hunk xs[i] : Nat) : Int) ≤ l
      · rw [if_pos hq, szR_pos hq]; dsimp only; rw [decide_eq_false (by omega : ¬ (l - ((tot S_laws_Hunk xs[i] : Nat) : Int) < 0)), cond_false]
      · rw [if_neg hq, szR_neg hq]; rfl) (fun l => by
      show b_L_szHunkSS_5 t0 l t0.length = _
      unfold b_L_szHunkSS_5
      rw [decide_eq_false (Int.lt_irrefl _), cond_false]) (by omega) (by omega)]
    exact sz_out hc tot_slice
  · rw [decide_eq_true (by omega : L - (t0.length : Int) < 0), cond_true, szR_neg (by rw [tot_slice]; omega)]

theorem p_L_szSeries (t0 : PV Y_laws_Series) (L : Int) (h0 : 0 ≤ L) (h1 : L ≤ 1048576) (hw : WfV Y_laws_Series t0) : f_L_szSeries t0 L = some ((szR (tot Y_laws_Series t0) L, ()), ()) := by
  unfold f_L_szSeries
  rw [p_L_szStringS _ L (by omega) (by omega) hw.1, Option.bind_some]
  by_cases c0 : ((tot S_string t0.1 : Nat) : Int) ≤ L
  · rw [szR_pos c0]; dsimp only; rw [decide_eq_false (by omega : ¬ (L - ((tot S_string t0.1 : Nat) : Int) < 0)), cond_false]
    rw [p_L_szHunkSS _ (L - ((tot S_string t0.1 : Nat) : Int)) (by omega) (by omega) hw.2.1, Option.bind_some]
    by_cases c1 : ((tot S_S_laws_Hunk t0.2.1 : Nat) : Int) ≤ L - ((tot S_string t0.1 : Nat) : Int)
    · rw [szR_pos c1]; dsimp only; rw [decide_eq_false (by omega : ¬ (L - ((tot S_string t0.1 : Nat) : Int) - ((tot S_S_laws_Hunk t0.2.1 : Nat) : Int) < 0)), cond_false]
      rw [szR_pos (by simp only [tot] at *; omega)]
      refine congrArg (fun (z : Int) => some ((z, ()), ())) ?_
      simp only [tot] at *; omega
    · rw [szR_neg c1]; rw [szR_neg (by simp only [tot] at *; omega)]; rfl
  · rw [szR_neg c0]; rw [szR_neg (by simp only [tot] at *; omega)]; rfl

theorem p_L_toHunk (t0 : PV Y_impl_Hunk) (hs : tot Y_impl_Hunk t0 ≤ 1048576) : f_L_toHunk t0 = some ((t0, ()), ()) := by
  unfold f_L_toHunk
  simp only [tot] at hs
  rw [p_L_toStringS t0.2.2.1 (by simp only [tot]; omega), Option.bind_some]

theorem p_L_toHunkS (t0 : PV S_laws_Hunk) (hs : tot S_laws_Hunk t0 ≤ 1048576) : f_L_toHunkS t0 = some ((t0, ()), ()) := by
  unfold f_L_toHunkS
  have hl : List.length t0 ≤ 1048576 := Nat.le_trans (Nat.le_add_right _ _) (tot_slice ▸ hs)
  rw [room_len (by omega), cond_true, toNat_cast]
  rw [show w_L_toHunkS_3 (t0, List.replicate t0.length _, 0, ()) = _ from to_loop (xs := t0) t0 (B := lp_L_toHunkS_3.B) rfl (fun i hi acc ha => by
      show b_L_toHunkS_3 t0 acc i = _
      unfold b_L_toHunkS_3
      have hi' : (i : Int) < (t0.length : Int) := by omega
      rw [decide_eq_true hi', cond_true, inB_lt hi, cond_true, toNat_cast, getD_of hi]
      rw [p_L_toHunk _ (Nat.le_trans (tot_mem hi) hs), Option.bind_some, inB_lt (by omega), cond_true, wrap64 (by omega) (by omega)]) (fun acc => by
      show b_L_toHunkS_3 t0 acc t0.length = _
      unfold b_L_toHunkS_3
      rw [decide_eq_false (Int.lt_irrefl _), cond_false])]
  rfl

theorem p_L_toHunkSS (t0 : PV S_S_laws_Hunk) (hs : tot S_S_laws_Hunk t0 ≤ 1048576) : f_L_toHunkSS t0 = some ((t0, ()), ()) := by
  unfold f_L_toHunkSS
  have hl : List.length t0 ≤ 1048576 := Nat.le_trans (Nat.le_add_right _ _) (tot_slice ▸ hs)
  rw [room_len (by omega), cond_true, toNat_cast]
  rw [show w_L_toHunkSS_3 (t0, List.replicate t0.length _, 0, ()) = _ from to_loop (xs := t0) t0 (B := lp_L_toHunkSS_3.B) rfl (fun i hi acc ha => by
      show b_L_toHunkSS_3 t0 acc i = _
      unfold b_L_toHunkSS_3
      have hi' : (i : Int) < (t0.length : Int) := by omega
      rw [decide_eq_true hi', cond_true, inB_lt hi, cond_true, toNat_cast, getD_of hi]
      rw [p_L_toHunkS _ (Nat.le_trans (tot_mem hi) hs), Option.bind_some, inB_lt (by omega), cond_true, wrap64 (by omega) (by omega)]) (fun acc => by
      show b_L_toHunkSS_3 t0 acc t0.length = _
      unfold b_L_toHunkSS_3
      rw [decide_eq_false (Int.lt_irrefl _), cond_false])]
  rfl

theorem p_L_toSeries (t0 : PV Y_laws_Series) (hs : tot Y_laws_Series t0 ≤ 1048576) : f_L_toSeries t0 = some ((t0, ()), ()) := by
  unfold f_L_toSeries
  simp only [tot] at hs
  rw [p_L_toStringS t0.1 (by simp only [tot]; omega), Option.bind_some]
  rw [p_L_toHunkSS t0.2.1 (by simp only [tot]; omega), Option.bind_some]

theorem p_L_eqHunk (t0 : PV Y_impl_Hunk) (hs : tot Y_impl_Hunk t0 ≤ 4611686018427387904) : f_L_eqHunk t0 t0 = some ((true, ()), ()) := by
  unfold f_L_eqHunk
  simp only [tot] at hs
  rw [beq_self_eq_true, Bool.not_true, cond_false]
  rw [beq_self_eq_true, Bool.not_true, cond_false]
  rw [p_L_eqStringS t0.2.2.1 (by simp only [tot]; omega), Option.bind_some, Bool.not_true, cond_false]

theorem p_L_eqHunkS (t0 : PV S_impl_Hunk) (hs : tot S_impl_Hunk t0 ≤ 4611686018427387904) : f_L_eqHunkS t0 t0 = some ((true, ()), ()) := by
  unfold f_L_eqHunkS
  have hl : List.length t0 ≤ 4611686018427387904 := Nat.le_trans (Nat.le_add_right _ _) (tot_slice ▸ hs)
  rw [beq_self_eq_true, Bool.not_true, cond_false]
  rw [show w_L_eqHunkS_4 (t0, t0, 0, ()) = _ from eq_loop (xs := t0) (B := fun d => b_L_eqHunkS_4 d.1 d.2.1 d.2.2.1) (fun i hi => by
      show b_L_eqHunkS_4 t0 t0 i = _
      unfold b_L_eqHunkS_4
      have hi' : (i : Int) < (t0.length : Int) := by omega
      rw [decide_eq_true hi', cond_true, inB_lt hi, cond_true, cond_true, toNat_cast, getD_of hi]
      rw [p_L_eqHunk _ (Nat.le_trans (tot_mem hi) hs), Option.bind_some, Bool.not_true, cond_false, wrap64 (by omega) (by omega)]) (by
      show b_L_eqHunkS_4 t0 t0 t0.length = _
      unfold b_L_eqHunkS_4
      rw [decide_eq_false (Int.lt_irrefl _), cond_false])]
  rfl

theorem p_L_eqHunkSS (t0 : PV S_S_impl_Hunk) (hs : tot S_S_impl_Hunk t0 ≤ 4611686018427387904) : f_L_eqHunkSS t0 t0 = some ((true, ()), ()) := by
  unfold f_L_eqHunkSS
  have hl : List.length t0 ≤ 4611686018427387904 := Nat.le_trans (Nat.le_add_right _ _) (tot_slice ▸ hs)
  rw [beq_self_eq_true, Bool.not_true, cond_false]
  rw [show w_L_eqHunkSS_4 (t0, t0, 0, ()) = _ from eq_loop (xs := t0) (B := fun d => b_L_eqHunkSS_4 d.1 d.2.1 d.2.2.1) (fun i hi => by
      show b_L_eqHunkSS_4 t0 t0 i = _
      unfold b_L_eqHunkSS_4
      have hi' : (i : Int) < (t0.length : Int) := by omega
      rw [decide_eq_true hi', cond_true, inB_lt hi, cond_true, cond_true, toNat_cast, getD_of hi]
      rw [p_L_eqHunkS _ (Nat.le_trans (tot_mem hi) hs), Option.bind_some, Bool.not_true, cond_false, wrap64 (by omega) (by omega)]) (by
      show b_L_eqHunkSS_4 t0 t0 t0.length = _
      unfold b_L_eqHunkSS_4
      rw [decide_eq_false (Int.lt_irrefl _), cond_false])]
  rfl

theorem p_L_eqSeries (t0 : PV Y_impl_Series) (hs : tot Y_impl_Series t0 ≤ 4611686018427387904) : f_L_eqSeries t0 t0 = some ((true, ()), ()) := by
  unfold f_L_eqSeries
  simp only [tot] at hs
  rw [p_L_eqStringS t0.1 (by simp only [tot]; omega), Option.bind_some, Bool.not_true, cond_false]
  rw [p_L_eqHunkSS t0.2.1 (by simp only [tot]; omega), Option.bind_some, Bool.not_true, cond_false]

theorem p_L_szStringSS (t0 : PV S_S_string) (L : Int) (h0 : 0 ≤ L) (h1 : L ≤ 1048576) (hw : WfV S_S_string t0) : f_L_szStringSS t0 L = some ((szR (tot S_S_string t0) L, ()), ()) := by
  have hl : List.length t0 ≤ 9223372036854775807 := hw.1
  unfold f_L_szStringSS
  rw [wrap64 (by omega) (by omega)]
  by_cases hc : (t0.length : Int) ≤ L
  · rw [decide_eq_false (by omega : ¬ (L - (t0.length : Int) < 0)), cond_false, show w_L_szStringSS_5 (t0, L - (t0.length : Int), 0, ()) = _ from sz_loop (T := S_string) (xs := t0) (B := fun d => b_L_szStringSS_5 d.1 d.2.1 d.2.2.1) (fun i hi l g0 g1 => by
      show b_L_szStringSS_5 t0 l i = _
      generalize hxs : t0 = xs at *
      have hi' : (i : Int) < (xs.length : Int) := by omega
      unfold b_L_szStringSS_5
      rw [decide_eq_true hi', cond_true, inB_lt hi, cond_true, toNat_cast, getD_of hi]
      rw [p_L_szStringS _ l g0 g1 (hw.2 _ (List.getElem_mem hi)), Option.bind_some, wrap64 (x := (i : Int) + 1) (by omega) (by omega)]
      by_cases hq : ((tot S_string xs[i] : Nat) : Int) ≤ l
      · rw [if_pos hq, szR_pos hq]; dsimp only; rw [decide_eq_false (by omega : ¬ (l - ((tot S_string xs[i] : Nat) : Int) < 0)), cond_false]
      · rw [if_neg hq, szR_neg hq]; rfl) (fun l => by
      show b_L_szStringSS_5 t0 l t0.length = _
      unfold b_L_szStringSS_5
      rw [decide_eq_false (Int.lt_irrefl _), cond_false]) (by omega) (by omega)]
    exact sz_out hc tot_slice
  · rw [decide_eq_true (by omega : L - (t0.length : Int) < 0), cond_true, szR_neg (by rw [tot_slice]; omega)]

theorem p_L_toStringSS (t0 : PV S_S_string) (hs : tot S_S_string t0 ≤ 1048576) : f_L_toStringSS t0 = some ((t0, ()), ()) := by
  unfold f_L_toStringSS
  have hl : List.length t0 ≤ 1048576 := Nat.le_trans (Nat.le_add_right _ _) (tot_slice ▸ hs)
  rw [room_len (by omega), cond_true, toNat_cast]
  rw [show w_L_toStringSS_3 (t0, List.replicate t0.length _, 0, ()) = _ from to_loop (xs := t0) t0 (B := lp_L_toStringSS_3.B) rfl (fun i hi acc ha => by
      show b_L_toStringSS_3 t0 acc i = _
      unfold b_L_toStringSS_3
      have hi' : (i : Int) < (t0.length : Int) := by omega
      rw [decide_eq_true hi', cond_true, inB_lt hi, cond_true, toNat_cast, getD_of hi]
      rw [p_L_toStringS _ (Nat.le_trans (tot_mem hi) hs), Option.bind_some, inB_lt (by omega), cond_true, wrap64 (by omega) (by omega)]) (fun acc => by
      show b_L_toStringSS_3 t0 acc t0.length = _
      unfold b_L_toStringSS_3
      rw [decide_eq_false (Int.lt_irrefl _), cond_false])]
  rfl

theorem p_L_eqIntS (t0 : PV S_int) (hs : tot S_int t0 ≤ 4611686018427387904) : f_L_eqIntS t0 t0 = some ((true, ()), ()) := by
  unfold f_L_eqIntS
  have hl : List.length t0 ≤ 4611686018427387904 := Nat.le_trans (Nat.le_add_right _ _) (tot_slice ▸ hs)
  rw [beq_self_eq_true, Bool.not_true, cond_false]
  rw [show w_L_eqIntS_4 (t0, t0, 0, ()) = _ from eq_loop (xs := t0) (B := fun d => b_L_eqIntS_4 d.1 d.2.1 d.2.2.1) (fun i hi => by
      show b_L_eqIntS_4 t0 t0 i = _
      unfold b_L_eqIntS_4
      have hi' : (i : Int) < (t0.length : Int) := by omega
      rw [decide_eq_true hi', cond_true, inB_lt hi, cond_true, cond_true, toNat_cast, getD_of hi]
      rw [beq_self_eq_true, Bool.not_true, cond_false, wrap64 (by omega) (by omega)]) (by
      show b_L_eqIntS_4 t0 t0 t0.length = _
      unfold b_L_eqIntS_4
      rw [decide_eq_false (Int.lt_irrefl _), cond_false])]
  rfl

theorem p_L_eqIntSS (t0 : PV S_S_int) (hs : tot S_S_int t0 ≤ 4611686018427387904) : f_L_eqIntSS t0 t0 = some ((true, ()), ()) := by
  unfold f_L_eqIntSS
  have hl : List.length t0 ≤ 4611686018427387904 := Nat.le_trans (Nat.le_add_right _ _) (tot_slice ▸ hs)
  rw [beq_self_eq_true, Bool.not_true, cond_false]
  rw [show w_L_eqIntSS_4 (t0, t0, 0, ()) = _ from eq_loop (xs := t0) (B := fun d => b_L_eqIntSS_4 d.1 d.2.1 d.2.2.1) (fun i hi => by
      show b_L_eqIntSS_4 t0 t0 i = _
      unfold b_L_eqIntSS_4
      have hi' : (i : Int) < (t0.length : Int) := by omega
      rw [decide_eq_true hi', cond_true, inB_lt hi, cond_true, cond_true, toNat_cast, getD_of hi]
      rw [p_L_eqIntS _ (Nat.le_trans (tot_mem hi) hs), Option.bind_some, Bool.not_true, cond_false, wrap64 (by omega) (by omega)]) (by
      show b_L_eqIntSS_4 t0 t0 t0.length = _
      unfold b_L_eqIntSS_4
      rw [decide_eq_false (Int.lt_irrefl _), cond_false])]
  rfl

theorem p_L_eqStringSS (t0 : PV S_S_string) (hs : tot S_S_string t0 ≤ 4611686018427387904) : f_L_eqStringSS t0 t0 = some ((true, ()), ()) := by
  unfold f_L_eqStringSS
  have hl : List.length t0 ≤ 4611686018427387904 := Nat.le_trans (Nat.le_add_right _ _) (tot_slice ▸ hs)
  rw [beq_self_eq_true, Bool.not_true, cond_false]
  rw [show w_L_eqStringSS_4 (t0, t0, 0, ()) = _ from eq_loop (xs := t0) (B := fun d => b_L_eqStringSS_4 d.1 d.2.1 d.2.2.1) (fun i hi => by
      show b_L_eqStringSS_4 t0 t0 i = _
      unfold b_L_eqStringSS_4
      have hi' : (i : Int) < (t0.length : Int) := by omega
      rw [decide_eq_true hi', cond_true, inB_lt hi, cond_true, cond_true, toNat_cast, getD_of hi]
      rw [p_L_eqStringS _ (Nat.le_trans (tot_mem hi) hs), Option.bind_some, Bool.not_true, cond_false, wrap64 (by omega) (by omega)]) (by
      show b_L_eqStringSS_4 t0 t0 t0.length = _
      unfold b_L_eqStringSS_4
      rw [decide_eq_false (Int.lt_irrefl _), cond_false])]
  rfl
end R
