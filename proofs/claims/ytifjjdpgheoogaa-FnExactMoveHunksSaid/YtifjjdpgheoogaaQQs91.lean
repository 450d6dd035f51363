/- Parts of the proof: PbY Qs1 Qs5 Qs6 Qs7 Qs8. -/
import Derived.Test.YtifjjdpgheoogaaPaY
import Derived.Test.YtifjjdpgheoogaaL3
section
open Go Go.Dn
namespace R
set_option linter.unusedVariables false
theorem p_L_szStringS (t0 : PV S_string) (L : Int) (h0 : 0 ≤ L) (h1 : L ≤ 1048576) (hw : WfV S_string t0) : f_L_szStringS t0 L = some ((szR (tot S_string t0) L, ()), ()) := by
  have hl : List.length t0 ≤ 9223372036854775807 := hw.1
  unfold f_L_szStringS
  rw [wrap64 (by omega) (by omega)]
  by_cases hc : (t0.length : Int) ≤ L
  · rw [decide_eq_false (by omega : ¬ (L - (t0.length : Int) < 0)), cond_false, show w_L_szStringS_5 (t0, L - (t0.length : Int), 0, ()) = _ from sz_loop (T := .str) (xs := t0) (B := fun d => b_L_szStringS_5 d.1 d.2.1 d.2.2.1) (fun i hi l g0 g1 => by
      show b_L_szStringS_5 t0 l i = _
      generalize hxs : t0 = xs at *
      have hi' : (i : Int) < (xs.length : Int) := by omega
      unfold b_L_szStringS_5
      rw [decide_eq_true hi', cond_true, inB_lt hi, cond_true, toNat_cast, getD_of hi]
      have hx : (xs[i]).length ≤ 9223372036854775807 := hw.2 _ (List.getElem_mem hi)
      rw [wrap64 (by omega) (by omega), wrap64 (x := (i : Int) + 1) (by omega) (by omega)]
      by_cases hq : ((tot .str xs[i] : Nat) : Int) ≤ l
      · rw [if_pos hq]; rw [tot_str] at hq ⊢; rw [decide_eq_false (by omega : ¬ (l - (xs[i].length : Int) < 0)), cond_false]
      · rw [if_neg hq]; rw [tot_str] at hq; rw [decide_eq_true (by omega : l - (xs[i].length : Int) < 0), cond_true]) (fun l => by
      show b_L_szStringS_5 t0 l t0.length = _
      unfold b_L_szStringS_5
      rw [decide_eq_false (Int.lt_irrefl _), cond_false]) (by omega) (by omega)]
    exact sz_out hc tot_slice
  · rw [decide_eq_true (by omega : L - (t0.length : Int) < 0), cond_true, szR_neg (by rw [tot_slice]; omega)]

theorem p_L_szHunk (t0 : PV Y_impl_Hunk) (L : Int) (h0 : 0 ≤ L) (h1 : L ≤ 1048576) (hw : WfV Y_impl_Hunk t0) : f_L_szHunk t0 L = some ((szR (tot Y_impl_Hunk t0) L, ()), ()) := by
  unfold f_L_szHunk
  rw [p_L_szStringS _ L (by omega) (by omega) hw.2.2.1, Option.bind_some]
  by_cases c2 : ((tot S_string t0.2.2.1 : Nat) : Int) ≤ L
  · rw [szR_pos c2]; (try dsimp only); rw [decide_eq_false (by omega : ¬ (L - ((tot S_string t0.2.2.1 : Nat) : Int) < 0)), cond_false]
    rw [szR_pos (by simp only [tot] at *; omega)]
    refine congrArg (fun (z : Int) => some ((z, ()), ())) ?_
    simp only [tot] at *; omega
  · rw [szR_neg c2]; rw [szR_neg (by simp only [tot] at *; omega)]; rfl

theorem p_L_szHunkS (t0 : PV S_laws_Hunk) (L : Int) (h0 : 0 ≤ L) (h1 : L ≤ 1048576) (hw : WfV S_laws_Hunk t0) : f_L_szHunkS t0 L = some ((szR (tot S_laws_Hunk t0) L, ()), ()) := by
  have hl : List.length t0 ≤ 9223372036854775807 := hw.1
  unfold f_L_szHunkS
  rw [wrap64 (by omega) (by omega)]
  by_cases hc : (t0.length : Int) ≤ L
  · rw [decide_eq_false (by omega : ¬ (L - (t0.length : Int) < 0)), cond_false, show w_L_szHunkS_5 (t0, L - (t0.length : Int), 0, ()) = _ from sz_loop (T := Y_impl_Hunk) (xs := t0) (B := fun d => b_L_szHunkS_5 d.1 d.2.1 d.2.2.1) (fun i hi l g0 g1 => by
      show b_L_szHunkS_5 t0 l i = _
      generalize hxs : t0 = xs at *
      have hi' : (i : Int) < (xs.length : Int) := by omega
      unfold b_L_szHunkS_5
      rw [decide_eq_true hi', cond_true, inB_lt hi, cond_true, toNat_cast, getD_of hi]
      rw [p_L_szHunk _ l g0 g1 (hw.2 _ (List.getElem_mem hi)), Option.bind_some, wrap64 (x := (i : Int) + 1) (by omega) (by omega)]
      by_cases hq : ((tot Y_impl_Hunk xs[i] : Nat) : Int) ≤ l
      · rw [if_pos hq, szR_pos hq]; dsimp only; rw [decide_eq_false (by omega : ¬ (l - ((tot Y_impl_Hunk xs[i] : Nat) : Int) < 0)), cond_false]
      · rw [if_neg hq, szR_neg hq]; rfl) (fun l => by
      show b_L_szHunkS_5 t0 l t0.length = _
      unfold b_L_szHunkS_5
      rw [decide_eq_false (Int.lt_irrefl _), cond_false]) (by omega) (by omega)]
    exact sz_out hc tot_slice
  · rw [decide_eq_true (by omega : L - (t0.length : Int) < 0), cond_true, szR_neg (by rw [tot_slice]; omega)]

theorem p_L_toStringS (t0 : PV S_string) (hs : tot S_string t0 ≤ 1048576) : f_L_toStringS t0 = some ((t0, ()), ()) := by
  unfold f_L_toStringS
  have hl : List.length t0 ≤ 1048576 := Nat.le_trans (Nat.le_add_right _ _) (tot_slice ▸ hs)
  rw [room_len (by omega), cond_true, toNat_cast]
  rw [show w_L_toStringS_3 (t0, List.replicate t0.length _, 0, ()) = _ from to_loop (xs := t0) t0 (B := lp_L_toStringS_3.B) rfl (fun i hi acc ha => by
      show b_L_toStringS_3 t0 acc i = _
      unfold b_L_toStringS_3
      have hi' : (i : Int) < (t0.length : Int) := by omega
      rw [decide_eq_true hi', cond_true, inB_lt hi, cond_true, toNat_cast, getD_of hi]
      rw [inB_lt (by omega), cond_true, wrap64 (by omega) (by omega)]) (fun acc => by
      show b_L_toStringS_3 t0 acc t0.length = _
      unfold b_L_toStringS_3
      rw [decide_eq_false (Int.lt_irrefl _), cond_false])]
  rfl

theorem p_L_toHunk (t0 : PV Y_impl_Hunk) (hs : tot Y_impl_Hunk t0 ≤ 1048576) : f_L_toHunk t0 = some ((t0, ()), ()) := by
  unfold f_L_toHunk
  simp only [tot] at hs
  rw [p_L_toStringS t0.2.2.1 (by simp only [tot]; omega), Option.bind_some]

theorem p_L_toHunkS (t0 : PV S_laws_Hunk) (hs : tot S_laws_Hunk t0 ≤ 1048576) : f_L_toHunkS t0 = some ((t0, ()), ()) := by
  unfold f_L_toHunkS
  have hl : List.length t0 ≤ 1048576 := Nat.le_trans (Nat.le_add_right _ _) (tot_slice ▸ hs)
  rw [room_len (by omega), cond_true, toNat_cast]
  rw [show w_L_toHunkS_3 (t0, List.replicate t0.length _, 0, ()) = _ from to_loop (xs := t0) t0 (B := lp_L_toHunkS_3.B) rfl (fun i hi acc ha => by
      show b_L_toHunkS_3 t0 acc i = _
      unfold b_L_toHunkS_3
      have hi' : (i : Int) < (t0.length : Int) := by omega
      rw [decide_eq_true hi', cond_true, inB_lt hi, cond_true, toNat_cast, getD_of hi]
      rw [p_L_toHunk _ (Nat.le_trans (tot_mem hi) hs), Option.bind_some, inB_lt (by omega), cond_true, wrap64 (by omega) (by omega)]) (fun acc => by
      show b_L_toHunkS_3 t0 acc t0.length = _
      unfold b_L_toHunkS_3
      rw [decide_eq_false (Int.lt_irrefl _), cond_false])]
  rfl

theorem p_L_eqStringS (t0 : PV S_string) (hs : tot S_string t0 ≤ 4611686018427387904) : f_L_eqStringS t0 t0 = some ((true, ()), ()) := by
  unfold f_L_eqStringS
  have hl : List.length t0 ≤ 4611686018427387904 := Nat.le_trans (Nat.le_add_right _ _) (tot_slice ▸ hs)
  rw [beq_self_eq_true, Bool.not_true, cond_false]
  rw [show w_L_eqStringS_4 (t0, t0, 0, ()) = _ from eq_loop (xs := t0) (B := fun d => b_L_eqStringS_4 d.1 d.2.1 d.2.2.1) (fun i hi => by
      show b_L_eqStringS_4 t0 t0 i = _
      unfold b_L_eqStringS_4
      have hi' : (i : Int) < (t0.length : Int) := by omega
      rw [decide_eq_true hi', cond_true, inB_lt hi, cond_true, cond_true, toNat_cast, getD_of hi]
      rw [beq_self_eq_true, Bool.not_true, cond_false, wrap64 (by omega) (by omega)]) (by
      show b_L_eqStringS_4 t0 t0 t0.length = _
      unfold b_L_eqStringS_4
      rw [decide_eq_false (Int.lt_irrefl _), cond_false])]
  rfl

theorem p_L_eqHunk (t0 : PV Y_impl_Hunk) (hs : tot Y_impl_Hunk t0 ≤ 4611686018427387904) : f_L_eqHunk t0 t0 = some ((true, ()), ()) := by
  unfold f_L_eqHunk
  simp only [tot] at hs
  rw [beq_self_eq_true, Bool.not_true, cond_false]
  rw [beq_self_eq_true, Bool.not_true, cond_false]
  rw [p_L_eqStringS t0.2.2.1 (by simp only [tot]; omega), Option.bind_some, Bool.not_true, cond_false]

theorem p_L_eqHunkS (t0 : PV S_impl_Hunk) (hs : tot S_impl_Hunk t0 ≤ 4611686018427387904) : f_L_eqHunkS t0 t0 = some ((true, ()), ()) := by
  unfold f_L_eqHunkS
  have hl : List.length t0 ≤ 4611686018427387904 := Nat.le_trans (Nat.le_add_right _ _) (tot_slice ▸ hs)
  rw [beq_self_eq_true, Bool.not_true, cond_false]
  rw [show w_L_eqHunkS_4 (t0, t0, 0, ()) = _ from eq_loop (xs := t0) (B := fun d => b_L_eqHunkS_4 d.1 d.2.1 d.2.2.1) (fun i hi => by
      show b_L_eqHunkS_4 t0 t0 i = _
      unfold b_L_eqHunkS_4
      have hi' : (i : Int) < (t0.length : Int) := by omega
      rw [decide_eq_true hi', cond_true, inB_lt hi, cond_true, cond_true, toNat_cast, getD_of hi]
      rw [p_L_eqHunk _ (Nat.le_trans (tot_mem hi) hs), Option.bind_some, Bool.not_true, cond_false, wrap64 (by omega) (by omega)]) (by
      show b_L_eqHunkS_4 t0 t0 t0.length = _
      unfold b_L_eqHunkS_4
      rw [decide_eq_false (Int.lt_irrefl _), cond_false])]
  rfl

noncomputable def tx (k : Int) : List UInt8 := match f_L_markText k with
  | some r => r.1.1
  | none => []

theorem markText_loop : ∀ (d : Nat) (n : Int) (acc : List UInt8), 0 ≤ n → n < (10 : Int) ^ d → n ≤ 4611686018427387904 → acc.length + d ≤ 1000 → ∃ r : List UInt8, w_L_markText_4 (n, acc, ()) = some (r, ()) ∧ r.length ≤ acc.length + d
  | 0, n, acc, h0, h1, hb, h2 => by
    have : n = 0 := by simp at h1; omega
    subst this
    refine ⟨acc, ?_, by omega⟩
    exact fix_end (B := fun d => b_L_markText_4 d.1 d.2.1) (s := (0, acc, ())) rfl
  | d + 1, n, acc, h0, h1, hb, h2 => by
    by_cases hn : n > 0
    · have hq : n.tdiv 10 = n / 10 := Int.tdiv_eq_ediv_of_nonneg h0
      have hlt : n / 10 < (10 : Int) ^ d := by
        rw [Int.pow_succ] at h1
        omega
      have hs : b_L_markText_4 n acc = some (.inl (n / 10, (bytesOfInts [(IntKind.wrap .u8 (IntKind.wrap .i64 (48 + (n.tmod 10))))]) ++ acc, ())) := by
        unfold b_L_markText_4
        rw [decide_eq_true hn, cond_true, show ((10 : Nat) == 0) = false from rfl, cond_false, bytes_one, decide_eq_true (by omega), cond_true, cond_false, hq, wrap64 (by omega) (by omega)]
      obtain ⟨r, h3, h4⟩ := markText_loop d (n / 10) ((bytesOfInts [(IntKind.wrap .u8 (IntKind.wrap .i64 (48 + (n.tmod 10))))]) ++ acc) (by omega) hlt (by omega) (by rw [List.length_append, bytes_one]; omega)
      rw [List.length_append, bytes_one] at h4
      refine ⟨r, ?_, by omega⟩
      exact (fix_go (B := fun d => b_L_markText_4 d.1 d.2.1) (s := (n, acc, ())) hs).trans h3
    · have : n = 0 := by omega
      subst this
      refine ⟨acc, ?_, by omega⟩
      exact fix_end (B := fun d => b_L_markText_4 d.1 d.2.1) (s := (0, acc, ())) rfl

theorem p_L_markText (k : Int) (h0 : 0 ≤ k) (h1 : k ≤ 4611686018427387904) : f_L_markText k = some ((tx k, ()), ()) := by
  have : ∃ r : List UInt8, f_L_markText k = some ((r, ()), ()) := by
    unfold f_L_markText
    by_cases hk : k ≤ 0
    · rw [decide_eq_true hk]; exact ⟨_, rfl⟩
    · rw [decide_eq_false hk, cond_false]
      obtain ⟨r, h3, h4⟩ := markText_loop 19 k [] h0 (by omega) h1 (by simp)
      rw [h3, Option.bind_some]
      dsimp only
      rw [decide_eq_true (by simp at h4 ⊢; omega), cond_true]
      exact ⟨_, rfl⟩
  obtain ⟨r, h⟩ := this
  unfold tx
  rw [h]

theorem p_L_markStringS (t0 : PV S_string) (k : Int) (h0 : 0 ≤ k) (h1 : k + (cn S_string t0 : Nat) ≤ 4611686018427387904) (hs : tot S_string t0 ≤ 4611686018427387904) : f_L_markStringS t0 k = some (((mk tx S_string t0 k).2, ()), ((mk tx S_string t0 k).1, ())) := by
  have hl : List.length t0 ≤ 4611686018427387904 := Nat.le_trans (Nat.le_add_right _ _) (tot_slice ▸ hs)
  unfold f_L_markStringS
  rw [show w_L_markStringS_2 (t0, k, 0, ()) = _ from mark_loop (tx := tx) (T := .str) (Q := fun x => tot .str x ≤ 4611686018427387904) (B := fun d => b_L_markStringS_2 d.1 d.2.1 d.2.2.1) (fun i ys k hi hl hQ h0 h1 => by
      show b_L_markStringS_2 ys k i = _
      have hi' : (i : Int) < (ys.length : Int) := by omega
      have wi : IntKind.wrap .i64 ((i : Int) + 1) = (i : Int) + 1 := wrap64 (by omega) (by omega)
      have c1 : cn .str ys[i] = 1 := rfl
      have m1 := p_L_markText (k) (by omega) (by omega)
      have u1 : IntKind.wrap .i64 (k + 1) = k + 1 := wrap64 (by omega) (by omega)
      unfold b_L_markStringS_2
      simp only [decide_eq_true hi', cond_true, List.length_set, inB_lt hi, toNat_cast, List.set_set, getD_set_self hi, getD_of hi, Option.bind_some, wi, m1, u1, mk_pair, mk_int, mk_str, mk_unit]) (fun ys k hl => by
      show b_L_markStringS_2 ys k t0.length = _
      unfold b_L_markStringS_2
      rw [hl, decide_eq_false (Int.lt_irrefl _), cond_false]) (tot_all hs) h0 h1]
  rfl

theorem p_L_markHunkS (t0 : PV S_impl_Hunk) (k : Int) (h0 : 0 ≤ k) (h1 : k + (cn S_impl_Hunk t0 : Nat) ≤ 4611686018427387904) (hs : tot S_impl_Hunk t0 ≤ 4611686018427387904) : f_L_markHunkS t0 k = some (((mk tx S_impl_Hunk t0 k).2, ()), ((mk tx S_impl_Hunk t0 k).1, ())) := by
  have hl : List.length t0 ≤ 4611686018427387904 := Nat.le_trans (Nat.le_add_right _ _) (tot_slice ▸ hs)
  unfold f_L_markHunkS
  rw [show w_L_markHunkS_2 (t0, k, 0, ()) = _ from mark_loop (tx := tx) (T := Y_impl_Hunk) (Q := fun x => tot Y_impl_Hunk x ≤ 4611686018427387904) (B := fun d => b_L_markHunkS_2 d.1 d.2.1 d.2.2.1) (fun i ys k hi hl hQ h0 h1 => by
      show b_L_markHunkS_2 ys k i = _
      have hi' : (i : Int) < (ys.length : Int) := by omega
      have wi : IntKind.wrap .i64 ((i : Int) + 1) = (i : Int) + 1 := wrap64 (by omega) (by omega)
      have hc : cn Y_impl_Hunk ys[i] = cn (.int .i64) ys[i].1 + (cn (.int .i64) ys[i].2.1 + (cn S_string ys[i].2.2.1 + (0))) := rfl
      have ht : tot Y_impl_Hunk ys[i] = tot (.int .i64) ys[i].1 + (tot (.int .i64) ys[i].2.1 + (tot S_string ys[i].2.2.1 + (0))) := rfl
      have c1 : cn (.int .i64) ys[i].1 = 1 := rfl
      have u1 : IntKind.wrap .i64 (k + 1) = k + 1 := wrap64 (by omega) (by omega)
      have c2 : cn (.int .i64) ys[i].2.1 = 1 := rfl
      have u2 : IntKind.wrap .i64 (k + 1 + 1) = k + 1 + 1 := wrap64 (by omega) (by omega)
      have m3 := p_L_markStringS ys[i].2.2.1 (k + 1 + 1) (by omega) (by omega) (by omega)
      have c3 := mk_cn tx S_string ys[i].2.2.1 (k + 1 + 1)
      unfold b_L_markHunkS_2
      simp only [decide_eq_true hi', cond_true, List.length_set, inB_lt hi, toNat_cast, List.set_set, getD_set_self hi, getD_of hi, Option.bind_some, wi, u1, u2, m3, mk_pair, mk_int, mk_str, mk_unit]) (fun ys k hl => by
      show b_L_markHunkS_2 ys k t0.length = _
      unfold b_L_markHunkS_2
      rw [hl, decide_eq_false (Int.lt_irrefl _), cond_false]) (tot_all hs) h0 h1]
  rfl

theorem p_L_heldStringS (t0 : PV S_string) (k : Int) (h0 : 0 ≤ k) (h1 : k + (cn S_string t0 : Nat) ≤ 4611686018427387904) (hs : tot S_string t0 ≤ 4611686018427387904) : f_L_heldStringS (mk tx S_string t0 k).1 k = some (((mk tx S_string t0 k).2, ()), ()) := by
  have hl : List.length t0 ≤ 4611686018427387904 := Nat.le_trans (Nat.le_add_right _ _) (tot_slice ▸ hs)
  unfold f_L_heldStringS
  rw [show w_L_heldStringS_2 ((mk tx S_string t0 k).1, k, 0, ()) = _ from held_loop (tx := tx) (T := .str) (Q := fun x => tot .str x ≤ 4611686018427387904) (B := fun d => b_L_heldStringS_2 d.1 d.2.1 d.2.2.1) (fun i ys x k hi hl hy hQ h0 h1 => by
      show b_L_heldStringS_2 ys k i = _
      have hi' : (i : Int) < (ys.length : Int) := by omega
      have wi : IntKind.wrap .i64 ((i : Int) + 1) = (i : Int) + 1 := wrap64 (by omega) (by omega)
      have c1 : cn .str x = 1 := rfl
      have m1 := p_L_markText (k) (by omega) (by omega)
      have u1 : IntKind.wrap .i64 (k + 1) = k + 1 := wrap64 (by omega) (by omega)
      unfold b_L_heldStringS_2
      simp only [decide_eq_true hi', cond_true, inB_lt hi, toNat_cast, getD_of hi, hy, Option.bind_some, wi, beq_self_eq_true, Bool.not_true, cond_false, m1, u1, mk_pair, mk_int, mk_str, mk_unit]) (fun ys k hl => by
      show b_L_heldStringS_2 ys k t0.length = _
      unfold b_L_heldStringS_2
      rw [hl, decide_eq_false (Int.lt_irrefl _), cond_false]) (tot_all hs) h0 h1]
  rfl

theorem p_L_heldHunkS (t0 : PV S_impl_Hunk) (k : Int) (h0 : 0 ≤ k) (h1 : k + (cn S_impl_Hunk t0 : Nat) ≤ 4611686018427387904) (hs : tot S_impl_Hunk t0 ≤ 4611686018427387904) : f_L_heldHunkS (mk tx S_impl_Hunk t0 k).1 k = some (((mk tx S_impl_Hunk t0 k).2, ()), ()) := by
  have hl : List.length t0 ≤ 4611686018427387904 := Nat.le_trans (Nat.le_add_right _ _) (tot_slice ▸ hs)
  unfold f_L_heldHunkS
  rw [show w_L_heldHunkS_2 ((mk tx S_impl_Hunk t0 k).1, k, 0, ()) = _ from held_loop (tx := tx) (T := Y_impl_Hunk) (Q := fun x => tot Y_impl_Hunk x ≤ 4611686018427387904) (B := fun d => b_L_heldHunkS_2 d.1 d.2.1 d.2.2.1) (fun i ys x k hi hl hy hQ h0 h1 => by
      show b_L_heldHunkS_2 ys k i = _
      have hi' : (i : Int) < (ys.length : Int) := by omega
      have wi : IntKind.wrap .i64 ((i : Int) + 1) = (i : Int) + 1 := wrap64 (by omega) (by omega)
      have hc : cn Y_impl_Hunk x = cn (.int .i64) x.1 + (cn (.int .i64) x.2.1 + (cn S_string x.2.2.1 + (0))) := rfl
      have ht : tot Y_impl_Hunk x = tot (.int .i64) x.1 + (tot (.int .i64) x.2.1 + (tot S_string x.2.2.1 + (0))) := rfl
      have c1 : cn (.int .i64) x.1 = 1 := rfl
      have u1 : IntKind.wrap .i64 (k + 1) = k + 1 := wrap64 (by omega) (by omega)
      have c2 : cn (.int .i64) x.2.1 = 1 := rfl
      have u2 : IntKind.wrap .i64 (k + 1 + 1) = k + 1 + 1 := wrap64 (by omega) (by omega)
      have m3 := p_L_heldStringS x.2.2.1 (k + 1 + 1) (by omega) (by omega) (by omega)
      have c3 := mk_cn tx S_string x.2.2.1 (k + 1 + 1)
      have d3 : decide ((mk tx S_string x.2.2.1 (k + 1 + 1)).2 < 0) = false := decide_eq_false (by omega)
      unfold b_L_heldHunkS_2
      simp only [decide_eq_true hi', cond_true, inB_lt hi, toNat_cast, getD_of hi, hy, Option.bind_some, wi, beq_self_eq_true, Bool.not_true, cond_false, u1, u2, m3, d3, mk_pair, mk_int, mk_str, mk_unit]) (fun ys k hl => by
      show b_L_heldHunkS_2 ys k t0.length = _
      unfold b_L_heldHunkS_2
      rw [hl, decide_eq_false (Int.lt_irrefl _), cond_false]) (tot_all hs) h0 h1]
  rfl
end R
end

section
/- Lines: both sides' tests of lines answer the same. -/
open Go Go.Dn
namespace R
set_option linter.unusedVariables false

theorem in_I (a b c : Int) : f_I_in a b c = some ((decide (a ≥ b) && decide (a ≤ c), ()), ()) := by
  unfold f_I_in
  cases decide (a ≥ b) <;> rfl
theorem in_S (a b c : Int) : f_S_l1In a b c = some ((decide (a ≥ b) && decide (a ≤ c), ()), ()) := by
  unfold f_S_l1In
  cases decide (a ≥ b) <;> rfl

def inI (a b c : Int) : Bool := decide (a ≥ b) && decide (a ≤ c)
def hasEnd (s : List UInt8) : Bool := (s.take (s.length - 1)).contains 10
def lineP (s : List UInt8) : Bool := inI (s.length : Int) 1 30 && !hasEnd s
def endP (s : List UInt8) : Bool := s.drop (s.length - 1) == [10]

theorem line_len {s : List UInt8} (h : lineP s = true) : 1 ≤ s.length ∧ s.length ≤ 30 := by
  unfold lineP inI at h
  simp only [Bool.and_eq_true, decide_eq_true_eq] at h
  omega

theorem line_S (s : List UInt8) (hs : s.length ≤ 4611686018427387904) : f_S_l1Line s = some ((lineP s, ()), ()) := by
  unfold f_S_l1Line
  have hw : IntKind.wrap .i64 ((s.length : Int) - 1) = (s.length : Int) - 1 := wrap64 (by omega) (by omega)
  rw [show w_S_l1Line_2 (s, 0, ()) = _ from fix_anyN (B := fun d => b_S_l1Line_2 d.1 d.2.1) (s.length - 1) (fun i => s.getD i 0 == 10) (fun i => (s, (i : Int), ())) (fun _ => .inr (false, ())) (.inl (s, ()))
    (fun i hi hq => by
      show b_S_l1Line_2 s i = _
      unfold b_S_l1Line_2
      rw [hw, decide_eq_true (by omega : (i : Int) < (s.length : Int) - 1), cond_true, inB_lt (by omega), cond_true, toNat_cast]
      rw [show ((((s.getD i 0 : UInt8).toNat : Nat) : Int) == 10) = (s.getD i 0 == 10) from byte_eq (n := 10) (by omega), hq, cond_false, wrap64 (by omega) (by omega)]
      simp)
    (fun i hi hq => by
      show b_S_l1Line_2 s i = _
      unfold b_S_l1Line_2
      rw [hw, decide_eq_true (by omega : (i : Int) < (s.length : Int) - 1), cond_true, inB_lt (by omega), cond_true, toNat_cast]
      rw [show ((((s.getD i 0 : UInt8).toNat : Nat) : Int) == 10) = (s.getD i 0 == 10) from byte_eq (n := 10) (by omega), hq, cond_true])
    (by
      show b_S_l1Line_2 s ((s.length - 1 : Nat) : Int) = _
      unfold b_S_l1Line_2
      rw [hw, decide_eq_false (by omega : ¬ (((s.length - 1 : Nat) : Int) < (s.length : Int) - 1)), cond_false])]
  rw [contains_take (by omega)]
  unfold lineP hasEnd
  cases (s.take (s.length - 1)).contains 10
  · simp only [Bool.false_eq_true, if_false, Option.bind_some, in_S]; simp [inI]
  · simp

theorem ends_S (s : List UInt8) (h1 : 1 ≤ s.length) (hs : s.length ≤ 4611686018427387904) : f_S_l1Ends s = some ((endP s, ()), ()) := by
  unfold f_S_l1Ends
  have hw : IntKind.wrap .i64 ((s.length : Int) - 1) = ((s.length - 1 : Nat) : Int) := by rw [wrap64 (by omega) (by omega)]; omega
  rw [hw, inB_lt (by omega), cond_true, toNat_cast]
  rw [show ((((s.getD (s.length - 1) 0 : UInt8).toNat : Nat) : Int) == 10) = (s.getD (s.length - 1) 0 == 10) from byte_eq (n := 10) (by omega)]
  unfold endP
  rw [List.drop_eq_getElem_cons (by omega : s.length - 1 < s.length), List.drop_of_length_le (by omega), getD_of (by omega)]
  simp

theorem line_I (s : List UInt8) (hs : s.length ≤ 4611686018427387904) : f_I_isLine s = some ((lineP s, ()), ()) := by
  unfold f_I_isLine
  rw [in_I, Option.bind_some]
  dsimp only
  unfold lineP
  cases h : inI (s.length : Int) 1 30
  · unfold inI at h; rw [h]; rfl
  · have h' := h
    unfold inI at h'
    rw [h', cond_true]
    simp only [Bool.and_eq_true, decide_eq_true_eq] at h'
    rw [wrap64 (by omega) (by omega)]
    rw [show cutB 0 ((s.length : Int) - 1) s.length = true from by unfold cutB; simp; omega, cond_true]
    unfold f_strings_Contains containsF
    rw [Option.bind_some]
    unfold hasEnd cutL
    rw [show ((s.length : Int) - 1).toNat = s.length - 1 from by omega]
    simp

theorem ends_I (s : List UInt8) (hs : s.length ≤ 4611686018427387904) : f_I_isEnded s = some ((endP s, ()), ()) := by
  unfold f_I_isEnded f_strings_HasSuffix f_internal_stringslite_HasSuffix endP
  by_cases h : 1 ≤ s.length
  · rw [decide_eq_true (by simp; omega : (s.length : Int) ≥ (([10] : List UInt8).length : Int)), cond_true]
    have hw : IntKind.wrap .i64 ((s.length : Int) - (([10] : List UInt8).length : Int)) = ((s.length - 1 : Nat) : Int) := by
      rw [show ((([10] : List UInt8).length : Nat) : Int) = 1 from rfl, wrap64 (by omega) (by omega)]; omega
    rw [hw, show cutB ((s.length - 1 : Nat) : Int) (s.length : Int) s.length = true from by unfold cutB; simp, cond_true]
    unfold cutL
    simp
  · have : s = [] := List.eq_nil_of_length_eq_zero (by omega)
    subst this
    rfl

/-- Lines, each by itself, and not too many. -/
def linesP (l : List (List UInt8)) : Bool := decide (l.length ≤ 40) && !(l.any fun s => !lineP s)
def endsP (l : List (List UInt8)) : Bool := !(anyN l.length fun k => decide ((k : Int) < (l.length : Int) - 1) && !(endP (l.getD k [])))
def goodP (l : List (List UInt8)) : Bool := linesP l && endsP l

def Sm (l : List (List UInt8)) : Prop := l.length ≤ 4611686018427387904 ∧ ∀ s ∈ l, s.length ≤ 4611686018427387904

theorem Sm.len {l : List (List UInt8)} (h : Sm l) : l.length ≤ 4611686018427387904 := h.1
theorem Sm.mem {l : List (List UInt8)} (h : Sm l) {i : Nat} (hi : i < l.length) : (l[i]).length ≤ 4611686018427387904 := h.2 _ (List.getElem_mem hi)
theorem Sm.of {l : List (List UInt8)} {n : Nat} (h : tot (.slice 9 .str) l ≤ n) (hn : n ≤ 4611686018427387904) : Sm l := by
  refine ⟨?_, fun s hs => ?_⟩
  · have h' := h
    rw [tot_slice] at h'
    omega
  · obtain ⟨i, hi, rfl⟩ := List.mem_iff_getElem.1 hs
    have := Nat.le_trans (tot_mem (e := 9) (t := .str) (xs := l) hi) h
    rw [tot_str] at this
    omega

theorem areLines_I (t0 : List (List UInt8)) (hs : Sm t0) : f_I_areLines t0 = some ((linesP t0, ()), ()) := by
  unfold f_I_areLines linesP
  by_cases hl : t0.length ≤ 40
  · rw [decide_eq_true (by omega : (t0.length : Int) ≤ 40), cond_true, decide_eq_true hl, Bool.true_and]
    rw [show w_I_areLines_214_2 (t0, false, t0, (t0.length : Int), true, true, t0, t0, false, t0, t0, (t0.length : Int), 0, ()) = _ from
      fix_any (B := fun d => b_I_areLines_214_2 d.1 d.2.1 d.2.2.1 d.2.2.2.1 d.2.2.2.2.1 d.2.2.2.2.2.1 d.2.2.2.2.2.2.1 d.2.2.2.2.2.2.2.1 d.2.2.2.2.2.2.2.2.1 d.2.2.2.2.2.2.2.2.2.1 d.2.2.2.2.2.2.2.2.2.2.1 d.2.2.2.2.2.2.2.2.2.2.2.1 d.2.2.2.2.2.2.2.2.2.2.2.2.1) t0 (fun s => !lineP s)
      (fun i => (t0, false, t0, (t0.length : Int), true, true, t0, t0, false, t0, t0, (t0.length : Int), (i : Int), ())) (fun i => .inr (t0, false, t0, (t0.length : Int), true, true, t0, t0, false, t0, (i : Int), ())) (.inl (t0, false, t0, (t0.length : Int), true, true, t0, t0, false, t0, ()))
      (fun i hi hq => by
        show b_I_areLines_214_2 _ _ _ _ _ _ _ _ _ _ t0 t0.length i = _
        unfold b_I_areLines_214_2 f_I_areLines_1
        rw [decide_eq_true (by omega : (i : Int) < (t0.length : Int)), cond_true, inB_lt hi, cond_true, toNat_cast, getD_of hi, line_I _ (hs.mem hi), Option.bind_some, Option.bind_some]
        dsimp only
        rw [hq, cond_false, wrap64 (by omega) (by omega)]; rfl)
      (fun i hi hq => by
        show b_I_areLines_214_2 _ _ _ _ _ _ _ _ _ _ t0 t0.length i = _
        unfold b_I_areLines_214_2 f_I_areLines_1
        rw [decide_eq_true (by omega : (i : Int) < (t0.length : Int)), cond_true, inB_lt hi, cond_true, toNat_cast, getD_of hi, line_I _ (hs.mem hi), Option.bind_some, Option.bind_some]
        dsimp only
        rw [hq, cond_true])
      (by
        show b_I_areLines_214_2 _ _ _ _ _ _ _ _ _ _ t0 t0.length t0.length = _
        unfold b_I_areLines_214_2
        rw [decide_eq_false (Int.lt_irrefl _), cond_false])]
    cases h : t0.any fun s => !lineP s
    · rfl
    · simp
  · rw [decide_eq_false (by omega : ¬ (t0.length : Int) ≤ 40), cond_false, decide_eq_false hl]; rfl

theorem goodLines_I (t0 : List (List UInt8)) (hs : Sm t0) : f_I_goodLines t0 = some ((goodP t0, ()), ()) := by
  have hl := hs.len
  unfold f_I_goodLines goodP
  rw [areLines_I t0 hs, Option.bind_some]
  dsimp only
  cases linesP t0
  · rfl
  · rw [Bool.not_true, cond_false]
    have hw : IntKind.wrap .i64 ((t0.length : Int) - 1) = (t0.length : Int) - 1 := wrap64 (by omega) (by omega)
    have hr : ∀ i, i < t0.length → ((bif decide ((i : Int) < (t0.length : Int) - 1) then (f_I_isEnded (t0.getD i [])).bind fun r7 => some (t0, t0, (t0.length : Int), (i : Int), !r7.1.1, ()) else some (t0, t0, (t0.length : Int), (i : Int), false, ())) : Option (PV S_string × PV S_string × Int × Int × Bool × Unit)) =
        some (t0, t0, (t0.length : Int), (i : Int), decide ((i : Int) < (t0.length : Int) - 1) && !(endP (t0.getD i [])), ()) := by
      intro i hi
      cases decide ((i : Int) < (t0.length : Int) - 1)
      · rfl
      · rw [cond_true, getD_of hi, ends_I _ (hs.mem hi)]; rfl
    rw [show w_I_goodLines_4 (t0, t0, (t0.length : Int), 0, ()) = _ from fix_anyN (B := fun d => b_I_goodLines_4 d.1 d.2.1 d.2.2.1 d.2.2.2.1) t0.length (fun k => decide ((k : Int) < (t0.length : Int) - 1) && !(endP (t0.getD k [])))
      (fun i => (t0, t0, (t0.length : Int), (i : Int), ())) (fun _ => .inr (false, ())) (.inl ())
      (fun i hi hq => by
        show b_I_goodLines_4 t0 t0 t0.length i = _
        unfold b_I_goodLines_4
        rw [decide_eq_true (by omega : (i : Int) < (t0.length : Int)), cond_true, inB_lt hi, cond_true, toNat_cast, hw, hr i hi, hq, Option.bind_some]
        dsimp only
        rw [cond_false, wrap64 (by omega) (by omega)]; rfl)
      (fun i hi hq => by
        show b_I_goodLines_4 t0 t0 t0.length i = _
        unfold b_I_goodLines_4
        rw [decide_eq_true (by omega : (i : Int) < (t0.length : Int)), cond_true, inB_lt hi, cond_true, toNat_cast, hw, hr i hi, hq, Option.bind_some]
        rfl)
      (by
        show b_I_goodLines_4 t0 t0 t0.length t0.length = _
        unfold b_I_goodLines_4
        rw [decide_eq_false (Int.lt_irrefl _), cond_false])]
    unfold endsP
    cases anyN t0.length fun k => decide ((k : Int) < (t0.length : Int) - 1) && !(endP (t0.getD k [])) <;> rfl

theorem l1Good_S (t0 : List (List UInt8)) (hs : Sm t0) : f_S_l1Good t0 = some ((goodP t0, ()), ()) := by
  have hl := hs.len
  unfold f_S_l1Good
  have hw : IntKind.wrap .i64 ((t0.length : Int) - 1) = (t0.length : Int) - 1 := wrap64 (by omega) (by omega)
  have hr : ∀ i, i < t0.length → (((f_S_l1Line (t0.getD i [])).bind fun r4 => bif !r4.1.1 then some (t0, t0, (t0.length : Int), (i : Int), true, ()) else
      bif decide ((i : Int) < (t0.length : Int) - 1) then (f_S_l1Ends (t0.getD i [])).bind fun r5 => some (t0, t0, (t0.length : Int), (i : Int), !r5.1.1, ()) else some (t0, t0, (t0.length : Int), (i : Int), false, ())) : Option (PV S_string × PV S_string × Int × Int × Bool × Unit)) =
      some (t0, t0, (t0.length : Int), (i : Int), !(lineP (t0.getD i [])) || (decide ((i : Int) < (t0.length : Int) - 1) && !(endP (t0.getD i []))), ()) := by
    intro i hi
    rw [getD_of hi, line_S _ (hs.mem hi), Option.bind_some]
    dsimp only
    cases hL : lineP t0[i]
    · rfl
    · rw [Bool.not_true, cond_false, Bool.false_or]
      cases decide ((i : Int) < (t0.length : Int) - 1)
      · rfl
      · rw [cond_true, ends_S _ (line_len hL).1 (hs.mem hi)]; rfl
  rw [show w_S_l1Good_2 (t0, t0, (t0.length : Int), 0, ()) = _ from fix_anyN (B := fun d => b_S_l1Good_2 d.1 d.2.1 d.2.2.1 d.2.2.2.1) t0.length (fun k => !(lineP (t0.getD k [])) || (decide ((k : Int) < (t0.length : Int) - 1) && !(endP (t0.getD k []))))
      (fun i => (t0, t0, (t0.length : Int), (i : Int), ())) (fun _ => .inr (false, ())) (.inl (t0, ()))
      (fun i hi hq => by
        show b_S_l1Good_2 t0 t0 t0.length i = _
        unfold b_S_l1Good_2
        rw [decide_eq_true (by omega : (i : Int) < (t0.length : Int)), cond_true, inB_lt hi, cond_true, toNat_cast, hw, hr i hi, hq, Option.bind_some]
        dsimp only
        rw [cond_false, wrap64 (by omega) (by omega)]; rfl)
      (fun i hi hq => by
        show b_S_l1Good_2 t0 t0 t0.length i = _
        unfold b_S_l1Good_2
        rw [decide_eq_true (by omega : (i : Int) < (t0.length : Int)), cond_true, inB_lt hi, cond_true, toNat_cast, hw, hr i hi, hq, Option.bind_some]
        rfl)
      (by
        show b_S_l1Good_2 t0 t0 t0.length t0.length = _
        unfold b_S_l1Good_2
        rw [decide_eq_false (Int.lt_irrefl _), cond_false])]
  rw [anyN_or, show (anyN t0.length fun k => !(lineP (t0.getD k []))) = t0.any fun s => !lineP s from anyN_list (f := fun s => !lineP s)]
  unfold goodP linesP endsP
  cases t0.any fun s => !lineP s
  · cases anyN t0.length fun k => decide ((k : Int) < (t0.length : Int) - 1) && !(endP (t0.getD k []))
    · simp; omega
    · simp
  · simp
end R
end

section
/- Good hunks: both sides answer the same. -/
open Go Go.Dn
namespace R
set_option linter.unusedVariables false

abbrev H0 : PV Y_impl_Hunk := dflt Y_impl_Hunk
def badH (many : Int) (x : PV Y_impl_Hunk) : Bool :=
  !(inI x.1 0 many) || (!(inI x.2.1 0 (IntKind.wrap .i64 (many - x.1))) || (!(linesP x.2.2.1) || ((x.2.1 == 0) && ((List.length x.2.2.1 : Int) == 0))))
def badP (h : List (PV Y_impl_Hunk)) (k : Nat) : Bool :=
  decide ((k : Int) > 0) && decide ((h.getD k H0).1 ≤ IntKind.wrap .i64 ((h.getD (k - 1) H0).1 + (h.getD (k - 1) H0).2.1))
def badK (many : Int) (h : List (PV Y_impl_Hunk)) (k : Nat) : Bool := badH many (h.getD k H0) || badP h k
def hunksP (many : Int) (h : List (PV Y_impl_Hunk)) : Bool := inI many 0 40 && (decide (h.length ≤ 20) && !(anyN h.length (badK many h)))

def SmH (h : List (PV Y_impl_Hunk)) : Prop := h.length ≤ 4611686018427387904 ∧ ∀ x ∈ h, Sm x.2.2.1
theorem SmH.len {h : List (PV Y_impl_Hunk)} (hs : SmH h) : h.length ≤ 4611686018427387904 := hs.1
theorem SmH.mem {h : List (PV Y_impl_Hunk)} (hs : SmH h) {i : Nat} (hi : i < h.length) : Sm (h.getD i H0).2.2.1 := by
  rw [getD_of hi]
  exact hs.2 _ (List.getElem_mem hi)
theorem SmH.of {e : TypeId} {h : List (PV Y_impl_Hunk)} {n : Nat} (hs : tot (.slice e Y_impl_Hunk) h ≤ n) (hn : n ≤ 4611686018427387904) : SmH h := by
  refine ⟨?_, fun x hx => ?_⟩
  · have h' := hs
    rw [tot_slice] at h'
    omega
  · obtain ⟨i, hi, rfl⟩ := List.mem_iff_getElem.1 hx
    have := Nat.le_trans (tot_mem (e := e) (t := Y_impl_Hunk) (xs := h) hi) hs
    refine Sm.of (n := n) ?_ hn
    simp only [tot] at this ⊢
    omega

theorem stepH_I (many : Int) (h : List (PV Y_impl_Hunk)) (hs : SmH h) {i : Nat} (hi : i < h.length) :
    b_I_goodHunks_4 many h h h.length i = some (if badK many h i then .inr (.inr (false, ())) else .inl (many, h, h, (h.length : Int), (i : Int) + 1, ())) := by
  have hl := hs.len
  have hm := hs.mem hi
  unfold b_I_goodHunks_4
  rw [decide_eq_true (by omega : (i : Int) < (h.length : Int)), cond_true, inB_lt hi, cond_true, toNat_cast]
  unfold badK badP
  generalize hx : h.getD i H0 = x at *
  rw [in_I, in_I, areLines_I _ hm, Option.bind_some, Option.bind_some]
  unfold badH inI
  dsimp only
  cases decide (x.1 ≥ 0) && decide (x.1 ≤ many)
  · rfl
  · cases decide (x.2.1 ≥ 0) && decide (x.2.1 ≤ IntKind.wrap .i64 (many - x.1))
    · rfl
    · cases linesP x.2.2.1
      · rfl
      · simp only [Bool.not_true, cond_false, Option.bind_some, Bool.false_or]
        have hb : ((bif x.2.1 == 0 then some (many, h, (i : Int), x, h, (h.length : Int), (i : Int), (List.length x.2.2.1 : Int) == 0, ()) else some (many, h, (i : Int), x, h, (h.length : Int), (i : Int), false, ())) : Option (Int × List (PV Y_impl_Hunk) × Int × PV Y_impl_Hunk × List (PV Y_impl_Hunk) × Int × Int × Bool × Unit)) =
            some (many, h, (i : Int), x, h, (h.length : Int), (i : Int), (x.2.1 == 0) && ((List.length x.2.2.1 : Int) == 0), ()) := by
          cases x.2.1 == 0 <;> rfl
        rw [hb, Option.bind_some]
        dsimp only
        cases (x.2.1 == 0) && ((List.length x.2.2.1 : Int) == 0)
        · simp only [cond_false, Bool.false_or]
          cases i with
          | zero => rw [decide_eq_false (by omega : ¬ (((0 : Nat) : Int) > 0))]; rfl
          | succ j =>
            rw [decide_eq_true (by omega : ((j + 1 : Nat) : Int) > 0), cond_true, show IntKind.wrap .i64 (((j + 1 : Nat) : Int) - 1) = (j : Int) from by rw [wrap64 (by omega) (by omega)]; omega, inB_lt (by omega : j < h.length), cond_true, cond_true, toNat_cast, Option.bind_some, Bool.true_and, Nat.add_sub_cancel]
            dsimp only
            rw [wrap64 (x := ((j + 1 : Nat) : Int) + 1) (by omega) (by omega)]
            cases decide (x.1 ≤ IntKind.wrap .i64 ((h.getD j (dflt Y_impl_Hunk)).1 + (h.getD j (dflt Y_impl_Hunk)).2.1)) <;> rfl
        · rfl

theorem hunks_I (many : Int) (h : List (PV Y_impl_Hunk)) (hs : SmH h) : f_I_goodHunks many h = some ((hunksP many h, ()), ()) := by
  have hl := hs.len
  unfold f_I_goodHunks hunksP
  rw [in_I, Option.bind_some]
  dsimp only
  unfold inI
  cases decide (many ≥ 0) && decide (many ≤ 40)
  · rfl
  · rw [Bool.not_true, cond_false, Option.bind_some]
    dsimp only
    by_cases hn : h.length ≤ 20
    · rw [decide_eq_false (by omega : ¬ ((h.length : Int) > 20)), cond_false, decide_eq_true hn, Bool.true_and, Bool.true_and]
      rw [show w_I_goodHunks_4 (many, h, h, (h.length : Int), 0, ()) = _ from fix_anyN (B := fun d => b_I_goodHunks_4 d.1 d.2.1 d.2.2.1 d.2.2.2.1 d.2.2.2.2.1) h.length (badK many h) (fun i => (many, h, h, (h.length : Int), (i : Int), ())) (fun _ => .inr (false, ())) (.inl ())
        (fun i hi hq => by show b_I_goodHunks_4 many h h h.length i = _; rw [stepH_I many h hs hi, hq]; rfl)
        (fun i hi hq => by show b_I_goodHunks_4 many h h h.length i = _; rw [stepH_I many h hs hi, hq]; rfl)
        (by
          show b_I_goodHunks_4 many h h h.length h.length = _
          unfold b_I_goodHunks_4
          rw [decide_eq_false (Int.lt_irrefl _), cond_false])]
      cases anyN h.length (badK many h) <;> rfl
    · rw [decide_eq_true (by omega : (h.length : Int) > 20), cond_true, decide_eq_false hn]; rfl

def badS (many : Int) (x : PV Y_impl_Hunk) : Bool :=
  decide (x.1 < 0) || (decide (x.2.1 < 0) || (decide (x.2.1 > many) || (decide (x.1 > IntKind.wrap .i64 (many - x.2.1)) || ((IntKind.wrap .i64 (x.2.1 + (List.length x.2.2.1 : Int)) == 0) || decide ((List.length x.2.2.1 : Int) > 40)))))

theorem bad_nums {many A G n : Int} (h0 : 0 ≤ many) (h1 : many ≤ 4611686018427387903) (hn : 0 ≤ n) (hm : n ≤ 4611686018427387904) :
    (decide (A < 0) || (decide (G < 0) || (decide (G > many) || (decide (A > IntKind.wrap .i64 (many - G)) || ((IntKind.wrap .i64 (G + n) == 0) || decide (n > 40)))))) =
      (!(decide (A ≥ 0) && decide (A ≤ many)) || (!(decide (G ≥ 0) && decide (G ≤ IntKind.wrap .i64 (many - A))) || (!(decide (n ≤ 40)) || ((G == 0) && (n == 0))))) := by
  rw [Bool.eq_iff_iff]
  simp only [Bool.or_eq_true, Bool.not_eq_true', decide_eq_true_eq, decide_eq_false_iff_not, beq_iff_eq, Bool.and_eq_false_iff, Bool.and_eq_true]
  by_cases a4 : A ≤ many ∧ 0 ≤ A
  · rw [wrap64 (x := many - A) (by omega) (by omega)]
    by_cases a3 : 0 ≤ G ∧ G ≤ many
    · rw [wrap64 (x := many - G) (by omega) (by omega), wrap64 (x := G + n) (by omega) (by omega)]
      omega
    · constructor
      · intro _; right; left; omega
      · intro _; omega
  · constructor
    · intro _; left; omega
    · intro _
      by_cases a1 : A < 0
      · exact .inl a1
      · by_cases a2 : G < 0
        · exact .inr (.inl a2)
        · by_cases a3 : G > many
          · exact .inr (.inr (.inl a3))
          · right; right; right; left
            rw [wrap64 (x := many - G) (by omega) (by omega)]
            omega

theorem bad_same {many : Int} {x : PV Y_impl_Hunk} (h0 : 0 ≤ many) (h1 : many ≤ 4611686018427387903) (hm : List.length x.2.2.1 ≤ 4611686018427387904) :
    (badS many x || List.any x.2.2.1 fun s => !lineP s) = badH many x := by
  unfold badS badH linesP inI
  have := bad_nums (A := x.1) (G := x.2.1) (n := (List.length x.2.2.1 : Int)) h0 h1 (by omega) (by omega)
  rw [this]
  rw [show decide (List.length x.2.2.1 ≤ 40) = decide ((List.length x.2.2.1 : Int) ≤ 40) from by rw [Bool.eq_iff_iff]; simp; omega]
  cases (decide ((x.1 : Int) ≥ 0) && decide ((x.1 : Int) ≤ many)) <;> cases (decide ((x.2.1 : Int) ≥ 0) && decide ((x.2.1 : Int) ≤ IntKind.wrap .i64 (many - x.1))) <;> cases decide ((List.length x.2.2.1 : Int) ≤ 40) <;>
    cases ((x.2.1 == 0) && ((List.length x.2.2.1 : Int) == 0)) <;> cases (List.any x.2.2.1 fun s => !lineP s) <;> rfl

theorem stepH_S (many : Int) (h : List (PV Y_impl_Hunk)) (hs : SmH h) (h0 : 0 ≤ many) (h1 : many ≤ 4611686018427387903) {i : Nat} (hi : i < h.length) :
    b_S_l2Hunks_2 many h h h.length i = some (if badK many h i then .inr (.inr (false, ())) else .inl (many, h, h, (h.length : Int), (i : Int) + 1, ())) := by
  have hl := hs.len
  have hm := hs.mem hi
  unfold b_S_l2Hunks_2
  rw [decide_eq_true (by omega : (i : Int) < (h.length : Int)), cond_true, inB_lt hi, cond_true, toNat_cast]
  have hq : badK many h i = ((badS many (h.getD i H0) || badP h i) || List.any (h.getD i H0).2.2.1 fun s => !lineP s) := by
    unfold badK
    rw [← bad_same h0 h1 hm.len]
    cases badS many (h.getD i H0) <;> cases badP h i <;> cases List.any (h.getD i H0).2.2.1 fun s => !lineP s <;> rfl
  rw [hq]
  unfold badP
  generalize hx : h.getD i H0 = x at *
  have hr : ∀ f : Bool, (bif f then some (Sum.inr (Sum.inr (false, ()))) else
      (w_S_l2Hunks_7 (many, h, h, (h.length : Int), (i : Int), x.2.2.1, (List.length x.2.2.1 : Int), 0, ())).bind fun x14 =>
            match x14 with
            | .inl l7 =>
              some (.inl (l7.1, l7.2.1, l7.2.2.1, l7.2.2.2.1, (IntKind.wrap .i64 (l7.2.2.2.2.1 + 1)), ()))
            | .inr l8 =>
              some (.inr (.inr (l8.1, ()))) : Option ((PV (.int .i64) × PV S_impl_Hunk × PV S_impl_Hunk × PV (.int .i64) × PV (.int .i64) × Unit) ⊕ ((PV (.int .i64) × PV S_impl_Hunk × Unit) ⊕ (PV .bool × Unit)))) =
      some (if (f || List.any x.2.2.1 fun s => !lineP s) then .inr (.inr (false, ())) else .inl (many, h, h, (h.length : Int), (i : Int) + 1, ())) := by
    intro f
    cases f
    · rw [cond_false, Bool.false_or, show w_S_l2Hunks_7 (many, h, h, (h.length : Int), (i : Int), x.2.2.1, (List.length x.2.2.1 : Int), 0, ()) = _ from
        fix_any (B := fun d => b_S_l2Hunks_7 d.1 d.2.1 d.2.2.1 d.2.2.2.1 d.2.2.2.2.1 d.2.2.2.2.2.1 d.2.2.2.2.2.2.1 d.2.2.2.2.2.2.2.1) x.2.2.1 (fun s => !lineP s) (fun k => (many, h, h, (h.length : Int), (i : Int), x.2.2.1, (List.length x.2.2.1 : Int), (k : Int), ())) (fun _ => .inr (false, ())) (.inl (many, h, h, (h.length : Int), (i : Int), ()))
        (fun k hk hq => by
          have hml := hm.len
          show b_S_l2Hunks_7 many h h h.length i x.2.2.1 (List.length x.2.2.1) k = _
          unfold b_S_l2Hunks_7
          rw [decide_eq_true (by omega : (k : Int) < (List.length x.2.2.1 : Int)), cond_true, inB_lt hk, cond_true, toNat_cast, getD_of hk, line_S _ (hm.mem hk), Option.bind_some]
          dsimp only
          rw [hq, cond_false, wrap64 (by omega) (by omega)]; rfl)
        (fun k hk hq => by
          show b_S_l2Hunks_7 many h h h.length i x.2.2.1 (List.length x.2.2.1) k = _
          unfold b_S_l2Hunks_7
          rw [decide_eq_true (by omega : (k : Int) < (List.length x.2.2.1 : Int)), cond_true, inB_lt hk, cond_true, toNat_cast, getD_of hk, line_S _ (hm.mem hk), Option.bind_some]
          dsimp only
          rw [hq, cond_true])
        (by
          show b_S_l2Hunks_7 many h h h.length i x.2.2.1 (List.length x.2.2.1) (List.length x.2.2.1) = _
          unfold b_S_l2Hunks_7
          rw [decide_eq_false (Int.lt_irrefl _), cond_false])]
      cases List.any x.2.2.1 fun s => !lineP s
      · rw [if_neg (by simp), if_neg (by simp), Option.bind_some]
        dsimp only
        rw [wrap64 (by omega) (by omega)]
      · rfl
    · rfl
  have hb : ∀ j : Bool, ((bif decide ((i : Int) > 0) then bif inB (IntKind.wrap .i64 ((i : Int) - 1)) h.length then bif inB (IntKind.wrap .i64 ((i : Int) - 1)) h.length then
        some (many, h, x, h, (h.length : Int), (i : Int), decide (x.1 ≤ IntKind.wrap .i64 ((h.getD (IntKind.wrap .i64 ((i : Int) - 1)).toNat (dflt Y_impl_Hunk)).1 + (h.getD (IntKind.wrap .i64 ((i : Int) - 1)).toNat (dflt Y_impl_Hunk)).2.1)), ()) else none else none
      else some (many, h, x, h, (h.length : Int), (i : Int), false, ())) : Option ((PV (.int .i64) × PV S_impl_Hunk × PV Y_impl_Hunk × PV S_impl_Hunk × PV (.int .i64) × PV (.int .i64) × PV .bool × Unit))) =
      some (many, h, x, h, (h.length : Int), (i : Int), decide ((i : Int) > 0) && decide (x.1 ≤ IntKind.wrap .i64 ((h.getD (i - 1) H0).1 + (h.getD (i - 1) H0).2.1)), ()) := by
    intro _
    cases i with
    | zero => rw [decide_eq_false (by omega : ¬ (((0 : Nat) : Int) > 0))]; rfl
    | succ j =>
      rw [decide_eq_true (by omega : ((j + 1 : Nat) : Int) > 0), cond_true, show IntKind.wrap .i64 (((j + 1 : Nat) : Int) - 1) = (j : Int) from by rw [wrap64 (by omega) (by omega)]; omega, inB_lt (by omega : j < h.length), cond_true, cond_true, toNat_cast, Bool.true_and, Nat.add_sub_cancel]
  rw [hb true]
  unfold badS
  cases decide (x.1 < 0)
  · rw [cond_false]
    cases decide (x.2.1 < 0)
    · rw [cond_false]
      cases decide (x.2.1 > many)
      · rw [cond_false]
        cases decide (x.1 > IntKind.wrap .i64 (many - x.2.1))
        · rw [cond_false]
          cases (IntKind.wrap .i64 (x.2.1 + (List.length x.2.2.1 : Int)) == 0)
          · rw [cond_false]
            cases decide ((List.length x.2.2.1 : Int) > 40)
            · rw [cond_false, Option.bind_some]
              exact hr _
            · rfl
          · rfl
        · rfl
      · rfl
    · rfl
  · rfl

theorem hunks_S (many : Int) (h : List (PV Y_impl_Hunk)) (hs : SmH h) (h0 : 0 ≤ many) (h1 : many ≤ 4611686018427387903) : f_S_l2Hunks many h = some ((hunksP many h, ()), ()) := by
  have hl := hs.len
  unfold f_S_l2Hunks hunksP
  rw [show w_S_l2Hunks_2 (many, h, h, (h.length : Int), 0, ()) = _ from fix_anyN (B := fun d => b_S_l2Hunks_2 d.1 d.2.1 d.2.2.1 d.2.2.2.1 d.2.2.2.2.1) h.length (badK many h) (fun i => (many, h, h, (h.length : Int), (i : Int), ())) (fun _ => .inr (false, ())) (.inl (many, h, ()))
        (fun i hi hq => by show b_S_l2Hunks_2 many h h h.length i = _; rw [stepH_S many h hs h0 h1 hi, hq]; rfl)
        (fun i hi hq => by show b_S_l2Hunks_2 many h h h.length i = _; rw [stepH_S many h hs h0 h1 hi, hq]; rfl)
        (by
          show b_S_l2Hunks_2 many h h h.length h.length = _
          unfold b_S_l2Hunks_2
          rw [decide_eq_false (Int.lt_irrefl _), cond_false])]
  cases anyN h.length (badK many h)
  · rw [if_neg (by simp), Option.bind_some]
    dsimp only
    rw [in_S, Option.bind_some]
    by_cases hn : h.length ≤ 20
    · rw [decide_eq_true (by omega : (h.length : Int) ≤ 20), cond_true, decide_eq_true hn]
      unfold inI
      cases decide (many ≥ 0) && decide (many ≤ 40) <;> rfl
    · rw [decide_eq_false (by omega : ¬ (h.length : Int) ≤ 20), cond_false, decide_eq_false hn]
      simp
  · rw [if_pos rfl]
    simp
end R
end

section
/- Lines behind hunks: both sides make the same. -/
open Go Go.Dn
namespace R
set_option linter.unusedVariables false

def stepP (l : List (List UInt8)) (a : List (List UInt8) × Int) (x : PV Y_impl_Hunk) : List (List UInt8) × Int := ((a.1 ++ cutL a.2 x.1 l) ++ x.2.2.1, x.1 + x.2.1)
def foldP (l : List (List UInt8)) (h : List (PV Y_impl_Hunk)) : List (List UInt8) × Int := h.foldl (stepP l) ([], 0)
def patchL (l : List (List UInt8)) (h : List (PV Y_impl_Hunk)) : List (List UInt8) := (foldP l h).1 ++ cutL (foldP l h).2 (l.length : Int) l

theorem linesP_len {l : List (List UInt8)} (h : linesP l = true) : l.length ≤ 40 := by
  unfold linesP at h
  simp only [Bool.and_eq_true, decide_eq_true_eq] at h
  exact h.1
theorem goodP_len {l : List (List UInt8)} (h : goodP l = true) : l.length ≤ 40 := by
  unfold goodP at h
  simp only [Bool.and_eq_true] at h
  exact linesP_len h.1

/-- What a good hunk tells. -/
theorem hunk_facts {many : Int} {h : List (PV Y_impl_Hunk)} (hh : hunksP many h = true) : 0 ≤ many ∧ many ≤ 40 ∧ h.length ≤ 20 ∧ ∀ i, i < h.length →
    0 ≤ (h.getD i H0).1 ∧ (h.getD i H0).1 ≤ many ∧ 0 ≤ (h.getD i H0).2.1 ∧ (h.getD i H0).1 + (h.getD i H0).2.1 ≤ many ∧ List.length (h.getD i H0).2.2.1 ≤ 40 ∧ linesP (h.getD i H0).2.2.1 = true ∧
      (0 < i → (h.getD (i - 1) H0).1 + (h.getD (i - 1) H0).2.1 < (h.getD i H0).1) := by
  unfold hunksP inI at hh
  simp only [Bool.and_eq_true, decide_eq_true_eq, Bool.not_eq_true'] at hh
  obtain ⟨⟨h0, h1⟩, h2, h3⟩ := hh
  have hq : ∀ i, i < h.length → badK many h i = false := fun i hi => by
    cases hb : badK many h i with
    | false => rfl
    | true => rw [anyN_iff.2 ⟨i, hi, hb⟩] at h3; cases h3
  have h4 : ∀ i, i < h.length → (0 : Int) ≤ (h.getD i H0).1 ∧ ((h.getD i H0).1 : Int) ≤ many ∧ (0 : Int) ≤ (h.getD i H0).2.1 ∧ ((h.getD i H0).1 : Int) + (h.getD i H0).2.1 ≤ many ∧ linesP (h.getD i H0).2.2.1 = true := by
    intro i hi
    have hb := hq i hi
    unfold badK badH inI at hb
    generalize h.getD i H0 = x at *
    obtain ⟨A, G, N, u⟩ := x
    have e : ∀ (A G : Int), (decide (A ≥ 0) && decide (A ≤ many)) = true → (decide (G ≥ 0) && decide (G ≤ IntKind.wrap .i64 (many - A))) = true → 0 ≤ A ∧ A ≤ many ∧ 0 ≤ G ∧ A + G ≤ many := by
      intro A G p q
      simp only [Bool.and_eq_true, decide_eq_true_eq] at p q
      rw [wrap64 (by omega) (by omega)] at q
      omega
    dsimp only at hb ⊢
    simp only [Bool.or_eq_false_iff, Bool.not_eq_false'] at hb
    obtain ⟨⟨b1, b2, b3, _⟩, _⟩ := hb
    obtain ⟨c1, c2, c3, c4⟩ := e A G b1 b2
    exact ⟨c1, c2, c3, c4, b3⟩
  refine ⟨h0, h1, h2, fun i hi => ?_⟩
  obtain ⟨a1, a2, a3, a4, a5⟩ := h4 i hi
  refine ⟨a1, a2, a3, a4, linesP_len a5, a5, fun hpos => ?_⟩
  have hb := hq i hi
  unfold badK badP at hb
  simp only [Bool.or_eq_false_iff] at hb
  have hb := hb.2
  rw [decide_eq_true (by omega : (i : Int) > 0), Bool.true_and, decide_eq_false_iff_not] at hb
  obtain ⟨b1, b2, b3, b4, _⟩ := h4 (i - 1) (by omega)
  have e : ∀ (A P G : Int), 0 ≤ P → 0 ≤ G → P + G ≤ many → many ≤ 40 → ¬ A ≤ IntKind.wrap .i64 (P + G) → P + G < A := by
    intro A P G p1 p2 p3 p4 q
    rw [wrap64 (by omega) (by omega)] at q
    omega
  exact e _ _ _ b1 b3 b4 h1 hb

theorem cut_len {l : List (List UInt8)} {a b : Int} : (cutL a b l).length ≤ l.length := by
  unfold cutL
  simp
  omega
theorem cut_mem {l : List (List UInt8)} {a b : Int} {s : List UInt8} (h : s ∈ cutL a b l) : s ∈ l := List.mem_of_mem_take (List.mem_of_mem_drop h)

def InvP (l : List (List UInt8)) (h : List (PV Y_impl_Hunk)) (i : Nat) (a : List (List UInt8) × Int) : Prop :=
  a.1.length ≤ 80 * i ∧ 0 ≤ a.2 ∧ a.2 ≤ (l.length : Int) ∧ (i = 0 → a.2 = 0) ∧ (0 < i → a.2 = (h.getD (i - 1) H0).1 + (h.getD (i - 1) H0).2.1) ∧ ∀ s ∈ a.1, s.length ≤ 4611686018427387904

theorem inv_next {l : List (List UInt8)} {h : List (PV Y_impl_Hunk)} (hl : Sm l) (hh : SmH h) (hg : hunksP (l.length : Int) h = true) {i : Nat} (hi : i < h.length) {a : List (List UInt8) × Int} (hI : InvP l h i a) :
    InvP l h (i + 1) (stepP l a h[i]) ∧ 0 ≤ a.2 ∧ a.2 ≤ (h[i].1 : Int) ∧ (h[i].1 : Int) ≤ l.length ∧ 0 ≤ (h[i].2.1 : Int) ∧ (h[i].1 : Int) + h[i].2.1 ≤ l.length ∧ List.length h[i].2.2.1 ≤ 40 ∧ a.1.length ≤ 1600 ∧ l.length ≤ 40 := by
  obtain ⟨f1, f2, f3, f4⟩ := hunk_facts hg
  have f5 := f4 i hi
  rw [getD_of hi] at f5
  obtain ⟨g1, g2, g3, g4, g5, g6, g7⟩ := f5
  obtain ⟨i1, i2, i3, i4, i5, i6⟩ := hI
  have hat : ∀ A : Int, A = h[i].1 → a.2 ≤ A := by
    intro A hA
    rcases Nat.eq_zero_or_pos i with h0 | hp
    · rw [i4 h0, hA]; exact g1
    · rw [i5 hp, hA]; exact Int.le_of_lt (g7 hp)
  have hat := hat _ rfl
  have hc : (cutL a.2 h[i].1 l).length ≤ 40 := Nat.le_trans cut_len (by omega)
  refine ⟨⟨?_, ?_, ?_, fun h => by omega, fun _ => ?_, ?_⟩, i2, hat, g2, g3, g4, g5, by omega, by omega⟩
  · show ((a.1 ++ cutL a.2 h[i].1 l) ++ h[i].2.2.1).length ≤ 80 * (i + 1)
    rw [List.length_append, List.length_append]
    omega
  · exact Int.add_nonneg g1 g3
  · exact g4
  · rw [Nat.add_sub_cancel, getD_of hi]; rfl
  · intro s hs
    rcases List.mem_append.1 hs with hs | hs
    · rcases List.mem_append.1 hs with hs | hs
      · exact i6 s hs
      · exact hl.2 s (cut_mem hs)
    · exact (hh.2 _ (List.getElem_mem hi)).2 s hs

theorem cutB_ok {a b : Int} {n : Nat} (h0 : 0 ≤ a) (h1 : a ≤ b) (h2 : b ≤ (n : Int)) : cutB a b n = true := by
  unfold cutB
  rw [decide_eq_true h0, decide_eq_true h1, decide_eq_true h2]
  rfl

theorem patch_loop_I {l : List (List UInt8)} {h : List (PV Y_impl_Hunk)} (hl : Sm l) (hh : SmH h) (hg : hunksP (l.length : Int) h = true) :
    w_I_patched_3 (l, ([] : List (List UInt8)), 0, h, (h.length : Int), 0, ()) = some (l, (foldP l h).1, (foldP l h).2, ()) ∧ InvP l h h.length (foldP l h) := by
  have := fix_fold (B := fun d => b_I_patched_3 d.1 d.2.1 d.2.2.1 d.2.2.2.1 d.2.2.2.2.1 d.2.2.2.2.2.1) h (stepP l) (fun a i => (l, a.1, a.2, h, (h.length : Int), (i : Int), ())) (fun a => (l, a.1, a.2, ())) (InvP l h)
    (fun i hi a hI => by
      obtain ⟨q0, q1, q2, q3, q4, q5, q6, q7, q8⟩ := inv_next hl hh hg hi hI
      refine ⟨q0, ?_⟩
      show b_I_patched_3 l a.1 a.2 h h.length i = _
      have hlen := hh.len
      unfold b_I_patched_3
      rw [decide_eq_true (by omega : (i : Int) < (h.length : Int)), cond_true, inB_lt hi, cond_true, toNat_cast, getD_of hi]
      have hc : (cutL a.2 h[i].1 l).length ≤ 40 := Nat.le_trans cut_len q8
      rw [cutB_ok q1 q2 q3, cond_true, roomB_ok (by omega), cond_true, roomB_ok (by rw [List.length_append]; omega), cond_true]
      have e : ∀ A G : Int, 0 ≤ A → 0 ≤ G → A + G ≤ (l.length : Int) → IntKind.wrap .i64 (A + G) = A + G := fun A G p1 p2 p3 => wrap64 (by omega) (by omega)
      rw [e _ _ (Int.le_trans q1 q2) q4 q5, wrap64 (by omega) (by omega)]
      simp [stepP])
    (fun a _ => by
      show b_I_patched_3 l a.1 a.2 h h.length h.length = _
      unfold b_I_patched_3
      rw [decide_eq_false (Int.lt_irrefl _), cond_false]) ([], 0) ⟨by simp, Int.le_refl _, by simp, fun _ => rfl, fun h => by omega, fun s hs => by cases hs⟩
  exact this

theorem patch_loop_S {l : List (List UInt8)} {h : List (PV Y_impl_Hunk)} (hl : Sm l) (hh : SmH h) (hg : hunksP (l.length : Int) h = true) :
    w_S_l2Patch_4 (l, ([] : List (List UInt8)), 0, h, (h.length : Int), 0, ()) = some (l, (foldP l h).1, (foldP l h).2, ()) := by
  have := fix_fold (B := fun d => b_S_l2Patch_4 d.1 d.2.1 d.2.2.1 d.2.2.2.1 d.2.2.2.2.1 d.2.2.2.2.2.1) h (stepP l) (fun a i => (l, a.1, a.2, h, (h.length : Int), (i : Int), ())) (fun a => (l, a.1, a.2, ())) (InvP l h)
    (fun i hi a hI => by
      obtain ⟨q0, q1, q2, q3, q4, q5, q6, q7, q8⟩ := inv_next hl hh hg hi hI
      refine ⟨q0, ?_⟩
      show b_S_l2Patch_4 l a.1 a.2 h h.length i = _
      have hlen := hh.len
      unfold b_S_l2Patch_4
      rw [decide_eq_true (by omega : (i : Int) < (h.length : Int)), cond_true, inB_lt hi, cond_true, toNat_cast, getD_of hi]
      have hc : (cutL a.2 h[i].1 l).length ≤ 40 := Nat.le_trans cut_len q8
      rw [cutB_ok q1 q2 q3, cond_true, roomB_ok (by omega), cond_true, roomB_ok (by rw [List.length_append]; omega), cond_true]
      have e : ∀ A G : Int, 0 ≤ A → 0 ≤ G → A + G ≤ (l.length : Int) → IntKind.wrap .i64 (A + G) = A + G := fun A G p1 p2 p3 => wrap64 (by omega) (by omega)
      rw [e _ _ (Int.le_trans q1 q2) q4 q5, wrap64 (by omega) (by omega)]
      simp [stepP])
    (fun a _ => by
      show b_S_l2Patch_4 l a.1 a.2 h h.length h.length = _
      unfold b_S_l2Patch_4
      rw [decide_eq_false (Int.lt_irrefl _), cond_false]) ([], 0) ⟨by simp, Int.le_refl _, by simp, fun _ => rfl, fun h => by omega, fun s hs => by cases hs⟩
  exact this.1

theorem patched_I {l : List (List UInt8)} {h : List (PV Y_impl_Hunk)} (hl : Sm l) (hh : SmH h) (hg : hunksP (l.length : Int) h = true) :
    f_I_patched l h = some ((patchL l h, ()), ()) ∧ Sm (patchL l h) ∧ (patchL l h).length ≤ 1640 := by
  obtain ⟨h1, h2⟩ := patch_loop_I hl hh hg
  obtain ⟨f1, f2, f3, _⟩ := hunk_facts hg
  obtain ⟨i1, i2, i3, _, _, i6⟩ := h2
  have hc : (cutL (foldP l h).2 (l.length : Int) l).length ≤ 40 := Nat.le_trans cut_len (by omega)
  refine ⟨?_, ⟨?_, fun s hs => ?_⟩, ?_⟩
  · unfold f_I_patched
    rw [h1, Option.bind_some]
    dsimp only
    rw [cutB_ok i2 i3 (Int.le_refl _), cond_true, roomB_ok (by omega), cond_true]
    rfl
  · unfold patchL; rw [List.length_append]; omega
  · rcases List.mem_append.1 hs with hs | hs
    · exact i6 s hs
    · exact hl.2 s (cut_mem hs)
  · unfold patchL; rw [List.length_append]; omega

theorem patched_S {l : List (List UInt8)} {h : List (PV Y_impl_Hunk)} (hl : Sm l) (hh : SmH h) (hg : hunksP (l.length : Int) h = true) : f_S_l2Patch l h = some ((patchL l h, ()), ()) := by
  obtain ⟨_, h2⟩ := patch_loop_I hl hh hg
  obtain ⟨f1, f2, f3, _⟩ := hunk_facts hg
  obtain ⟨i1, i2, i3, _, _, i6⟩ := h2
  have hc : (cutL (foldP l h).2 (l.length : Int) l).length ≤ 40 := Nat.le_trans cut_len (by omega)
  unfold f_S_l2Patch
  rw [show w_S_l2Patch_4 (l, [], 0, h, (h.length : Int), 0, ()) = _ from patch_loop_S hl hh hg, Option.bind_some]
  dsimp only
  rw [cutB_ok i2 i3 (Int.le_refl _), cond_true, roomB_ok (by omega), cond_true]
  rfl

/-- What comes of hunks: the lines, if all is good. -/
def patchOk (l : List (List UInt8)) (h : List (PV Y_impl_Hunk)) : Bool := goodP l && (hunksP (l.length : Int) h && goodP (patchL l h))
def patchR (l : List (List UInt8)) (h : List (PV Y_impl_Hunk)) : List (List UInt8) := bif patchOk l h then patchL l h else []

theorem patch_I {l : List (List UInt8)} {h : List (PV Y_impl_Hunk)} (hl : Sm l) (hh : SmH h) : f_I_Patch l h = some ((patchR l h, patchOk l h, ()), ()) := by
  unfold f_I_Patch patchR patchOk
  rw [goodLines_I l hl, Option.bind_some, hunks_I _ h hh]
  dsimp only
  cases goodP l
  · rfl
  · cases hg : hunksP (l.length : Int) h
    · rfl
    · obtain ⟨p1, p2, _⟩ := patched_I hl hh hg
      simp only [Bool.not_true, cond_false, Option.bind_some, p1, goodLines_I _ p2]
      cases goodP (patchL l h) <;> rfl

theorem patch_S {l : List (List UInt8)} {h : List (PV Y_impl_Hunk)} (hl : Sm l) (hh : SmH h) : f_S_Patch l h = some ((patchR l h, patchOk l h, ()), ()) := by
  have hlen := hl.len
  unfold f_S_Patch f_S_l2Asked patchR patchOk
  rw [l1Good_S l hl, Option.bind_some]
  dsimp only
  cases hgl : goodP l
  · rfl
  · have := goodP_len hgl
    rw [cond_true, hunks_S _ h hh (by omega) (by omega), Option.bind_some, Option.bind_some]
    dsimp only
    cases hg : hunksP (l.length : Int) h
    · rfl
    · obtain ⟨_, p2, _⟩ := patched_I hl hh hg
      rw [patched_S hl hh hg, Option.bind_some, l1Good_S _ p2, Option.bind_some]
      simp only [Bool.not_true, cond_false]
      cases goodP (patchL l h) <;> rfl
end R
end

section
/- Hunks moved behind other ones: both sides make the same; CanSwap. -/
open Go Go.Dn
namespace R
set_option linter.unusedVariables false

abbrev TX := List (List UInt8)
abbrev HK := List (PV Y_impl_Hunk)

theorem same_core {B : TX × TX × Int × Int × Unit → Option ((TX × TX × Int × Int × Unit) ⊕ (Unit ⊕ (Bool × Unit)))} {a b : TX} (hab : a.length = b.length)
    (hstep : ∀ i, i < a.length → B (a, b, (a.length : Int), (i : Int), ()) = some (if !(a.getD i [] == b.getD i []) then .inr (.inr (false, ())) else .inl (a, b, (a.length : Int), ((i + 1 : Nat) : Int), ())))
    (hend : B (a, b, (a.length : Int), (a.length : Int), ()) = some (.inr (.inl ()))) :
    fix B (a, b, (a.length : Int), 0, ()) = some (if decide (a = b) = true then .inl () else .inr (false, ())) := by
  have := fix_anyN (B := B) a.length (fun i => !(a.getD i [] == b.getD i [])) (fun i => (a, b, (a.length : Int), (i : Int), ())) (fun _ => .inr (false, ())) (.inl ())
    (fun i hi hq => by rw [hstep i hi, if_neg (by rw [hq]; simp)])
    (fun i hi hq => by rw [hstep i hi, if_pos hq])
    hend
  rw [show ((0 : Nat) : Int) = 0 from rfl] at this
  have hd : decide (a = b) = !(anyN a.length fun i => !(a.getD i [] == b.getD i [])) := by
    have h2 := beq_places (d := ([] : List UInt8)) hab
    have e : (fun i => !(a.getD i [] == b.getD i [])) = (fun i => !(@BEq.beq _ instBEqOfDecidableEq (a.getD i []) (b.getD i []))) := by
      funext i
      congr 1
      rw [Bool.eq_iff_iff]
      simp
    rw [e, ← h2, Bool.eq_iff_iff]
    simp
  rw [this, hd]
  cases anyN a.length fun i => !(a.getD i [] == b.getD i []) <;> rfl

theorem own_S (l : TX) (h : l.length ≤ 1099511627776) : f_S_l1OwnT l = some ((l, ()), ()) := by
  unfold f_S_l1OwnT
  rw [roomB_ok (by simpa using h)]
  rfl
theorem own_I (l : TX) (h : l.length ≤ 1099511627776) : f_slices_Clone_string l = some ((l, ()), ()) := by
  unfold f_slices_Clone_string
  rw [roomB_ok (by simpa using h)]
  rfl
theorem own_H (l : HK) (h : l.length ≤ 1099511627776) : f_slices_Clone_Hunk l = some ((l, ()), ()) := by
  unfold f_slices_Clone_Hunk
  rw [roomB_ok (by simpa using h)]
  rfl

theorem mid_set {α : Type} (f : α → α) {b : List α} {i : Nat} (hi : i < b.length) (y : α) : ((b.take i).map f ++ b.drop i).set i y = (b.take i).map f ++ y :: b.drop (i + 1) := by
  have hl : ((b.take i).map f).length = i := by rw [List.length_map, List.length_take]; omega
  rw [List.set_append_right _ _ (by omega), hl, Nat.sub_self, List.drop_eq_getElem_cons hi, List.set_cons_zero]
theorem mid_next {α : Type} (f : α → α) {b : List α} {i : Nat} (hi : i < b.length) : (b.take i).map f ++ f b[i] :: b.drop (i + 1) = (b.take (i + 1)).map f ++ b.drop (i + 1) := by
  rw [← List.take_append_getElem hi, List.map_append, List.append_assoc]
  rfl
theorem mid_get {α : Type} (f : α → α) {b : List α} {i : Nat} (hi : i < b.length) (d : α) : ((b.take i).map f ++ b.drop i).getD i d = b[i] := by
  have hl : ((b.take i).map f).length = i := by rw [List.length_map, List.length_take]; omega
  rw [List.getD_eq_getElem?_getD, List.getElem?_append_right (by omega), hl, Nat.sub_self, List.getElem?_drop, Nat.add_zero, List.getElem?_eq_getElem hi]
  rfl
theorem mid_len {α : Type} (f : α → α) {b : List α} {i : Nat} (hi : i ≤ b.length) : ((b.take i).map f ++ b.drop i).length = b.length := by
  rw [List.length_append, List.length_map, List.length_take, List.length_drop]; omega

theorem plW {A G m : Int} (h0 : 0 ≤ A) (h1 : 0 ≤ G) (h2 : A + G ≤ m) (h3 : m ≤ 40) : IntKind.wrap .i64 (A + G) = A + G := wrap64 (by omega) (by omega)
theorem plM {s v z : Int} (h0 : -10000 ≤ s) (h1 : s ≤ 10000) (h2 : 0 ≤ v) (h3 : v ≤ 40) (h4 : 0 ≤ z) (h5 : z ≤ 40) : IntKind.wrap .i64 (s + IntKind.wrap .i64 (v - z)) = s + (v - z) := by
  rw [wrap64 (x := v - z) (by omega) (by omega), wrap64 (by omega) (by omega)]

def shp (p : Int) (s : Int) (x : PV Y_impl_Hunk) : Int := bif decide (x.1 + x.2.1 ≤ p) then s + ((List.length x.2.2.1 : Int) - x.2.1) else s
def plc (a : HK) (p : Int) : Int := p + a.foldl (shp p) 0
def tch (x y : PV Y_impl_Hunk) : Bool := decide (x.1 ≤ y.1 + y.2.1) && decide (y.1 ≤ x.1 + x.2.1)
def FreeP (a : HK) (p : Int) : Prop := ∀ x ∈ a, ¬ (x.1 + x.2.1 ≤ p) → ¬ x.1 ≤ p
def PInv (i : Nat) (s : Int) : Prop := -100 * (i : Int) ≤ s ∧ s ≤ 40 + 100 * (i : Int)

theorem fold_shp (p : Int) : ∀ (a : HK) (c : Int), a.foldl (shp p) c = c + a.foldl (shp p) 0
  | [], c => by simp
  | x :: a, c => by
    rw [List.foldl_cons, List.foldl_cons, fold_shp p a (shp p c x), fold_shp p a (shp p 0 x)]
    unfold shp
    cases decide (x.1 + x.2.1 ≤ p)
    · rw [cond_false, cond_false]; omega
    · rw [cond_true, cond_true]; omega

theorem pinv_next {p : Int} {i : Nat} {s : Int} {x : PV Y_impl_Hunk} (hI : PInv i s) (g0 : 0 ≤ x.2.1) (g1 : x.2.1 ≤ 40) (hn : List.length x.2.2.1 ≤ 40) : PInv (i + 1) (shp p s x) := by
  obtain ⟨h1, h2⟩ := hI
  have key : ∀ v z : Int, 0 ≤ v → v ≤ 40 → 0 ≤ z → z ≤ 40 → PInv (i + 1) (s + (v - z)) := fun v z _ _ _ _ => ⟨by omega, by omega⟩
  unfold shp
  cases decide (x.1 + x.2.1 ≤ p)
  · exact ⟨by show _ ≤ s; omega, by show s ≤ _; omega⟩
  · exact key _ _ (Int.natCast_nonneg _) (by omega) g0 g1

theorem hunk_at {many : Int} {h : HK} (hg : hunksP many h = true) {i : Nat} (hi : i < h.length) : 0 ≤ h[i].1 ∧ h[i].1 ≤ many ∧ 0 ≤ h[i].2.1 ∧ h[i].1 + h[i].2.1 ≤ many ∧ many ≤ 40 ∧ List.length h[i].2.2.1 ≤ 40 ∧ h[i].2.1 ≤ 40 := by
  obtain ⟨f1, f2, f3, f4⟩ := hunk_facts hg
  have f5 := f4 i hi
  rw [getD_of hi] at f5
  obtain ⟨g1, g2, g3, g4, g5, _⟩ := f5
  have e : ∀ A G : Int, 0 ≤ A → A + G ≤ many → G ≤ 40 := fun A G _ _ => by omega
  exact ⟨g1, g2, g3, g4, f2, g5, e _ _ g1 g4⟩

theorem place_S {many p : Int} {a : HK} (hg : hunksP many a = true) (h0 : 0 ≤ p) (h1 : p ≤ 40) (hf : FreeP a p) : f_S_l2Place a p = some ((plc a p, ()), ()) := by
  obtain ⟨_, _, h20, _⟩ := hunk_facts hg
  have hF := fix_fold (B := fun d => b_S_l2Place_3 d.1 d.2.1 d.2.2.1 d.2.2.2.1 d.2.2.2.2.1) a (shp p) (fun s i => (p, s, a, (a.length : Int), (i : Int), ())) (fun s => .inl (p, s, ())) PInv
    (fun i hi s hI => by
      obtain ⟨q1, q2, q3, q4, q5, q6, q7⟩ := hunk_at hg hi
      have hfx := hf _ (List.getElem_mem hi)
      refine ⟨pinv_next hI q3 q7 q6, ?_⟩
      obtain ⟨i1, i2⟩ := hI
      show b_S_l2Place_3 p s a a.length i = _
      unfold b_S_l2Place_3
      rw [decide_eq_true (by omega : (i : Int) < (a.length : Int)), cond_true, inB_lt hi, cond_true, toNat_cast, getD_of hi]
      generalize a[i] = x at *
      rw [plW q1 q3 q4 q5]
      unfold shp
      cases c : decide (x.1 + x.2.1 ≤ p)
      · rw [cond_false, decide_eq_false (hfx (of_decide_eq_false c)), cond_false, Option.bind_some]
        dsimp only
        rw [wrap64 (x := (i : Int) + 1) (by omega) (by omega)]
        rfl
      · rw [cond_true, Option.bind_some]
        dsimp only
        rw [plM (by omega) (by omega) (Int.natCast_nonneg _) (by omega) q3 q7, wrap64 (x := (i : Int) + 1) (by omega) (by omega)]
        rfl)
    (fun s _ => by
      show b_S_l2Place_3 p s a a.length a.length = _
      unfold b_S_l2Place_3
      rw [decide_eq_false (Int.lt_irrefl _), cond_false]) 0 ⟨by simp, by simp⟩
  obtain ⟨hF, i1, i2⟩ := hF
  unfold f_S_l2Place plc
  rw [show w_S_l2Place_3 (p, 0, a, (a.length : Int), 0, ()) = _ from hF, Option.bind_some]
  dsimp only
  rw [wrap64 (by omega) (by omega)]

theorem place_I {many p : Int} {a : HK} (ha : SmH a) (hg : hunksP many a = true) (h0 : 0 ≤ p) (h1 : p ≤ many) (hf : FreeP a p) : f_I_PlaceOf a many p = some ((plc a p, true, ()), ()) := by
  obtain ⟨_, hm, h20, _⟩ := hunk_facts hg
  have hF := fix_fold (B := fun d => b_I_PlaceOf_5 d.1 d.2.1 d.2.2.1 d.2.2.2.1 d.2.2.2.2.1) a (shp p) (fun s i => (p, s, a, (a.length : Int), (i : Int), ())) (fun s => .inl (s, ())) PInv
    (fun i hi s hI => by
      obtain ⟨q1, q2, q3, q4, q5, q6, q7⟩ := hunk_at hg hi
      have hfx := hf _ (List.getElem_mem hi)
      refine ⟨pinv_next hI q3 q7 q6, ?_⟩
      obtain ⟨i1, i2⟩ := hI
      show b_I_PlaceOf_5 p s a a.length i = _
      unfold b_I_PlaceOf_5
      rw [decide_eq_true (by omega : (i : Int) < (a.length : Int)), cond_true, inB_lt hi, cond_true, toNat_cast, getD_of hi]
      generalize a[i] = x at *
      rw [plW q1 q3 q4 q5]
      unfold shp
      cases c : decide (x.1 + x.2.1 ≤ p)
      · rw [cond_false, decide_eq_false (hfx (of_decide_eq_false c)), cond_false, Option.bind_some]
        dsimp only
        rw [wrap64 (x := (i : Int) + 1) (by omega) (by omega)]
        rfl
      · rw [cond_true, Option.bind_some]
        dsimp only
        rw [plM (by omega) (by omega) (Int.natCast_nonneg _) (by omega) q3 q7, wrap64 (x := (i : Int) + 1) (by omega) (by omega)]
        rfl)
    (fun s _ => by
      show b_I_PlaceOf_5 p s a a.length a.length = _
      unfold b_I_PlaceOf_5
      rw [decide_eq_false (Int.lt_irrefl _), cond_false]) p ⟨by simp; omega, by simp; omega⟩
  obtain ⟨hF, _⟩ := hF
  rw [fold_shp] at hF
  unfold f_I_PlaceOf plc
  rw [hunks_I many a ha, hg, Option.bind_some]
  dsimp only
  rw [Bool.not_true, cond_false, in_I, Option.bind_some, Option.bind_some]
  dsimp only
  rw [decide_eq_true (by omega : p ≥ 0), decide_eq_true h1, Bool.and_self, Bool.not_true, cond_false]
  rw [show w_I_PlaceOf_5 (p, p, a, (a.length : Int), 0, ()) = _ from hF, Option.bind_some]

theorem free_of {a : HK} {y : PV Y_impl_Hunk} (hy : 0 ≤ y.2.1) (h : (a.any fun x => tch x y) = false) : FreeP a y.1 := by
  intro x hx h1 h2
  have e : ∀ A G p q : Int, ¬ A + G ≤ p → A ≤ p → 0 ≤ q → A ≤ p + q ∧ p ≤ A + G := fun A G p q _ _ _ => by omega
  obtain ⟨e1, e2⟩ := e _ _ _ _ h1 h2 hy
  have : tch x y = true := by unfold tch; rw [decide_eq_true e1, decide_eq_true e2]; rfl
  rw [List.any_eq_false] at h
  exact h x hx this

def anyT (a b : HK) : Bool := a.any fun x => b.any fun y => tch x y
theorem any_swap (a b : HK) : (b.any fun y => a.any fun x => tch x y) = anyT a b := by
  unfold anyT
  rw [Bool.eq_iff_iff]
  simp only [List.any_eq_true]
  constructor
  · rintro ⟨y, hy, x, hx, h⟩; exact ⟨x, hx, y, hy, h⟩
  · rintro ⟨x, hx, y, hy, h⟩; exact ⟨y, hy, x, hx, h⟩
theorem anyT_free {a b : HK} (h : anyT a b = false) {y : PV Y_impl_Hunk} (hy : y ∈ b) : (a.any fun x => tch x y) = false := by
  rw [← any_swap, List.any_eq_false] at h
  exact Bool.eq_false_iff.2 (h y hy)

def mvX (a : HK) (y : PV Y_impl_Hunk) : PV Y_impl_Hunk := (plc a y.1, y.2)
def mv (a b : HK) : HK := b.map (mvX a)
theorem mv_sm {a b : HK} (hb : SmH b) : SmH (mv a b) := by
  refine ⟨by unfold mv; rw [List.length_map]; exact hb.1, fun x hx => ?_⟩
  unfold mv at hx
  obtain ⟨y, hy, rfl⟩ := List.mem_map.1 hx
  exact hb.2 y hy

theorem copied_I {b : HK} (hb : b.length ≤ 20) (hn : ∀ x ∈ b, List.length x.2.2.1 ≤ 40) : f_I_copiedHunks b = some ((b, ()), ()) := by
  unfold f_I_copiedHunks copF
  rw [roomB_ok (by omega), Bool.true_and]
  have h : (b.all fun h => roomB h.2.2.1.length) = true := List.all_eq_true.2 fun x hx => roomB_ok (by have := hn x hx; omega)
  erw [h]
  rfl

theorem ownH_S {b : HK} (hb : b.length ≤ 20) (hn : ∀ x ∈ b, List.length x.2.2.1 ≤ 40) : f_S_l13OwnH b = some ((b, ()), ()) := by
  have hF := fix_all (B := fun d => b_S_l13OwnH_3 d.1 d.2.1 d.2.2.1 d.2.2.2.1) (fun i => (b.take i, b, (b.length : Int), (i : Int), ())) b.length (r := (b, ()))
    (fun i hi => by
      have hx := hn _ (List.getElem_mem hi)
      show b_S_l13OwnH_3 (b.take i) b b.length i = _
      unfold b_S_l13OwnH_3
      rw [decide_eq_true (by omega : (i : Int) < (b.length : Int)), cond_true, inB_lt hi, cond_true, toNat_cast, getD_of hi, own_S _ (by omega), Option.bind_some]
      dsimp only
      rw [roomB_ok (by rw [List.length_take, List.length_cons, List.length_nil]; omega), cond_true, wrap64 (x := (i : Int) + 1) (by omega) (by omega)]
      show some (Sum.inl (b.take i ++ [b[i]], b, (b.length : Int), ((i : Int) + 1), ())) = _
      rw [List.take_append_getElem hi]
      rfl)
    (by
      show b_S_l13OwnH_3 (b.take b.length) b b.length b.length = _
      unfold b_S_l13OwnH_3
      rw [decide_eq_false (Int.lt_irrefl _), cond_false, List.take_length])
  unfold f_S_l13OwnH
  rw [show w_S_l13OwnH_3 ([], b, (b.length : Int), 0, ()) = _ from hF, Option.bind_some]

theorem l13Move_S {many : Int} {a b : HK} (ha : hunksP many a = true) (hb : hunksP many b = true) (ht : anyT a b = false) : f_S_l13Move a b = some ((mv a b, ()), ()) := by
  obtain ⟨_, _, h20, _⟩ := hunk_facts hb
  have hn : ∀ x ∈ b, List.length x.2.2.1 ≤ 40 := fun x hx => by
    obtain ⟨i, hi, rfl⟩ := List.mem_iff_getElem.1 hx
    exact (hunk_at hb hi).2.2.2.2.2.1
  have hF := fix_all (B := fun d => b_S_l13Move_3 d.1 d.2.1 d.2.2.1 d.2.2.2.1) (fun i => (a, (b.take i).map (mvX a) ++ b.drop i, (b.length : Int), (i : Int), ())) b.length (r := (mv a b, ()))
    (fun i hi => by
      obtain ⟨q1, q2, q3, q4, q5, q6, q7⟩ := hunk_at hb hi
      have hfr := free_of q3 (anyT_free ht (List.getElem_mem hi))
      show b_S_l13Move_3 a ((b.take i).map (mvX a) ++ b.drop i) b.length i = _
      unfold b_S_l13Move_3
      rw [decide_eq_true (by omega : (i : Int) < (b.length : Int)), cond_true, inB_lt (by rw [mid_len _ (by omega)]; exact hi), cond_true, toNat_cast, mid_get _ hi, place_S ha q1 (Int.le_trans q2 q5) hfr, Option.bind_some]
      dsimp only
      rw [cond_true, mid_set _ hi, wrap64 (x := (i : Int) + 1) (by omega) (by omega)]
      show some (Sum.inl (a, (b.take i).map (mvX a) ++ mvX a b[i] :: b.drop (i + 1), (b.length : Int), ((i : Int) + 1), ())) = _
      rw [mid_next _ hi]
      rfl)
    (by
      show b_S_l13Move_3 a ((b.take b.length).map (mvX a) ++ b.drop b.length) b.length b.length = _
      unfold b_S_l13Move_3 mv
      rw [decide_eq_false (Int.lt_irrefl _), cond_false, List.take_length, List.drop_length, List.append_nil])
  unfold f_S_l13Move
  rw [ownH_S h20 hn, Option.bind_some]
  dsimp only
  rw [show w_S_l13Move_3 (a, b, (b.length : Int), 0, ()) = _ from hF, Option.bind_some]

theorem touch_S {many : Int} {a b : HK} (ha : hunksP many a = true) (hb : hunksP many b = true) : f_S_l13Touch a b = some ((anyT a b, ()), ()) := by
  obtain ⟨_, _, ha20, _⟩ := hunk_facts ha
  obtain ⟨_, _, hb20, _⟩ := hunk_facts hb
  have inner : ∀ (i : Nat) (hi : i < a.length), w_S_l13Touch_5 (b, a[i], a, (a.length : Int), (i : Int), b, (b.length : Int), 0, ()) = some (if b.any (fun y => tch a[i] y) then .inr (true, ()) else .inl (b, a, (a.length : Int), (i : Int), ())) := by
    intro i hi
    obtain ⟨p1, p2, p3, p4, p5, p6, p7⟩ := hunk_at ha hi
    generalize a[i] = x at *
    exact fix_any (B := fun d => b_S_l13Touch_5 d.1 d.2.1 d.2.2.1 d.2.2.2.1 d.2.2.2.2.1 d.2.2.2.2.2.1 d.2.2.2.2.2.2.1 d.2.2.2.2.2.2.2.1) b (fun y => tch x y) (fun k => (b, x, a, (a.length : Int), (i : Int), b, (b.length : Int), (k : Int), ())) (fun _ => .inr (true, ())) (.inl (b, a, (a.length : Int), (i : Int), ()))
      (fun k hk hq => by
        obtain ⟨q1, q2, q3, q4, q5, q6, q7⟩ := hunk_at hb hk
        show b_S_l13Touch_5 b x a a.length i b b.length k = _
        unfold b_S_l13Touch_5
        rw [decide_eq_true (by omega : (k : Int) < (b.length : Int)), cond_true, inB_lt hk, cond_true, toNat_cast, getD_of hk]
        generalize b[k] = y at *
        rw [plW q1 q3 q4 q5, plW p1 p3 p4 p5]
        unfold tch at hq
        cases c : decide (x.1 ≤ y.1 + y.2.1)
        · rw [cond_false, Option.bind_some]
          dsimp only
          rw [cond_false, wrap64 (x := (k : Int) + 1) (by omega) (by omega)]
          rfl
        · rw [c, Bool.true_and] at hq
          rw [cond_true, hq, Option.bind_some]
          dsimp only
          rw [cond_false, wrap64 (x := (k : Int) + 1) (by omega) (by omega)]
          rfl)
      (fun k hk hq => by
        obtain ⟨q1, q2, q3, q4, q5, q6, q7⟩ := hunk_at hb hk
        show b_S_l13Touch_5 b x a a.length i b b.length k = _
        unfold b_S_l13Touch_5
        rw [decide_eq_true (by omega : (k : Int) < (b.length : Int)), cond_true, inB_lt hk, cond_true, toNat_cast, getD_of hk]
        generalize b[k] = y at *
        rw [plW q1 q3 q4 q5, plW p1 p3 p4 p5]
        unfold tch at hq
        rw [Bool.and_eq_true] at hq
        rw [hq.1, hq.2, cond_true, Option.bind_some]
        rfl)
      (by
        show b_S_l13Touch_5 b x a a.length i b b.length b.length = _
        unfold b_S_l13Touch_5
        rw [decide_eq_false (Int.lt_irrefl _), cond_false])
  have outer := fix_any (B := fun d => b_S_l13Touch_2 d.1 d.2.1 d.2.2.1 d.2.2.2.1) a (fun x => b.any fun y => tch x y) (fun i => (b, a, (a.length : Int), (i : Int), ())) (fun _ => .inr (true, ())) (.inl ())
    (fun i hi hq => by
      show b_S_l13Touch_2 b a a.length i = _
      unfold b_S_l13Touch_2
      rw [decide_eq_true (by omega : (i : Int) < (a.length : Int)), cond_true, inB_lt hi, cond_true, toNat_cast, getD_of hi, inner i hi, if_neg (by rw [hq]; simp), Option.bind_some]
      dsimp only
      rw [wrap64 (x := (i : Int) + 1) (by omega) (by omega)]
      rfl)
    (fun i hi hq => by
      show b_S_l13Touch_2 b a a.length i = _
      unfold b_S_l13Touch_2
      rw [decide_eq_true (by omega : (i : Int) < (a.length : Int)), cond_true, inB_lt hi, cond_true, toNat_cast, getD_of hi, inner i hi, if_pos hq, Option.bind_some])
    (by
      show b_S_l13Touch_2 b a a.length a.length = _
      unfold b_S_l13Touch_2
      rw [decide_eq_false (Int.lt_irrefl _), cond_false])
  unfold f_S_l13Touch
  rw [show w_S_l13Touch_2 (b, a, (a.length : Int), 0, ()) = _ from outer, Option.bind_some]
  unfold anyT
  cases a.any fun x => b.any fun y => tch x y <;> rfl

theorem touch_I {many : Int} {a b : HK} (ha : hunksP many a = true) (hb : hunksP many b = true) {k i : Nat} (hk : k < a.length) (hi : i < b.length) : f_I_touch a[k] b[i] = some ((tch a[k] b[i], ()), ()) := by
  obtain ⟨p1, p2, p3, p4, p5, p6, p7⟩ := hunk_at ha hk
  obtain ⟨q1, q2, q3, q4, q5, q6, q7⟩ := hunk_at hb hi
  unfold f_I_touch tch
  rw [plW q1 q3 q4 q5, plW p1 p3 p4 p5]
  cases decide (a[k].1 ≤ b[i].1 + b[i].2.1) <;> rfl

theorem moves_loop {l m : TX} {a b : HK} (hsa : SmH a) (ha : hunksP (l.length : Int) a = true) (hb : hunksP (l.length : Int) b = true) :
    w_I_MoveHunks_7 (l, a, m, b, b, (b.length : Int), 0, ()) = some (if b.any (fun y => a.any fun x => tch x y) then .inr ([], false, ()) else .inl (m, mv a b, ())) := by
  obtain ⟨_, _, ha20, _⟩ := hunk_facts ha
  obtain ⟨_, _, hb20, _⟩ := hunk_facts hb
  have inner : ∀ (i : Nat) (hi : i < b.length) (out : HK) (cc ff : Bool), ∃ n : Nat, w_I_MoveHunks_146_2 (l, a, m, out, (i : Int), b[i], b, (b.length : Int), (i : Int), cc, (i : Int), b[i], b[i], a, a, ff, a, a, (a.length : Int), 0, ()) =
      some (if a.any (fun x => tch x b[i]) then .inr (l, a, m, out, (i : Int), b[i], b, (b.length : Int), (i : Int), cc, (i : Int), b[i], b[i], a, a, ff, a, (n : Int), ()) else .inl (l, a, m, out, (i : Int), b[i], b, (b.length : Int), (i : Int), cc, (i : Int), b[i], b[i], a, a, ff, a, ())) := by
    intro i hi out cc ff
    refine ⟨_, fix_any (B := fun d => b_I_MoveHunks_146_2 d.1 d.2.1 d.2.2.1 d.2.2.2.1 d.2.2.2.2.1 d.2.2.2.2.2.1 d.2.2.2.2.2.2.1 d.2.2.2.2.2.2.2.1 d.2.2.2.2.2.2.2.2.1 d.2.2.2.2.2.2.2.2.2.1 d.2.2.2.2.2.2.2.2.2.2.1 d.2.2.2.2.2.2.2.2.2.2.2.1 d.2.2.2.2.2.2.2.2.2.2.2.2.1 d.2.2.2.2.2.2.2.2.2.2.2.2.2.1 d.2.2.2.2.2.2.2.2.2.2.2.2.2.2.1 d.2.2.2.2.2.2.2.2.2.2.2.2.2.2.2.1 d.2.2.2.2.2.2.2.2.2.2.2.2.2.2.2.2.1 d.2.2.2.2.2.2.2.2.2.2.2.2.2.2.2.2.2.1 d.2.2.2.2.2.2.2.2.2.2.2.2.2.2.2.2.2.2.1 d.2.2.2.2.2.2.2.2.2.2.2.2.2.2.2.2.2.2.2.1) a (fun x => tch x b[i]) (fun k => (l, a, m, out, (i : Int), b[i], b, (b.length : Int), (i : Int), cc, (i : Int), b[i], b[i], a, a, ff, a, a, (a.length : Int), (k : Int), ()))
      (fun n => .inr (l, a, m, out, (i : Int), b[i], b, (b.length : Int), (i : Int), cc, (i : Int), b[i], b[i], a, a, ff, a, (n : Int), ())) (.inl (l, a, m, out, (i : Int), b[i], b, (b.length : Int), (i : Int), cc, (i : Int), b[i], b[i], a, a, ff, a, ()))
      (fun k hk hq => ?_) (fun k hk hq => ?_) ?_⟩
    · show b_I_MoveHunks_146_2 l a m out i b[i] b b.length i cc i b[i] b[i] a a ff a a a.length k = _
      unfold b_I_MoveHunks_146_2
      rw [decide_eq_true (by omega : (k : Int) < (a.length : Int)), cond_true, inB_lt hk, cond_true, toNat_cast, getD_of hk, touch_I ha hb hk hi, Option.bind_some]
      dsimp only
      rw [hq, cond_false, wrap64 (x := (k : Int) + 1) (by omega) (by omega)]
      rfl
    · show b_I_MoveHunks_146_2 l a m out i b[i] b b.length i cc i b[i] b[i] a a ff a a a.length k = _
      unfold b_I_MoveHunks_146_2
      rw [decide_eq_true (by omega : (k : Int) < (a.length : Int)), cond_true, inB_lt hk, cond_true, toNat_cast, getD_of hk, touch_I ha hb hk hi, Option.bind_some]
      dsimp only
      rw [hq, cond_true]
    · show b_I_MoveHunks_146_2 l a m out i b[i] b b.length i cc i b[i] b[i] a a ff a a a.length a.length = _
      unfold b_I_MoveHunks_146_2
      rw [decide_eq_false (Int.lt_irrefl _), cond_false]
  have outer := fix_any (B := fun d => b_I_MoveHunks_7 d.1 d.2.1 d.2.2.1 d.2.2.2.1 d.2.2.2.2.1 d.2.2.2.2.2.1 d.2.2.2.2.2.2.1) b (fun y => a.any fun x => tch x y) (fun i => (l, a, m, (b.take i).map (mvX a) ++ b.drop i, b, (b.length : Int), (i : Int), ())) (fun _ => .inr ([], false, ())) (.inl (m, mv a b, ()))
    (fun i hi hq => by
      obtain ⟨q1, q2, q3, q4, q5, q6, q7⟩ := hunk_at hb hi
      obtain ⟨n, hin⟩ := inner i hi ((b.take i).map (mvX a) ++ b.drop i) true false
      show b_I_MoveHunks_7 l a m ((b.take i).map (mvX a) ++ b.drop i) b b.length i = _
      unfold b_I_MoveHunks_7
      rw [decide_eq_true (by omega : (i : Int) < (b.length : Int)), cond_true, inB_lt hi, cond_true, toNat_cast, getD_of hi, hin, if_neg (by rw [hq]; simp), Option.bind_some]
      dsimp only
      rw [Option.bind_some]
      dsimp only
      rw [show decide ((-1 : Int) ≥ 0) = false from rfl, cond_false, place_I hsa ha q1 q2 (free_of q3 hq), Option.bind_some]
      dsimp only
      rw [Bool.not_true, cond_false, inB_lt (by rw [mid_len _ (by omega)]; exact hi), cond_true, toNat_cast, mid_get _ hi, mid_set _ hi, wrap64 (x := (i : Int) + 1) (by omega) (by omega)]
      show some (Sum.inl (l, a, m, (b.take i).map (mvX a) ++ mvX a b[i] :: b.drop (i + 1), b, (b.length : Int), ((i : Int) + 1), ())) = _
      rw [mid_next _ hi]
      rfl)
    (fun i hi hq => by
      obtain ⟨n, hin⟩ := inner i hi ((b.take i).map (mvX a) ++ b.drop i) true false
      show b_I_MoveHunks_7 l a m ((b.take i).map (mvX a) ++ b.drop i) b b.length i = _
      unfold b_I_MoveHunks_7
      rw [decide_eq_true (by omega : (i : Int) < (b.length : Int)), cond_true, inB_lt hi, cond_true, toNat_cast, getD_of hi, hin, if_pos hq, Option.bind_some]
      dsimp only
      rw [Option.bind_some]
      dsimp only
      rw [decide_eq_true (by omega : (n : Int) ≥ 0), cond_true])
    (by
      show b_I_MoveHunks_7 l a m ((b.take b.length).map (mvX a) ++ b.drop b.length) b b.length b.length = _
      unfold b_I_MoveHunks_7 mv
      rw [decide_eq_false (Int.lt_irrefl _), cond_false, List.take_length, List.drop_length, List.append_nil])
  rw [← outer]
  rfl

def bothOk (l : TX) (a b : HK) : Bool := patchOk l a && patchOk l b
def mvOk (l : TX) (a b : HK) : Bool := bothOk l a b && (!anyT a b && hunksP ((patchL l a).length : Int) (mv a b))
def mvR (l : TX) (a b : HK) : HK := bif mvOk l a b then mv a b else []

theorem both_at {l : TX} {a b : HK} (h : bothOk l a b = true) : hunksP (l.length : Int) a = true ∧ hunksP (l.length : Int) b = true ∧ patchOk l a = true ∧ patchOk l b = true := by
  unfold bothOk at h
  rw [Bool.and_eq_true] at h
  have h1 := h.1
  have h2 := h.2
  unfold patchOk at h1 h2
  simp only [Bool.and_eq_true] at h1 h2
  exact ⟨h1.2.1, h2.2.1, h.1, h.2⟩

theorem move_I {l : TX} {a b : HK} (hl : Sm l) (ha : SmH a) (hb : SmH b) : f_I_MoveHunks l a b = some ((mvR l a b, mvOk l a b, ()), ()) := by
  unfold f_I_MoveHunks mvR mvOk
  rw [patch_I hl ha, Option.bind_some, patch_I hl hb, Option.bind_some]
  dsimp only
  cases hB : bothOk l a b
  · have hB' := hB
    unfold bothOk at hB'
    cases h1 : patchOk l a
    · rfl
    · rw [h1, Bool.true_and] at hB'
      rw [hB']
      rfl
  · obtain ⟨g1, g2, g3, g4⟩ := both_at hB
    obtain ⟨_, _, h20, _⟩ := hunk_facts g2
    have hn : ∀ x ∈ b, List.length x.2.2.1 ≤ 40 := fun x hx => by
      obtain ⟨i, hi, rfl⟩ := List.mem_iff_getElem.1 hx
      exact (hunk_at g2 hi).2.2.2.2.2.1
    have hp : patchR l a = patchL l a := by unfold patchR; rw [g3, cond_true]
    rw [g3, g4, Bool.not_true, cond_false, Option.bind_some]
    dsimp only
    rw [cond_false, copied_I h20 hn, Option.bind_some]
    dsimp only
    rw [moves_loop ha g1 g2, any_swap, hp]
    cases anyT a b
    · rw [if_neg (by simp), Option.bind_some]
      dsimp only
      rw [hunks_I _ _ (mv_sm hb), Option.bind_some]
      dsimp only
      cases hunksP ((patchL l a).length : Int) (mv a b) <;> rfl
    · rfl

theorem both_S {l : TX} {a b : HK} (hl : Sm l) (ha : SmH a) (hb : SmH b) : f_S_l13Both l a b = some ((bothOk l a b, ()), ()) := by
  unfold f_S_l13Both bothOk
  rw [patch_S hl ha, Option.bind_some, patch_S hl hb, Option.bind_some]
  dsimp only
  cases patchOk l a <;> rfl

theorem move_S {l : TX} {a b : HK} (hl : Sm l) (ha : SmH a) (hb : SmH b) : f_S_MoveHunks l a b = some ((mvR l a b, mvOk l a b, ()), ()) := by
  unfold f_S_MoveHunks mvR mvOk
  rw [both_S hl ha hb, Option.bind_some]
  dsimp only
  cases hB : bothOk l a b
  · rfl
  · obtain ⟨g1, g2, g3, g4⟩ := both_at hB
    obtain ⟨_, _, hlen⟩ := patched_I hl ha g1
    rw [Bool.not_true, cond_false, touch_S g1 g2, Option.bind_some, Option.bind_some]
    dsimp only
    cases hT : anyT a b
    · rw [cond_false, l13Move_S g1 g2 hT, Option.bind_some, patched_S hl ha g1, Option.bind_some]
      dsimp only
      rw [hunks_S _ _ (mv_sm hb) (by omega) (by omega), Option.bind_some]
      dsimp only
      cases hunksP ((patchL l a).length : Int) (mv a b) <;> rfl
    · rfl

theorem mvOk_at {l : TX} {a b : HK} (h : mvOk l a b = true) : bothOk l a b = true ∧ hunksP ((patchL l a).length : Int) (mv a b) = true := by
  unfold mvOk at h
  simp only [Bool.and_eq_true] at h
  exact ⟨h.1, h.2.2⟩

def nxL (l : TX) (a b : HK) : TX := patchL (patchL l a) (mv a b)
def nxOk (l : TX) (a b : HK) : Bool := patchOk (patchL l a) (mv a b)
theorem next_at {l : TX} {a b : HK} (hl : Sm l) (ha : SmH a) (hb : SmH b) (h : mvOk l a b = true) :
    f_I_patched l a = some ((patchL l a, ()), ()) ∧ f_S_l2Patch l a = some ((patchL l a, ()), ()) ∧ f_I_Patch (patchL l a) (mvR l a b) = some ((bif nxOk l a b then nxL l a b else [], nxOk l a b, ()), ()) ∧
    f_S_Patch (patchL l a) (mvR l a b) = some ((bif nxOk l a b then nxL l a b else [], nxOk l a b, ()), ()) ∧ (nxL l a b).length ≤ 1640 := by
  obtain ⟨h1, h2⟩ := mvOk_at h
  obtain ⟨g1, g2, g3, g4⟩ := both_at h1
  obtain ⟨p1, p2, p3⟩ := patched_I hl ha g1
  have hm : mvR l a b = mv a b := by unfold mvR; rw [h, cond_true]
  rw [hm]
  exact ⟨p1, patched_S hl ha g1, patch_I p2 (mv_sm hb), patch_S p2 (mv_sm hb), (patched_I p2 (mv_sm hb) h2).2.2⟩

def inOk (l : TX) (a b : HK) : Bool := mvOk l a b && nxOk l a b
def inR (l : TX) (a b : HK) : TX := bif mvOk l a b then (bif nxOk l a b then nxL l a b else []) else []
def csB (l : TX) (a b : HK) : Bool := (inOk l a b && inOk l b a) && decide (nxL l a b = nxL l b a)
def csR (l : TX) (a b : HK) : Bool := bothOk l a b && csB l a b

end R
end

section
/- MoveHunks: the law answers true at every call. -/
open Go Go.Dn
namespace R
set_option linter.unusedVariables false

theorem tot_mvX (a : HK) (y : PV Y_impl_Hunk) : tot Y_impl_Hunk (mvX a y) = tot Y_impl_Hunk y := rfl

theorem tot_mv (a b : HK) : tot S_impl_Hunk (mv a b) = tot S_impl_Hunk b := by
  unfold mv
  rw [show tot S_impl_Hunk (b.map (mvX a)) = (b.map (mvX a)).length + ((b.map (mvX a)).map (tot Y_impl_Hunk)).sum from tot_slice, show tot S_impl_Hunk b = b.length + (b.map (tot Y_impl_Hunk)).sum from tot_slice, List.length_map, List.map_map]
  rfl

theorem tot_mvR (l : TX) (a b : HK) : tot S_impl_Hunk (mvR l a b) ≤ tot S_impl_Hunk b := by
  unfold mvR
  cases mvOk l a b
  · exact Nat.zero_le _
  · exact Nat.le_of_eq (tot_mv a b)

theorem law_MoveHunks (t0 : PV S_string) (t1 t2 : PV S_laws_Hunk) (hw : WfV S_string t0) (hw1 : WfV S_laws_Hunk t1) (hw2 : WfV S_laws_Hunk t2) : f_L_FnExactMoveHunks t0 t1 t2 = some ((true, ()), ()) := by
  unfold f_L_FnExactMoveHunks
  rw [p_L_szStringS t0 1048576 (by omega) (by omega) hw, Option.bind_some]
  by_cases hs : ((tot S_string t0 : Nat) : Int) ≤ 1048576
  · rw [szR_pos hs]
    dsimp only
    rw [decide_eq_false (by omega : ¬ ((1048576 : Int) - ((tot S_string t0 : Nat) : Int) < 0)), cond_false]
    rw [p_L_szHunkS t1 (1048576 - ((tot S_string t0 : Nat) : Int)) (by omega) (by omega) hw1, Option.bind_some]
    by_cases hs1 : ((tot S_laws_Hunk t1 : Nat) : Int) ≤ 1048576 - ((tot S_string t0 : Nat) : Int)
    · rw [szR_pos hs1]
      dsimp only
      rw [decide_eq_false (by omega : ¬ ((1048576 : Int) - ((tot S_string t0 : Nat) : Int) - ((tot S_laws_Hunk t1 : Nat) : Int) < 0)), cond_false]
      rw [p_L_szHunkS t2 (1048576 - ((tot S_string t0 : Nat) : Int) - ((tot S_laws_Hunk t1 : Nat) : Int)) (by omega) (by omega) hw2, Option.bind_some]
      by_cases hs2 : ((tot S_laws_Hunk t2 : Nat) : Int) ≤ 1048576 - ((tot S_string t0 : Nat) : Int) - ((tot S_laws_Hunk t1 : Nat) : Int)
      · rw [szR_pos hs2]
        dsimp only
        have hs' : tot S_string t0 ≤ 1048576 := by omega
        have hs1' : tot S_laws_Hunk t1 ≤ 1048576 := by omega
        have hs2' : tot S_laws_Hunk t2 ≤ 1048576 := by omega
        have hb1 : tot S_impl_Hunk t1 ≤ 1048576 := hs1'
        have hb2 : tot S_impl_Hunk t2 ≤ 1048576 := hs2'
        have hl : Sm t0 := Sm.of hs' (by omega)
        have h1 : SmH t1 := SmH.of (e := 0) hb1 (by omega)
        have h2 : SmH t2 := SmH.of (e := 0) hb2 (by omega)
        have hR := tot_mvR t0 t1 t2
        obtain ⟨r, hr⟩ : ∃ r, r = mvR t0 t1 t2 := ⟨_, rfl⟩
        obtain ⟨q, hq⟩ : ∃ q, q = mvOk t0 t1 t2 := ⟨_, rfl⟩
        have hI := move_I hl h1 h2
        have hS := move_S hl h1 h2
        rw [← hr, ← hq] at hI hS
        rw [← hr] at hR
        clear hr hq
        have c0 : cn S_string t0 ≤ 0 + 1 * tot S_string t0 := cn_tot_le (by decide) (by decide)
        have c1 : cn S_impl_Hunk t1 ≤ 0 + 5 * tot S_impl_Hunk t1 := cn_tot_le (by decide) (by decide)
        have c2 : cn S_impl_Hunk t2 ≤ 0 + 5 * tot S_impl_Hunk t2 := cn_tot_le (by decide) (by decide)
        have c3 : cn S_impl_Hunk r ≤ 0 + 5 * tot S_impl_Hunk r := cn_tot_le (by decide) (by decide)
        have m0 := mk_cn tx S_string t0 1
        have m1 := mk_cn tx S_impl_Hunk t1 (mk tx S_string t0 1).2
        have m2 := mk_cn tx S_impl_Hunk t2 (mk tx S_impl_Hunk t1 (mk tx S_string t0 1).2).2
        have m3 := mk_cn tx S_impl_Hunk r 1
        rw [decide_eq_false (by omega : ¬ ((1048576 : Int) - ((tot S_string t0 : Nat) : Int) - ((tot S_laws_Hunk t1 : Nat) : Int) - ((tot S_laws_Hunk t2 : Nat) : Int) < 0)), cond_false]
        simp only [p_L_toStringS t0 hs', p_L_toHunkS t1 hs1', p_L_toHunkS t2 hs2', hI, hS, Option.bind_some, p_L_eqStringS t0 (by omega), p_L_eqHunkS t1 (by omega), p_L_eqHunkS t2 (by omega), p_L_eqHunkS r (by omega), p_L_markStringS t0 1 (by omega) (by omega) (by omega),
          p_L_markHunkS t1 (mk tx S_string t0 1).2 (by omega) (by omega) (by omega), p_L_markHunkS t2 (mk tx S_impl_Hunk t1 (mk tx S_string t0 1).2).2 (by omega) (by omega) (by omega), p_L_markHunkS r 1 (by omega) (by omega) (by omega), p_L_heldHunkS r 1 (by omega) (by omega) (by omega),
          decide_eq_false (by omega : ¬ (mk tx S_impl_Hunk t2 (mk tx S_impl_Hunk t1 (mk tx S_string t0 1).2).2).2 < 0), decide_eq_false (by omega : ¬ (mk tx S_impl_Hunk r 1).2 < 0), beq_self_eq_true, Bool.not_true, cond_false]
      · rw [szR_neg hs2]; rfl
    · rw [szR_neg hs1]; rfl
  · rw [szR_neg hs]; rfl
end R
end
