/- Parts of the proof: PbG Qt1 Qt3 Qt4 Qt5 Qt6 Qt7 Qt8 Qt9 Qt10 Qt11 Qt12 Qt13 Qt14. -/
import Derived.Test.YtifjjdpgheoogaaPaG
import Derived.Test.YtifjjdpgheoogaaL3
section
open Go Go.Dn
namespace R
set_option linter.unusedVariables false
noncomputable def tx (k : Int) : List UInt8 := match f_L_markText k with
  | some r => r.1.1
  | none => []

theorem markText_loop : ∀ (d : Nat) (n : Int) (acc : List UInt8), 0 ≤ n → n < (10 : Int) ^ d → n ≤ 4611686018427387904 → acc.length + d ≤ 1000 → ∃ r : List UInt8, w_L_markText_4 (n, acc, ()) = some (r, ()) ∧ r.length ≤ acc.length + d
  | 0, n, acc, h0, h1, hb, h2 => by
    have : n = 0 := by simp at h1; omega
    subst this
    refine ⟨acc, ?_, by omega⟩
    exact fix_end (B := fun d => b_L_markText_4 d.1 d.2.1) (s := (0, acc, ())) rfl
  | d + 1, n, acc, h0, h1, hb, h2 => by
    by_cases hn : n > 0
    · have hq : n.tdiv 10 = n / 10 := Int.tdiv_eq_ediv_of_nonneg h0
      have hlt : n / 10 < (10 : Int) ^ d := by
        rw [Int.pow_succ] at h1
        omega
      have hs : b_L_markText_4 n acc = some (.inl (n / 10, (bytesOfInts [(IntKind.wrap .u8 (IntKind.wrap .i64 (48 + (n.tmod 10))))]) ++ acc, ())) := by
        unfold b_L_markText_4
        rw [decide_eq_true hn, cond_true, show ((10 : Nat) == 0) = false from rfl, cond_false, bytes_one, decide_eq_true (by omega), cond_true, cond_false, hq, wrap64 (by omega) (by omega)]
      obtain ⟨r, h3, h4⟩ := markText_loop d (n / 10) ((bytesOfInts [(IntKind.wrap .u8 (IntKind.wrap .i64 (48 + (n.tmod 10))))]) ++ acc) (by omega) hlt (by omega) (by rw [List.length_append, bytes_one]; omega)
      rw [List.length_append, bytes_one] at h4
      refine ⟨r, ?_, by omega⟩
      exact (fix_go (B := fun d => b_L_markText_4 d.1 d.2.1) (s := (n, acc, ())) hs).trans h3
    · have : n = 0 := by omega
      subst this
      refine ⟨acc, ?_, by omega⟩
      exact fix_end (B := fun d => b_L_markText_4 d.1 d.2.1) (s := (0, acc, ())) rfl

theorem p_L_markText (k : Int) (h0 : 0 ≤ k) (h1 : k ≤ 4611686018427387904) : f_L_markText k = some ((tx k, ()), ()) := by
  have : ∃ r : List UInt8, f_L_markText k = some ((r, ()), ()) := by
    unfold f_L_markText
    by_cases hk : k ≤ 0
    · rw [decide_eq_true hk]; exact ⟨_, rfl⟩
    · rw [decide_eq_false hk, cond_false]
      obtain ⟨r, h3, h4⟩ := markText_loop 19 k [] h0 (by omega) h1 (by simp)
      rw [h3, Option.bind_some]
      dsimp only
      rw [decide_eq_true (by simp at h4 ⊢; omega), cond_true]
      exact ⟨_, rfl⟩
  obtain ⟨r, h⟩ := this
  unfold tx
  rw [h]

theorem p_L_markStringS (t0 : PV S_string) (k : Int) (h0 : 0 ≤ k) (h1 : k + (cn S_string t0 : Nat) ≤ 4611686018427387904) (hs : tot S_string t0 ≤ 4611686018427387904) : f_L_markStringS t0 k = some (((mk tx S_string t0 k).2, ()), ((mk tx S_string t0 k).1, ())) := by
  have hl : List.length t0 ≤ 4611686018427387904 := Nat.le_trans (Nat.le_add_right _ _) (tot_slice ▸ hs)
  unfold f_L_markStringS
  rw [show w_L_markStringS_2 (t0, k, 0, ()) = _ from mark_loop (tx := tx) (T := .str) (Q := fun x => tot .str x ≤ 4611686018427387904) (B := fun d => b_L_markStringS_2 d.1 d.2.1 d.2.2.1) (fun i ys k hi hl hQ h0 h1 => by
      show b_L_markStringS_2 ys k i = _
      have hi' : (i : Int) < (ys.length : Int) := by omega
      have wi : IntKind.wrap .i64 ((i : Int) + 1) = (i : Int) + 1 := wrap64 (by omega) (by omega)
      have c1 : cn .str ys[i] = 1 := rfl
      have m1 := p_L_markText (k) (by omega) (by omega)
      have u1 : IntKind.wrap .i64 (k + 1) = k + 1 := wrap64 (by omega) (by omega)
      unfold b_L_markStringS_2
      simp only [decide_eq_true hi', cond_true, List.length_set, inB_lt hi, toNat_cast, List.set_set, getD_set_self hi, getD_of hi, Option.bind_some, wi, m1, u1, mk_pair, mk_int, mk_str, mk_unit]) (fun ys k hl => by
      show b_L_markStringS_2 ys k t0.length = _
      unfold b_L_markStringS_2
      rw [hl, decide_eq_false (Int.lt_irrefl _), cond_false]) (tot_all hs) h0 h1]
  rfl

theorem p_L_markHunkS (t0 : PV S_impl_Hunk) (k : Int) (h0 : 0 ≤ k) (h1 : k + (cn S_impl_Hunk t0 : Nat) ≤ 4611686018427387904) (hs : tot S_impl_Hunk t0 ≤ 4611686018427387904) : f_L_markHunkS t0 k = some (((mk tx S_impl_Hunk t0 k).2, ()), ((mk tx S_impl_Hunk t0 k).1, ())) := by
  have hl : List.length t0 ≤ 4611686018427387904 := Nat.le_trans (Nat.le_add_right _ _) (tot_slice ▸ hs)
  unfold f_L_markHunkS
  rw [show w_L_markHunkS_2 (t0, k, 0, ()) = _ from mark_loop (tx := tx) (T := Y_impl_Hunk) (Q := fun x => tot Y_impl_Hunk x ≤ 4611686018427387904) (B := fun d => b_L_markHunkS_2 d.1 d.2.1 d.2.2.1) (fun i ys k hi hl hQ h0 h1 => by
      show b_L_markHunkS_2 ys k i = _
      have hi' : (i : Int) < (ys.length : Int) := by omega
      have wi : IntKind.wrap .i64 ((i : Int) + 1) = (i : Int) + 1 := wrap64 (by omega) (by omega)
      have hc : cn Y_impl_Hunk ys[i] = cn (.int .i64) ys[i].1 + (cn (.int .i64) ys[i].2.1 + (cn S_string ys[i].2.2.1 + (0))) := rfl
      have ht : tot Y_impl_Hunk ys[i] = tot (.int .i64) ys[i].1 + (tot (.int .i64) ys[i].2.1 + (tot S_string ys[i].2.2.1 + (0))) := rfl
      have c1 : cn (.int .i64) ys[i].1 = 1 := rfl
      have u1 : IntKind.wrap .i64 (k + 1) = k + 1 := wrap64 (by omega) (by omega)
      have c2 : cn (.int .i64) ys[i].2.1 = 1 := rfl
      have u2 : IntKind.wrap .i64 (k + 1 + 1) = k + 1 + 1 := wrap64 (by omega) (by omega)
      have m3 := p_L_markStringS ys[i].2.2.1 (k + 1 + 1) (by omega) (by omega) (by omega)
      have c3 := mk_cn tx S_string ys[i].2.2.1 (k + 1 + 1)
      unfold b_L_markHunkS_2
      simp only [decide_eq_true hi', cond_true, List.length_set, inB_lt hi, toNat_cast, List.set_set, getD_set_self hi, getD_of hi, Option.bind_some, wi, u1, u2, m3, mk_pair, mk_int, mk_str, mk_unit]) (fun ys k hl => by
      show b_L_markHunkS_2 ys k t0.length = _
      unfold b_L_markHunkS_2
      rw [hl, decide_eq_false (Int.lt_irrefl _), cond_false]) (tot_all hs) h0 h1]
  rfl

theorem p_L_markHunkSS (t0 : PV S_S_impl_Hunk) (k : Int) (h0 : 0 ≤ k) (h1 : k + (cn S_S_impl_Hunk t0 : Nat) ≤ 4611686018427387904) (hs : tot S_S_impl_Hunk t0 ≤ 4611686018427387904) : f_L_markHunkSS t0 k = some (((mk tx S_S_impl_Hunk t0 k).2, ()), ((mk tx S_S_impl_Hunk t0 k).1, ())) := by
  have hl : List.length t0 ≤ 4611686018427387904 := Nat.le_trans (Nat.le_add_right _ _) (tot_slice ▸ hs)
  unfold f_L_markHunkSS
  rw [show w_L_markHunkSS_2 (t0, k, 0, ()) = _ from mark_loop (tx := tx) (T := S_impl_Hunk) (Q := fun x => tot S_impl_Hunk x ≤ 4611686018427387904) (B := fun d => b_L_markHunkSS_2 d.1 d.2.1 d.2.2.1) (fun i ys k hi hl hQ h0 h1 => by
      show b_L_markHunkSS_2 ys k i = _
      have hi' : (i : Int) < (ys.length : Int) := by omega
      have wi : IntKind.wrap .i64 ((i : Int) + 1) = (i : Int) + 1 := wrap64 (by omega) (by omega)
      have m1 := p_L_markHunkS ys[i] (k) (by omega) (by omega) (by omega)
      have c1 := mk_cn tx S_impl_Hunk ys[i] (k)
      unfold b_L_markHunkSS_2
      simp only [decide_eq_true hi', cond_true, List.length_set, inB_lt hi, toNat_cast, List.set_set, getD_set_self hi, getD_of hi, Option.bind_some, wi, m1, mk_pair, mk_int, mk_str, mk_unit]) (fun ys k hl => by
      show b_L_markHunkSS_2 ys k t0.length = _
      unfold b_L_markHunkSS_2
      rw [hl, decide_eq_false (Int.lt_irrefl _), cond_false]) (tot_all hs) h0 h1]
  rfl

theorem p_L_szStringS (t0 : PV S_string) (L : Int) (h0 : 0 ≤ L) (h1 : L ≤ 1048576) (hw : WfV S_string t0) : f_L_szStringS t0 L = some ((szR (tot S_string t0) L, ()), ()) := by
  have hl : List.length t0 ≤ 9223372036854775807 := hw.1
  unfold f_L_szStringS
  rw [wrap64 (by omega) (by omega)]
  by_cases hc : (t0.length : Int) ≤ L
  · rw [decide_eq_false (by omega : ¬ (L - (t0.length : Int) < 0)), cond_false, show w_L_szStringS_5 (t0, L - (t0.length : Int), 0, ()) = _ from sz_loop (T := .str) (xs := t0) (B := fun d => b_L_szStringS_5 d.1 d.2.1 d.2.2.1) (fun i hi l g0 g1 => by
      show b_L_szStringS_5 t0 l i = _
      generalize hxs : t0 = xs at *
      have hi' : (i : Int) < (xs.length : Int) := by omega
      unfold b_L_szStringS_5
      rw [decide_eq_true hi', cond_true, inB_lt hi, cond_true, toNat_cast, getD_of hi]
      have hx : (xs[i]).length ≤ 9223372036854775807 := hw.2 _ (List.getElem_mem hi)
      rw [wrap64 (by omega) (by omega), wrap64 (x := (i : Int) + 1) (by omega) (by omega)]
      by_cases hq : ((tot .str xs[i] : Nat) : Int) ≤ l
      · rw [if_pos hq]; rw [tot_str] at hq ⊢; rw [decide_eq_false (by omega : ¬ (l - (xs[i].length : Int) < 0)), cond_false]
      · rw [if_neg hq]; rw [tot_str] at hq; rw [decide_eq_true (by omega : l - (xs[i].length : Int) < 0), cond_true]) (fun l => by
      show b_L_szStringS_5 t0 l t0.length = _
      unfold b_L_szStringS_5
      rw [decide_eq_false (Int.lt_irrefl _), cond_false]) (by omega) (by omega)]
    exact sz_out hc tot_slice
  · rw [decide_eq_true (by omega : L - (t0.length : Int) < 0), cond_true, szR_neg (by rw [tot_slice]; omega)]

theorem p_L_szHunk (t0 : PV Y_impl_Hunk) (L : Int) (h0 : 0 ≤ L) (h1 : L ≤ 1048576) (hw : WfV Y_impl_Hunk t0) : f_L_szHunk t0 L = some ((szR (tot Y_impl_Hunk t0) L, ()), ()) := by
  unfold f_L_szHunk
  rw [p_L_szStringS _ L (by omega) (by omega) hw.2.2.1, Option.bind_some]
  by_cases c2 : ((tot S_string t0.2.2.1 : Nat) : Int) ≤ L
  · rw [szR_pos c2]; (try dsimp only); rw [decide_eq_false (by omega : ¬ (L - ((tot S_string t0.2.2.1 : Nat) : Int) < 0)), cond_false]
    rw [szR_pos (by simp only [tot] at *; omega)]
    refine congrArg (fun (z : Int) => some ((z, ()), ())) ?_
    simp only [tot] at *; omega
  · rw [szR_neg c2]; rw [szR_neg (by simp only [tot] at *; omega)]; rfl

theorem p_L_szHunkS (t0 : PV S_laws_Hunk) (L : Int) (h0 : 0 ≤ L) (h1 : L ≤ 1048576) (hw : WfV S_laws_Hunk t0) : f_L_szHunkS t0 L = some ((szR (tot S_laws_Hunk t0) L, ()), ()) := by
  have hl : List.length t0 ≤ 9223372036854775807 := hw.1
  unfold f_L_szHunkS
  rw [wrap64 (by omega) (by omega)]
  by_cases hc : (t0.length : Int) ≤ L
  · rw [decide_eq_false (by omega : ¬ (L - (t0.length : Int) < 0)), cond_false, show w_L_szHunkS_5 (t0, L - (t0.length : Int), 0, ()) = _ from sz_loop (T := Y_impl_Hunk) (xs := t0) (B := fun d => b_L_szHunkS_5 d.1 d.2.1 d.2.2.1) (fun i hi l g0 g1 => by
      show b_L_szHunkS_5 t0 l i = _
      generalize hxs : t0 = xs at *
      have hi' : (i : Int) < (xs.length : Int) := by omega
      unfold b_L_szHunkS_5
      rw [decide_eq_true hi', cond_true, inB_lt hi, cond_true, toNat_cast, getD_of hi]
      rw [p_L_szHunk _ l g0 g1 (hw.2 _ (List.getElem_mem hi)), Option.bind_some, wrap64 (x := (i : Int) + 1) (by omega) (by omega)]
      by_cases hq : ((tot Y_impl_Hunk xs[i] : Nat) : Int) ≤ l
      · rw [if_pos hq, szR_pos hq]; dsimp only; rw [decide_eq_false (by omega : ¬ (l - ((tot Y_impl_Hunk xs[i] : Nat) : Int) < 0)), cond_false]
      · rw [if_neg hq, szR_neg hq]; rfl) (fun l => by
      show b_L_szHunkS_5 t0 l t0.length = _
      unfold b_L_szHunkS_5
      rw [decide_eq_false (Int.lt_irrefl _), cond_false]) (by omega) (by omega)]
    exact sz_out hc tot_slice
  · rw [decide_eq_true (by omega : L - (t0.length : Int) < 0), cond_true, szR_neg (by rw [tot_slice]; omega)]

theorem p_L_szHunkSS (t0 : PV S_S_laws_Hunk) (L : Int) (h0 : 0 ≤ L) (h1 : L ≤ 1048576) (hw : WfV S_S_laws_Hunk t0) : f_L_szHunkSS t0 L = some ((szR (tot S_S_laws_Hunk t0) L, ()), ()) := by
  have hl : List.length t0 ≤ 9223372036854775807 := hw.1
  unfold f_L_szHunkSS
  rw [wrap64 (by omega) (by omega)]
  by_cases hc : (t0.length : Int) ≤ L
  · rw [decide_eq_false (by omega : ¬ (L - (t0.length : Int) < 0)), cond_false, show w_L_szHunkSS_5 (t0, L - (t0.length : Int), 0, ()) = _ from sz_loop (T := S_laws_Hunk) (xs := t0) (B := fun d => b_L_szHunkSS_5 d.1 d.2.1 d.2.2.1) (fun i hi l g0 g1 => by
      show b_L_szHunkSS_5 t0 l i = _
      generalize hxs : t0 = xs at *
      have hi' : (i : Int) < (xs.length : Int) := by omega
      unfold b_L_szHunkSS_5
      rw [decide_eq_true hi', cond_true, inB_lt hi, cond_true, toNat_cast, getD_of hi]
      rw [p_L_szHunkS _ l g0 g1 (hw.2 _ (List.getElem_mem hi)), Option.bind_some, wrap64 (x := (i : Int) + 1) (by omega) (by omega)]
      by_cases hq : ((tot S_laws_Hunk xs[i] : Nat) : Int) ≤ l
      · rw [if_pos hq, szR_pos hq]; dsimp only; rw [decide_eq_false (by omega : ¬ (l - ((tot S_laws_Hunk xs[i] : Nat) : Int) < 0)), cond_false]
      · rw [if_neg hq, szR_neg hq]; rfl) (fun l => by
      show b_L_szHunkSS_5 t0 l t0.length = _
      unfold b_L_szHunkSS_5
      rw [decide_eq_false (Int.lt_irrefl _), cond_false]) (by omega) (by omega)]
    exact sz_out hc tot_slice
  · rw [decide_eq_true (by omega : L - (t0.length : Int) < 0), cond_true, szR_neg (by rw [tot_slice]; omega)]

theorem p_L_szSeries (t0 : PV Y_laws_Series) (L : Int) (h0 : 0 ≤ L) (h1 : L ≤ 1048576) (hw : WfV Y_laws_Series t0) : f_L_szSeries t0 L = some ((szR (tot Y_laws_Series t0) L, ()), ()) := by
  unfold f_L_szSeries
  rw [p_L_szStringS _ L (by omega) (by omega) hw.1, Option.bind_some]
  by_cases c0 : ((tot S_string t0.1 : Nat) : Int) ≤ L
  · rw [szR_pos c0]; (try dsimp only); rw [decide_eq_false (by omega : ¬ (L - ((tot S_string t0.1 : Nat) : Int) < 0)), cond_false]
    rw [p_L_szHunkSS _ (L - ((tot S_string t0.1 : Nat) : Int)) (by omega) (by omega) hw.2.1, Option.bind_some]
    by_cases c1 : ((tot S_S_laws_Hunk t0.2.1 : Nat) : Int) ≤ L - ((tot S_string t0.1 : Nat) : Int)
    · rw [szR_pos c1]; (try dsimp only); rw [decide_eq_false (by omega : ¬ (L - ((tot S_string t0.1 : Nat) : Int) - ((tot S_S_laws_Hunk t0.2.1 : Nat) : Int) < 0)), cond_false]
      rw [szR_pos (by simp only [tot] at *; omega)]
      refine congrArg (fun (z : Int) => some ((z, ()), ())) ?_
      simp only [tot] at *; omega
    · rw [szR_neg c1]; rw [szR_neg (by simp only [tot] at *; omega)]; rfl
  · rw [szR_neg c0]; rw [szR_neg (by simp only [tot] at *; omega)]; rfl

theorem p_L_toStringS (t0 : PV S_string) (hs : tot S_string t0 ≤ 1048576) : f_L_toStringS t0 = some ((t0, ()), ()) := by
  unfold f_L_toStringS
  have hl : List.length t0 ≤ 1048576 := Nat.le_trans (Nat.le_add_right _ _) (tot_slice ▸ hs)
  rw [room_len (by omega), cond_true, toNat_cast]
  rw [show w_L_toStringS_3 (t0, List.replicate t0.length _, 0, ()) = _ from to_loop (xs := t0) t0 (B := lp_L_toStringS_3.B) rfl (fun i hi acc ha => by
      show b_L_toStringS_3 t0 acc i = _
      unfold b_L_toStringS_3
      have hi' : (i : Int) < (t0.length : Int) := by omega
      rw [decide_eq_true hi', cond_true, inB_lt hi, cond_true, toNat_cast, getD_of hi]
      rw [inB_lt (by omega), cond_true, wrap64 (by omega) (by omega)]) (fun acc => by
      show b_L_toStringS_3 t0 acc t0.length = _
      unfold b_L_toStringS_3
      rw [decide_eq_false (Int.lt_irrefl _), cond_false])]
  rfl

theorem p_L_toHunk (t0 : PV Y_impl_Hunk) (hs : tot Y_impl_Hunk t0 ≤ 1048576) : f_L_toHunk t0 = some ((t0, ()), ()) := by
  unfold f_L_toHunk
  simp only [tot] at hs
  rw [p_L_toStringS t0.2.2.1 (by simp only [tot]; omega), Option.bind_some]

theorem p_L_toHunkS (t0 : PV S_laws_Hunk) (hs : tot S_laws_Hunk t0 ≤ 1048576) : f_L_toHunkS t0 = some ((t0, ()), ()) := by
  unfold f_L_toHunkS
  have hl : List.length t0 ≤ 1048576 := Nat.le_trans (Nat.le_add_right _ _) (tot_slice ▸ hs)
  rw [room_len (by omega), cond_true, toNat_cast]
  rw [show w_L_toHunkS_3 (t0, List.replicate t0.length _, 0, ()) = _ from to_loop (xs := t0) t0 (B := lp_L_toHunkS_3.B) rfl (fun i hi acc ha => by
      show b_L_toHunkS_3 t0 acc i = _
      unfold b_L_toHunkS_3
      have hi' : (i : Int) < (t0.length : Int) := by omega
      rw [decide_eq_true hi', cond_true, inB_lt hi, cond_true, toNat_cast, getD_of hi]
      rw [p_L_toHunk _ (Nat.le_trans (tot_mem hi) hs), Option.bind_some, inB_lt (by omega), cond_true, wrap64 (by omega) (by omega)]) (fun acc => by
      show b_L_toHunkS_3 t0 acc t0.length = _
      unfold b_L_toHunkS_3
      rw [decide_eq_false (Int.lt_irrefl _), cond_false])]
  rfl

theorem p_L_toHunkSS (t0 : PV S_S_laws_Hunk) (hs : tot S_S_laws_Hunk t0 ≤ 1048576) : f_L_toHunkSS t0 = some ((t0, ()), ()) := by
  unfold f_L_toHunkSS
  have hl : List.length t0 ≤ 1048576 := Nat.le_trans (Nat.le_add_right _ _) (tot_slice ▸ hs)
  rw [room_len (by omega), cond_true, toNat_cast]
  rw [show w_L_toHunkSS_3 (t0, List.replicate t0.length _, 0, ()) = _ from to_loop (xs := t0) t0 (B := lp_L_toHunkSS_3.B) rfl (fun i hi acc ha => by
      show b_L_toHunkSS_3 t0 acc i = _
      unfold b_L_toHunkSS_3
      have hi' : (i : Int) < (t0.length : Int) := by omega
      rw [decide_eq_true hi', cond_true, inB_lt hi, cond_true, toNat_cast, getD_of hi]
      rw [p_L_toHunkS _ (Nat.le_trans (tot_mem hi) hs), Option.bind_some, inB_lt (by omega), cond_true, wrap64 (by omega) (by omega)]) (fun acc => by
      show b_L_toHunkSS_3 t0 acc t0.length = _
      unfold b_L_toHunkSS_3
      rw [decide_eq_false (Int.lt_irrefl _), cond_false])]
  rfl

theorem p_L_toSeries (t0 : PV Y_laws_Series) (hs : tot Y_laws_Series t0 ≤ 1048576) : f_L_toSeries t0 = some ((t0, ()), ()) := by
  unfold f_L_toSeries
  simp only [tot] at hs
  rw [p_L_toStringS t0.1 (by simp only [tot]; omega), Option.bind_some]
  rw [p_L_toHunkSS t0.2.1 (by simp only [tot]; omega), Option.bind_some]

theorem p_L_eqStringS (t0 : PV S_string) (hs : tot S_string t0 ≤ 4611686018427387904) : f_L_eqStringS t0 t0 = some ((true, ()), ()) := by
  unfold f_L_eqStringS
  have hl : List.length t0 ≤ 4611686018427387904 := Nat.le_trans (Nat.le_add_right _ _) (tot_slice ▸ hs)
  rw [beq_self_eq_true, Bool.not_true, cond_false]
  rw [show w_L_eqStringS_4 (t0, t0, 0, ()) = _ from eq_loop (xs := t0) (B := fun d => b_L_eqStringS_4 d.1 d.2.1 d.2.2.1) (fun i hi => by
      show b_L_eqStringS_4 t0 t0 i = _
      unfold b_L_eqStringS_4
      have hi' : (i : Int) < (t0.length : Int) := by omega
      rw [decide_eq_true hi', cond_true, inB_lt hi, cond_true, cond_true, toNat_cast, getD_of hi]
      rw [beq_self_eq_true, Bool.not_true, cond_false, wrap64 (by omega) (by omega)]) (by
      show b_L_eqStringS_4 t0 t0 t0.length = _
      unfold b_L_eqStringS_4
      rw [decide_eq_false (Int.lt_irrefl _), cond_false])]
  rfl

theorem p_L_eqHunk (t0 : PV Y_impl_Hunk) (hs : tot Y_impl_Hunk t0 ≤ 4611686018427387904) : f_L_eqHunk t0 t0 = some ((true, ()), ()) := by
  unfold f_L_eqHunk
  simp only [tot] at hs
  rw [beq_self_eq_true, Bool.not_true, cond_false]
  rw [beq_self_eq_true, Bool.not_true, cond_false]
  rw [p_L_eqStringS t0.2.2.1 (by simp only [tot]; omega), Option.bind_some, Bool.not_true, cond_false]

theorem p_L_eqHunkS (t0 : PV S_impl_Hunk) (hs : tot S_impl_Hunk t0 ≤ 4611686018427387904) : f_L_eqHunkS t0 t0 = some ((true, ()), ()) := by
  unfold f_L_eqHunkS
  have hl : List.length t0 ≤ 4611686018427387904 := Nat.le_trans (Nat.le_add_right _ _) (tot_slice ▸ hs)
  rw [beq_self_eq_true, Bool.not_true, cond_false]
  rw [show w_L_eqHunkS_4 (t0, t0, 0, ()) = _ from eq_loop (xs := t0) (B := fun d => b_L_eqHunkS_4 d.1 d.2.1 d.2.2.1) (fun i hi => by
      show b_L_eqHunkS_4 t0 t0 i = _
      unfold b_L_eqHunkS_4
      have hi' : (i : Int) < (t0.length : Int) := by omega
      rw [decide_eq_true hi', cond_true, inB_lt hi, cond_true, cond_true, toNat_cast, getD_of hi]
      rw [p_L_eqHunk _ (Nat.le_trans (tot_mem hi) hs), Option.bind_some, Bool.not_true, cond_false, wrap64 (by omega) (by omega)]) (by
      show b_L_eqHunkS_4 t0 t0 t0.length = _
      unfold b_L_eqHunkS_4
      rw [decide_eq_false (Int.lt_irrefl _), cond_false])]
  rfl

theorem p_L_eqHunkSS (t0 : PV S_S_impl_Hunk) (hs : tot S_S_impl_Hunk t0 ≤ 4611686018427387904) : f_L_eqHunkSS t0 t0 = some ((true, ()), ()) := by
  unfold f_L_eqHunkSS
  have hl : List.length t0 ≤ 4611686018427387904 := Nat.le_trans (Nat.le_add_right _ _) (tot_slice ▸ hs)
  rw [beq_self_eq_true, Bool.not_true, cond_false]
  rw [show w_L_eqHunkSS_4 (t0, t0, 0, ()) = _ from eq_loop (xs := t0) (B := fun d => b_L_eqHunkSS_4 d.1 d.2.1 d.2.2.1) (fun i hi => by
      show b_L_eqHunkSS_4 t0 t0 i = _
      unfold b_L_eqHunkSS_4
      have hi' : (i : Int) < (t0.length : Int) := by omega
      rw [decide_eq_true hi', cond_true, inB_lt hi, cond_true, cond_true, toNat_cast, getD_of hi]
      rw [p_L_eqHunkS _ (Nat.le_trans (tot_mem hi) hs), Option.bind_some, Bool.not_true, cond_false, wrap64 (by omega) (by omega)]) (by
      show b_L_eqHunkSS_4 t0 t0 t0.length = _
      unfold b_L_eqHunkSS_4
      rw [decide_eq_false (Int.lt_irrefl _), cond_false])]
  rfl

theorem p_L_eqSeries (t0 : PV Y_impl_Series) (hs : tot Y_impl_Series t0 ≤ 4611686018427387904) : f_L_eqSeries t0 t0 = some ((true, ()), ()) := by
  unfold f_L_eqSeries
  simp only [tot] at hs
  rw [p_L_eqStringS t0.1 (by simp only [tot]; omega), Option.bind_some, Bool.not_true, cond_false]
  rw [p_L_eqHunkSS t0.2.1 (by simp only [tot]; omega), Option.bind_some, Bool.not_true, cond_false]

theorem p_L_heldStringS (t0 : PV S_string) (k : Int) (h0 : 0 ≤ k) (h1 : k + (cn S_string t0 : Nat) ≤ 4611686018427387904) (hs : tot S_string t0 ≤ 4611686018427387904) : f_L_heldStringS (mk tx S_string t0 k).1 k = some (((mk tx S_string t0 k).2, ()), ()) := by
  have hl : List.length t0 ≤ 4611686018427387904 := Nat.le_trans (Nat.le_add_right _ _) (tot_slice ▸ hs)
  unfold f_L_heldStringS
  rw [show w_L_heldStringS_2 ((mk tx S_string t0 k).1, k, 0, ()) = _ from held_loop (tx := tx) (T := .str) (Q := fun x => tot .str x ≤ 4611686018427387904) (B := fun d => b_L_heldStringS_2 d.1 d.2.1 d.2.2.1) (fun i ys x k hi hl hy hQ h0 h1 => by
      show b_L_heldStringS_2 ys k i = _
      have hi' : (i : Int) < (ys.length : Int) := by omega
      have wi : IntKind.wrap .i64 ((i : Int) + 1) = (i : Int) + 1 := wrap64 (by omega) (by omega)
      have c1 : cn .str x = 1 := rfl
      have m1 := p_L_markText (k) (by omega) (by omega)
      have u1 : IntKind.wrap .i64 (k + 1) = k + 1 := wrap64 (by omega) (by omega)
      unfold b_L_heldStringS_2
      simp only [decide_eq_true hi', cond_true, inB_lt hi, toNat_cast, getD_of hi, hy, Option.bind_some, wi, beq_self_eq_true, Bool.not_true, cond_false, m1, u1, mk_pair, mk_int, mk_str, mk_unit]) (fun ys k hl => by
      show b_L_heldStringS_2 ys k t0.length = _
      unfold b_L_heldStringS_2
      rw [hl, decide_eq_false (Int.lt_irrefl _), cond_false]) (tot_all hs) h0 h1]
  rfl

theorem p_L_heldHunkS (t0 : PV S_impl_Hunk) (k : Int) (h0 : 0 ≤ k) (h1 : k + (cn S_impl_Hunk t0 : Nat) ≤ 4611686018427387904) (hs : tot S_impl_Hunk t0 ≤ 4611686018427387904) : f_L_heldHunkS (mk tx S_impl_Hunk t0 k).1 k = some (((mk tx S_impl_Hunk t0 k).2, ()), ()) := by
  have hl : List.length t0 ≤ 4611686018427387904 := Nat.le_trans (Nat.le_add_right _ _) (tot_slice ▸ hs)
  unfold f_L_heldHunkS
  rw [show w_L_heldHunkS_2 ((mk tx S_impl_Hunk t0 k).1, k, 0, ()) = _ from held_loop (tx := tx) (T := Y_impl_Hunk) (Q := fun x => tot Y_impl_Hunk x ≤ 4611686018427387904) (B := fun d => b_L_heldHunkS_2 d.1 d.2.1 d.2.2.1) (fun i ys x k hi hl hy hQ h0 h1 => by
      show b_L_heldHunkS_2 ys k i = _
      have hi' : (i : Int) < (ys.length : Int) := by omega
      have wi : IntKind.wrap .i64 ((i : Int) + 1) = (i : Int) + 1 := wrap64 (by omega) (by omega)
      have hc : cn Y_impl_Hunk x = cn (.int .i64) x.1 + (cn (.int .i64) x.2.1 + (cn S_string x.2.2.1 + (0))) := rfl
      have ht : tot Y_impl_Hunk x = tot (.int .i64) x.1 + (tot (.int .i64) x.2.1 + (tot S_string x.2.2.1 + (0))) := rfl
      have c1 : cn (.int .i64) x.1 = 1 := rfl
      have u1 : IntKind.wrap .i64 (k + 1) = k + 1 := wrap64 (by omega) (by omega)
      have c2 : cn (.int .i64) x.2.1 = 1 := rfl
      have u2 : IntKind.wrap .i64 (k + 1 + 1) = k + 1 + 1 := wrap64 (by omega) (by omega)
      have m3 := p_L_heldStringS x.2.2.1 (k + 1 + 1) (by omega) (by omega) (by omega)
      have c3 := mk_cn tx S_string x.2.2.1 (k + 1 + 1)
      have d3 : decide ((mk tx S_string x.2.2.1 (k + 1 + 1)).2 < 0) = false := decide_eq_false (by omega)
      unfold b_L_heldHunkS_2
      simp only [decide_eq_true hi', cond_true, inB_lt hi, toNat_cast, getD_of hi, hy, Option.bind_some, wi, beq_self_eq_true, Bool.not_true, cond_false, u1, u2, m3, d3, mk_pair, mk_int, mk_str, mk_unit]) (fun ys k hl => by
      show b_L_heldHunkS_2 ys k t0.length = _
      unfold b_L_heldHunkS_2
      rw [hl, decide_eq_false (Int.lt_irrefl _), cond_false]) (tot_all hs) h0 h1]
  rfl

theorem p_L_heldHunkSS (t0 : PV S_S_impl_Hunk) (k : Int) (h0 : 0 ≤ k) (h1 : k + (cn S_S_impl_Hunk t0 : Nat) ≤ 4611686018427387904) (hs : tot S_S_impl_Hunk t0 ≤ 4611686018427387904) : f_L_heldHunkSS (mk tx S_S_impl_Hunk t0 k).1 k = some (((mk tx S_S_impl_Hunk t0 k).2, ()), ()) := by
  have hl : List.length t0 ≤ 4611686018427387904 := Nat.le_trans (Nat.le_add_right _ _) (tot_slice ▸ hs)
  unfold f_L_heldHunkSS
  rw [show w_L_heldHunkSS_2 ((mk tx S_S_impl_Hunk t0 k).1, k, 0, ()) = _ from held_loop (tx := tx) (T := S_impl_Hunk) (Q := fun x => tot S_impl_Hunk x ≤ 4611686018427387904) (B := fun d => b_L_heldHunkSS_2 d.1 d.2.1 d.2.2.1) (fun i ys x k hi hl hy hQ h0 h1 => by
      show b_L_heldHunkSS_2 ys k i = _
      have hi' : (i : Int) < (ys.length : Int) := by omega
      have wi : IntKind.wrap .i64 ((i : Int) + 1) = (i : Int) + 1 := wrap64 (by omega) (by omega)
      have m1 := p_L_heldHunkS x (k) (by omega) (by omega) (by omega)
      have c1 := mk_cn tx S_impl_Hunk x (k)
      have d1 : decide ((mk tx S_impl_Hunk x (k)).2 < 0) = false := decide_eq_false (by omega)
      unfold b_L_heldHunkSS_2
      simp only [decide_eq_true hi', cond_true, inB_lt hi, toNat_cast, getD_of hi, hy, Option.bind_some, wi, beq_self_eq_true, Bool.not_true, cond_false, m1, d1, mk_pair, mk_int, mk_str, mk_unit]) (fun ys k hl => by
      show b_L_heldHunkSS_2 ys k t0.length = _
      unfold b_L_heldHunkSS_2
      rw [hl, decide_eq_false (Int.lt_irrefl _), cond_false]) (tot_all hs) h0 h1]
  rfl

theorem p_L_heldSeries (t0 : PV Y_impl_Series) (k : Int) (h0 : 0 ≤ k) (h1 : k + (cn Y_impl_Series t0 : Nat) ≤ 4611686018427387904) (hs : tot Y_impl_Series t0 ≤ 4611686018427387904) : f_L_heldSeries ((mk tx S_string t0.1 (k)).1, (mk tx S_S_impl_Hunk t0.2.1 ((mk tx S_string t0.1 (k)).2)).1, ()) k = some (((mk tx S_S_impl_Hunk t0.2.1 ((mk tx S_string t0.1 (k)).2)).2, ()), ()) := by
  have hc : cn Y_impl_Series t0 = cn S_string t0.1 + (cn S_S_impl_Hunk t0.2.1 + (0)) := rfl
  have ht : tot Y_impl_Series t0 = tot S_string t0.1 + (tot S_S_impl_Hunk t0.2.1 + (0)) := rfl
  have c0 := mk_cn tx S_string t0.1 (k)
  have m0 := p_L_heldStringS t0.1 (k) (by omega) (by omega) (by omega)
  have d0 : decide ((mk tx S_string t0.1 (k)).2 < 0) = false := decide_eq_false (by omega)
  have c1 := mk_cn tx S_S_impl_Hunk t0.2.1 ((mk tx S_string t0.1 (k)).2)
  have m1 := p_L_heldHunkSS t0.2.1 ((mk tx S_string t0.1 (k)).2) (by omega) (by omega) (by omega)
  have d1 : decide ((mk tx S_S_impl_Hunk t0.2.1 ((mk tx S_string t0.1 (k)).2)).2 < 0) = false := decide_eq_false (by omega)
  unfold f_L_heldSeries
  simp only [m0, d0, m1, d1, Option.bind_some, cond_false]
end R
end

section
/- Lines: both sides' tests of lines answer the same. -/
open Go Go.Dn
namespace R
set_option linter.unusedVariables false

theorem in_I (a b c : Int) : f_I_in a b c = some ((decide (a ≥ b) && decide (a ≤ c), ()), ()) := by
  unfold f_I_in
  cases decide (a ≥ b) <;> rfl
theorem in_S (a b c : Int) : f_S_l1In a b c = some ((decide (a ≥ b) && decide (a ≤ c), ()), ()) := by
  unfold f_S_l1In
  cases decide (a ≥ b) <;> rfl

def inI (a b c : Int) : Bool := decide (a ≥ b) && decide (a ≤ c)
def hasEnd (s : List UInt8) : Bool := (s.take (s.length - 1)).contains 10
def lineP (s : List UInt8) : Bool := inI (s.length : Int) 1 30 && !hasEnd s
def endP (s : List UInt8) : Bool := s.drop (s.length - 1) == [10]

theorem line_len {s : List UInt8} (h : lineP s = true) : 1 ≤ s.length ∧ s.length ≤ 30 := by
  unfold lineP inI at h
  simp only [Bool.and_eq_true, decide_eq_true_eq] at h
  omega

theorem line_S (s : List UInt8) (hs : s.length ≤ 4611686018427387904) : f_S_l1Line s = some ((lineP s, ()), ()) := by
  unfold f_S_l1Line
  have hw : IntKind.wrap .i64 ((s.length : Int) - 1) = (s.length : Int) - 1 := wrap64 (by omega) (by omega)
  rw [show w_S_l1Line_2 (s, 0, ()) = _ from fix_anyN (B := fun d => b_S_l1Line_2 d.1 d.2.1) (s.length - 1) (fun i => s.getD i 0 == 10) (fun i => (s, (i : Int), ())) (fun _ => .inr (false, ())) (.inl (s, ()))
    (fun i hi hq => by
      show b_S_l1Line_2 s i = _
      unfold b_S_l1Line_2
      rw [hw, decide_eq_true (by omega : (i : Int) < (s.length : Int) - 1), cond_true, inB_lt (by omega), cond_true, toNat_cast]
      rw [show ((((s.getD i 0 : UInt8).toNat : Nat) : Int) == 10) = (s.getD i 0 == 10) from byte_eq (n := 10) (by omega), hq, cond_false, wrap64 (by omega) (by omega)]
      simp)
    (fun i hi hq => by
      show b_S_l1Line_2 s i = _
      unfold b_S_l1Line_2
      rw [hw, decide_eq_true (by omega : (i : Int) < (s.length : Int) - 1), cond_true, inB_lt (by omega), cond_true, toNat_cast]
      rw [show ((((s.getD i 0 : UInt8).toNat : Nat) : Int) == 10) = (s.getD i 0 == 10) from byte_eq (n := 10) (by omega), hq, cond_true])
    (by
      show b_S_l1Line_2 s ((s.length - 1 : Nat) : Int) = _
      unfold b_S_l1Line_2
      rw [hw, decide_eq_false (by omega : ¬ (((s.length - 1 : Nat) : Int) < (s.length : Int) - 1)), cond_false])]
  rw [contains_take (by omega)]
  unfold lineP hasEnd
  cases (s.take (s.length - 1)).contains 10
  · simp only [Bool.false_eq_true, if_false, Option.bind_some, in_S]; simp [inI]
  · simp

theorem ends_S (s : List UInt8) (h1 : 1 ≤ s.length) (hs : s.length ≤ 4611686018427387904) : f_S_l1Ends s = some ((endP s, ()), ()) := by
  unfold f_S_l1Ends
  have hw : IntKind.wrap .i64 ((s.length : Int) - 1) = ((s.length - 1 : Nat) : Int) := by rw [wrap64 (by omega) (by omega)]; omega
  rw [hw, inB_lt (by omega), cond_true, toNat_cast]
  rw [show ((((s.getD (s.length - 1) 0 : UInt8).toNat : Nat) : Int) == 10) = (s.getD (s.length - 1) 0 == 10) from byte_eq (n := 10) (by omega)]
  unfold endP
  rw [List.drop_eq_getElem_cons (by omega : s.length - 1 < s.length), List.drop_of_length_le (by omega), getD_of (by omega)]
  simp

theorem line_I (s : List UInt8) (hs : s.length ≤ 4611686018427387904) : f_I_isLine s = some ((lineP s, ()), ()) := by
  unfold f_I_isLine
  rw [in_I, Option.bind_some]
  dsimp only
  unfold lineP
  cases h : inI (s.length : Int) 1 30
  · unfold inI at h; rw [h]; rfl
  · have h' := h
    unfold inI at h'
    rw [h', cond_true]
    simp only [Bool.and_eq_true, decide_eq_true_eq] at h'
    rw [wrap64 (by omega) (by omega)]
    rw [show cutB 0 ((s.length : Int) - 1) s.length = true from by unfold cutB; simp; omega, cond_true]
    unfold f_strings_Contains containsF
    rw [Option.bind_some]
    unfold hasEnd cutL
    rw [show ((s.length : Int) - 1).toNat = s.length - 1 from by omega]
    simp

theorem ends_I (s : List UInt8) (hs : s.length ≤ 4611686018427387904) : f_I_isEnded s = some ((endP s, ()), ()) := by
  unfold f_I_isEnded f_strings_HasSuffix f_internal_stringslite_HasSuffix endP
  by_cases h : 1 ≤ s.length
  · rw [decide_eq_true (by simp; omega : (s.length : Int) ≥ (([10] : List UInt8).length : Int)), cond_true]
    have hw : IntKind.wrap .i64 ((s.length : Int) - (([10] : List UInt8).length : Int)) = ((s.length - 1 : Nat) : Int) := by
      rw [show ((([10] : List UInt8).length : Nat) : Int) = 1 from rfl, wrap64 (by omega) (by omega)]; omega
    rw [hw, show cutB ((s.length - 1 : Nat) : Int) (s.length : Int) s.length = true from by unfold cutB; simp, cond_true]
    unfold cutL
    simp
  · have : s = [] := List.eq_nil_of_length_eq_zero (by omega)
    subst this
    rfl

/-- Lines, each by itself, and not too many. -/
def linesP (l : List (List UInt8)) : Bool := decide (l.length ≤ 40) && !(l.any fun s => !lineP s)
def endsP (l : List (List UInt8)) : Bool := !(anyN l.length fun k => decide ((k : Int) < (l.length : Int) - 1) && !(endP (l.getD k [])))
def goodP (l : List (List UInt8)) : Bool := linesP l && endsP l

def Sm (l : List (List UInt8)) : Prop := l.length ≤ 4611686018427387904 ∧ ∀ s ∈ l, s.length ≤ 4611686018427387904

theorem Sm.len {l : List (List UInt8)} (h : Sm l) : l.length ≤ 4611686018427387904 := h.1
theorem Sm.mem {l : List (List UInt8)} (h : Sm l) {i : Nat} (hi : i < l.length) : (l[i]).length ≤ 4611686018427387904 := h.2 _ (List.getElem_mem hi)
theorem Sm.of {l : List (List UInt8)} {n : Nat} (h : tot (.slice 9 .str) l ≤ n) (hn : n ≤ 4611686018427387904) : Sm l := by
  refine ⟨?_, fun s hs => ?_⟩
  · have h' := h
    rw [tot_slice] at h'
    omega
  · obtain ⟨i, hi, rfl⟩ := List.mem_iff_getElem.1 hs
    have := Nat.le_trans (tot_mem (e := 9) (t := .str) (xs := l) hi) h
    rw [tot_str] at this
    omega

theorem areLines_I (t0 : List (List UInt8)) (hs : Sm t0) : f_I_areLines t0 = some ((linesP t0, ()), ()) := by
  unfold f_I_areLines linesP
  by_cases hl : t0.length ≤ 40
  · rw [decide_eq_true (by omega : (t0.length : Int) ≤ 40), cond_true, decide_eq_true hl, Bool.true_and]
    rw [show w_I_areLines_214_2 (t0, false, t0, (t0.length : Int), true, true, t0, t0, false, t0, t0, (t0.length : Int), 0, ()) = _ from
      fix_any (B := fun d => b_I_areLines_214_2 d.1 d.2.1 d.2.2.1 d.2.2.2.1 d.2.2.2.2.1 d.2.2.2.2.2.1 d.2.2.2.2.2.2.1 d.2.2.2.2.2.2.2.1 d.2.2.2.2.2.2.2.2.1 d.2.2.2.2.2.2.2.2.2.1 d.2.2.2.2.2.2.2.2.2.2.1 d.2.2.2.2.2.2.2.2.2.2.2.1 d.2.2.2.2.2.2.2.2.2.2.2.2.1) t0 (fun s => !lineP s)
      (fun i => (t0, false, t0, (t0.length : Int), true, true, t0, t0, false, t0, t0, (t0.length : Int), (i : Int), ())) (fun i => .inr (t0, false, t0, (t0.length : Int), true, true, t0, t0, false, t0, (i : Int), ())) (.inl (t0, false, t0, (t0.length : Int), true, true, t0, t0, false, t0, ()))
      (fun i hi hq => by
        show b_I_areLines_214_2 _ _ _ _ _ _ _ _ _ _ t0 t0.length i = _
        unfold b_I_areLines_214_2 f_I_areLines_1
        rw [decide_eq_true (by omega : (i : Int) < (t0.length : Int)), cond_true, inB_lt hi, cond_true, toNat_cast, getD_of hi, line_I _ (hs.mem hi), Option.bind_some, Option.bind_some]
        dsimp only
        rw [hq, cond_false, wrap64 (by omega) (by omega)]; rfl)
      (fun i hi hq => by
        show b_I_areLines_214_2 _ _ _ _ _ _ _ _ _ _ t0 t0.length i = _
        unfold b_I_areLines_214_2 f_I_areLines_1
        rw [decide_eq_true (by omega : (i : Int) < (t0.length : Int)), cond_true, inB_lt hi, cond_true, toNat_cast, getD_of hi, line_I _ (hs.mem hi), Option.bind_some, Option.bind_some]
        dsimp only
        rw [hq, cond_true])
      (by
        show b_I_areLines_214_2 _ _ _ _ _ _ _ _ _ _ t0 t0.length t0.length = _
        unfold b_I_areLines_214_2
        rw [decide_eq_false (Int.lt_irrefl _), cond_false])]
    cases h : t0.any fun s => !lineP s
    · rfl
    · simp
  · rw [decide_eq_false (by omega : ¬ (t0.length : Int) ≤ 40), cond_false, decide_eq_false hl]; rfl

theorem goodLines_I (t0 : List (List UInt8)) (hs : Sm t0) : f_I_goodLines t0 = some ((goodP t0, ()), ()) := by
  have hl := hs.len
  unfold f_I_goodLines goodP
  rw [areLines_I t0 hs, Option.bind_some]
  dsimp only
  cases linesP t0
  · rfl
  · rw [Bool.not_true, cond_false]
    have hw : IntKind.wrap .i64 ((t0.length : Int) - 1) = (t0.length : Int) - 1 := wrap64 (by omega) (by omega)
    have hr : ∀ i, i < t0.length → ((bif decide ((i : Int) < (t0.length : Int) - 1) then (f_I_isEnded (t0.getD i [])).bind fun r7 => some (t0, t0, (t0.length : Int), (i : Int), !r7.1.1, ()) else some (t0, t0, (t0.length : Int), (i : Int), false, ())) : Option (PV S_string × PV S_string × Int × Int × Bool × Unit)) =
        some (t0, t0, (t0.length : Int), (i : Int), decide ((i : Int) < (t0.length : Int) - 1) && !(endP (t0.getD i [])), ()) := by
      intro i hi
      cases decide ((i : Int) < (t0.length : Int) - 1)
      · rfl
      · rw [cond_true, getD_of hi, ends_I _ (hs.mem hi)]; rfl
    rw [show w_I_goodLines_4 (t0, t0, (t0.length : Int), 0, ()) = _ from fix_anyN (B := fun d => b_I_goodLines_4 d.1 d.2.1 d.2.2.1 d.2.2.2.1) t0.length (fun k => decide ((k : Int) < (t0.length : Int) - 1) && !(endP (t0.getD k [])))
      (fun i => (t0, t0, (t0.length : Int), (i : Int), ())) (fun _ => .inr (false, ())) (.inl ())
      (fun i hi hq => by
        show b_I_goodLines_4 t0 t0 t0.length i = _
        unfold b_I_goodLines_4
        rw [decide_eq_true (by omega : (i : Int) < (t0.length : Int)), cond_true, inB_lt hi, cond_true, toNat_cast, hw, hr i hi, hq, Option.bind_some]
        dsimp only
        rw [cond_false, wrap64 (by omega) (by omega)]; rfl)
      (fun i hi hq => by
        show b_I_goodLines_4 t0 t0 t0.length i = _
        unfold b_I_goodLines_4
        rw [decide_eq_true (by omega : (i : Int) < (t0.length : Int)), cond_true, inB_lt hi, cond_true, toNat_cast, hw, hr i hi, hq, Option.bind_some]
        rfl)
      (by
        show b_I_goodLines_4 t0 t0 t0.length t0.length = _
        unfold b_I_goodLines_4
        rw [decide_eq_false (Int.lt_irrefl _), cond_false])]
    unfold endsP
    cases anyN t0.length fun k => decide ((k : Int) < (t0.length : Int) - 1) && !(endP (t0.getD k [])) <;> rfl

theorem l1Good_S (t0 : List (List UInt8)) (hs : Sm t0) : f_S_l1Good t0 = some ((goodP t0, ()), ()) := by
  have hl := hs.len
  unfold f_S_l1Good
  have hw : IntKind.wrap .i64 ((t0.length : Int) - 1) = (t0.length : Int) - 1 := wrap64 (by omega) (by omega)
  have hr : ∀ i, i < t0.length → (((f_S_l1Line (t0.getD i [])).bind fun r4 => bif !r4.1.1 then some (t0, t0, (t0.length : Int), (i : Int), true, ()) else
      bif decide ((i : Int) < (t0.length : Int) - 1) then (f_S_l1Ends (t0.getD i [])).bind fun r5 => some (t0, t0, (t0.length : Int), (i : Int), !r5.1.1, ()) else some (t0, t0, (t0.length : Int), (i : Int), false, ())) : Option (PV S_string × PV S_string × Int × Int × Bool × Unit)) =
      some (t0, t0, (t0.length : Int), (i : Int), !(lineP (t0.getD i [])) || (decide ((i : Int) < (t0.length : Int) - 1) && !(endP (t0.getD i []))), ()) := by
    intro i hi
    rw [getD_of hi, line_S _ (hs.mem hi), Option.bind_some]
    dsimp only
    cases hL : lineP t0[i]
    · rfl
    · rw [Bool.not_true, cond_false, Bool.false_or]
      cases decide ((i : Int) < (t0.length : Int) - 1)
      · rfl
      · rw [cond_true, ends_S _ (line_len hL).1 (hs.mem hi)]; rfl
  rw [show w_S_l1Good_2 (t0, t0, (t0.length : Int), 0, ()) = _ from fix_anyN (B := fun d => b_S_l1Good_2 d.1 d.2.1 d.2.2.1 d.2.2.2.1) t0.length (fun k => !(lineP (t0.getD k [])) || (decide ((k : Int) < (t0.length : Int) - 1) && !(endP (t0.getD k []))))
      (fun i => (t0, t0, (t0.length : Int), (i : Int), ())) (fun _ => .inr (false, ())) (.inl (t0, ()))
      (fun i hi hq => by
        show b_S_l1Good_2 t0 t0 t0.length i = _
        unfold b_S_l1Good_2
        rw [decide_eq_true (by omega : (i : Int) < (t0.length : Int)), cond_true, inB_lt hi, cond_true, toNat_cast, hw, hr i hi, hq, Option.bind_some]
        dsimp only
        rw [cond_false, wrap64 (by omega) (by omega)]; rfl)
      (fun i hi hq => by
        show b_S_l1Good_2 t0 t0 t0.length i = _
        unfold b_S_l1Good_2
        rw [decide_eq_true (by omega : (i : Int) < (t0.length : Int)), cond_true, inB_lt hi, cond_true, toNat_cast, hw, hr i hi, hq, Option.bind_some]
        rfl)
      (by
        show b_S_l1Good_2 t0 t0 t0.length t0.length = _
        unfold b_S_l1Good_2
        rw [decide_eq_false (Int.lt_irrefl _), cond_false])]
  rw [anyN_or, show (anyN t0.length fun k => !(lineP (t0.getD k []))) = t0.any fun s => !lineP s from anyN_list (f := fun s => !lineP s)]
  unfold goodP linesP endsP
  cases t0.any fun s => !lineP s
  · cases anyN t0.length fun k => decide ((k : Int) < (t0.length : Int) - 1) && !(endP (t0.getD k []))
    · simp; omega
    · simp
  · simp
end R
end

section
/- Good hunks: both sides answer the same. -/
open Go Go.Dn
namespace R
set_option linter.unusedVariables false

abbrev H0 : PV Y_impl_Hunk := dflt Y_impl_Hunk
def badH (many : Int) (x : PV Y_impl_Hunk) : Bool :=
  !(inI x.1 0 many) || (!(inI x.2.1 0 (IntKind.wrap .i64 (many - x.1))) || (!(linesP x.2.2.1) || ((x.2.1 == 0) && ((List.length x.2.2.1 : Int) == 0))))
def badP (h : List (PV Y_impl_Hunk)) (k : Nat) : Bool :=
  decide ((k : Int) > 0) && decide ((h.getD k H0).1 ≤ IntKind.wrap .i64 ((h.getD (k - 1) H0).1 + (h.getD (k - 1) H0).2.1))
def badK (many : Int) (h : List (PV Y_impl_Hunk)) (k : Nat) : Bool := badH many (h.getD k H0) || badP h k
def hunksP (many : Int) (h : List (PV Y_impl_Hunk)) : Bool := inI many 0 40 && (decide (h.length ≤ 20) && !(anyN h.length (badK many h)))

def SmH (h : List (PV Y_impl_Hunk)) : Prop := h.length ≤ 4611686018427387904 ∧ ∀ x ∈ h, Sm x.2.2.1
theorem SmH.len {h : List (PV Y_impl_Hunk)} (hs : SmH h) : h.length ≤ 4611686018427387904 := hs.1
theorem SmH.mem {h : List (PV Y_impl_Hunk)} (hs : SmH h) {i : Nat} (hi : i < h.length) : Sm (h.getD i H0).2.2.1 := by
  rw [getD_of hi]
  exact hs.2 _ (List.getElem_mem hi)
theorem SmH.of {e : TypeId} {h : List (PV Y_impl_Hunk)} {n : Nat} (hs : tot (.slice e Y_impl_Hunk) h ≤ n) (hn : n ≤ 4611686018427387904) : SmH h := by
  refine ⟨?_, fun x hx => ?_⟩
  · have h' := hs
    rw [tot_slice] at h'
    omega
  · obtain ⟨i, hi, rfl⟩ := List.mem_iff_getElem.1 hx
    have := Nat.le_trans (tot_mem (e := e) (t := Y_impl_Hunk) (xs := h) hi) hs
    refine Sm.of (n := n) ?_ hn
    simp only [tot] at this ⊢
    omega

theorem stepH_I (many : Int) (h : List (PV Y_impl_Hunk)) (hs : SmH h) {i : Nat} (hi : i < h.length) :
    b_I_goodHunks_4 many h h h.length i = some (if badK many h i then .inr (.inr (false, ())) else .inl (many, h, h, (h.length : Int), (i : Int) + 1, ())) := by
  have hl := hs.len
  have hm := hs.mem hi
  unfold b_I_goodHunks_4
  rw [decide_eq_true (by omega : (i : Int) < (h.length : Int)), cond_true, inB_lt hi, cond_true, toNat_cast]
  unfold badK badP
  generalize hx : h.getD i H0 = x at *
  rw [in_I, in_I, areLines_I _ hm, Option.bind_some, Option.bind_some]
  unfold badH inI
  dsimp only
  cases decide (x.1 ≥ 0) && decide (x.1 ≤ many)
  · rfl
  · cases decide (x.2.1 ≥ 0) && decide (x.2.1 ≤ IntKind.wrap .i64 (many - x.1))
    · rfl
    · cases linesP x.2.2.1
      · rfl
      · simp only [Bool.not_true, cond_false, Option.bind_some, Bool.false_or]
        have hb : ((bif x.2.1 == 0 then some (many, h, (i : Int), x, h, (h.length : Int), (i : Int), (List.length x.2.2.1 : Int) == 0, ()) else some (many, h, (i : Int), x, h, (h.length : Int), (i : Int), false, ())) : Option (Int × List (PV Y_impl_Hunk) × Int × PV Y_impl_Hunk × List (PV Y_impl_Hunk) × Int × Int × Bool × Unit)) =
            some (many, h, (i : Int), x, h, (h.length : Int), (i : Int), (x.2.1 == 0) && ((List.length x.2.2.1 : Int) == 0), ()) := by
          cases x.2.1 == 0 <;> rfl
        rw [hb, Option.bind_some]
        dsimp only
        cases (x.2.1 == 0) && ((List.length x.2.2.1 : Int) == 0)
        · simp only [cond_false, Bool.false_or]
          cases i with
          | zero => rw [decide_eq_false (by omega : ¬ (((0 : Nat) : Int) > 0))]; rfl
          | succ j =>
            rw [decide_eq_true (by omega : ((j + 1 : Nat) : Int) > 0), cond_true, show IntKind.wrap .i64 (((j + 1 : Nat) : Int) - 1) = (j : Int) from by rw [wrap64 (by omega) (by omega)]; omega, inB_lt (by omega : j < h.length), cond_true, cond_true, toNat_cast, Option.bind_some, Bool.true_and, Nat.add_sub_cancel]
            dsimp only
            rw [wrap64 (x := ((j + 1 : Nat) : Int) + 1) (by omega) (by omega)]
            cases decide (x.1 ≤ IntKind.wrap .i64 ((h.getD j (dflt Y_impl_Hunk)).1 + (h.getD j (dflt Y_impl_Hunk)).2.1)) <;> rfl
        · rfl

theorem hunks_I (many : Int) (h : List (PV Y_impl_Hunk)) (hs : SmH h) : f_I_goodHunks many h = some ((hunksP many h, ()), ()) := by
  have hl := hs.len
  unfold f_I_goodHunks hunksP
  rw [in_I, Option.bind_some]
  dsimp only
  unfold inI
  cases decide (many ≥ 0) && decide (many ≤ 40)
  · rfl
  · rw [Bool.not_true, cond_false, Option.bind_some]
    dsimp only
    by_cases hn : h.length ≤ 20
    · rw [decide_eq_false (by omega : ¬ ((h.length : Int) > 20)), cond_false, decide_eq_true hn, Bool.true_and, Bool.true_and]
      rw [show w_I_goodHunks_4 (many, h, h, (h.length : Int), 0, ()) = _ from fix_anyN (B := fun d => b_I_goodHunks_4 d.1 d.2.1 d.2.2.1 d.2.2.2.1 d.2.2.2.2.1) h.length (badK many h) (fun i => (many, h, h, (h.length : Int), (i : Int), ())) (fun _ => .inr (false, ())) (.inl ())
        (fun i hi hq => by show b_I_goodHunks_4 many h h h.length i = _; rw [stepH_I many h hs hi, hq]; rfl)
        (fun i hi hq => by show b_I_goodHunks_4 many h h h.length i = _; rw [stepH_I many h hs hi, hq]; rfl)
        (by
          show b_I_goodHunks_4 many h h h.length h.length = _
          unfold b_I_goodHunks_4
          rw [decide_eq_false (Int.lt_irrefl _), cond_false])]
      cases anyN h.length (badK many h) <;> rfl
    · rw [decide_eq_true (by omega : (h.length : Int) > 20), cond_true, decide_eq_false hn]; rfl

def badS (many : Int) (x : PV Y_impl_Hunk) : Bool :=
  decide (x.1 < 0) || (decide (x.2.1 < 0) || (decide (x.2.1 > many) || (decide (x.1 > IntKind.wrap .i64 (many - x.2.1)) || ((IntKind.wrap .i64 (x.2.1 + (List.length x.2.2.1 : Int)) == 0) || decide ((List.length x.2.2.1 : Int) > 40)))))

theorem bad_nums {many A G n : Int} (h0 : 0 ≤ many) (h1 : many ≤ 4611686018427387903) (hn : 0 ≤ n) (hm : n ≤ 4611686018427387904) :
    (decide (A < 0) || (decide (G < 0) || (decide (G > many) || (decide (A > IntKind.wrap .i64 (many - G)) || ((IntKind.wrap .i64 (G + n) == 0) || decide (n > 40)))))) =
      (!(decide (A ≥ 0) && decide (A ≤ many)) || (!(decide (G ≥ 0) && decide (G ≤ IntKind.wrap .i64 (many - A))) || (!(decide (n ≤ 40)) || ((G == 0) && (n == 0))))) := by
  rw [Bool.eq_iff_iff]
  simp only [Bool.or_eq_true, Bool.not_eq_true', decide_eq_true_eq, decide_eq_false_iff_not, beq_iff_eq, Bool.and_eq_false_iff, Bool.and_eq_true]
  by_cases a4 : A ≤ many ∧ 0 ≤ A
  · rw [wrap64 (x := many - A) (by omega) (by omega)]
    by_cases a3 : 0 ≤ G ∧ G ≤ many
    · rw [wrap64 (x := many - G) (by omega) (by omega), wrap64 (x := G + n) (by omega) (by omega)]
      omega
    · constructor
      · intro _; right; left; omega
      · intro _; omega
  · constructor
    · intro _; left; omega
    · intro _
      by_cases a1 : A < 0
      · exact .inl a1
      · by_cases a2 : G < 0
        · exact .inr (.inl a2)
        · by_cases a3 : G > many
          · exact .inr (.inr (.inl a3))
          · right; right; right; left
            rw [wrap64 (x := many - G) (by omega) (by omega)]
            omega

theorem bad_same {many : Int} {x : PV Y_impl_Hunk} (h0 : 0 ≤ many) (h1 : many ≤ 4611686018427387903) (hm : List.length x.2.2.1 ≤ 4611686018427387904) :
    (badS many x || List.any x.2.2.1 fun s => !lineP s) = badH many x := by
  unfold badS badH linesP inI
  have := bad_nums (A := x.1) (G := x.2.1) (n := (List.length x.2.2.1 : Int)) h0 h1 (by omega) (by omega)
  rw [this]
  rw [show decide (List.length x.2.2.1 ≤ 40) = decide ((List.length x.2.2.1 : Int) ≤ 40) from by rw [Bool.eq_iff_iff]; simp; omega]
  cases (decide ((x.1 : Int) ≥ 0) && decide ((x.1 : Int) ≤ many)) <;> cases (decide ((x.2.1 : Int) ≥ 0) && decide ((x.2.1 : Int) ≤ IntKind.wrap .i64 (many - x.1))) <;> cases decide ((List.length x.2.2.1 : Int) ≤ 40) <;>
    cases ((x.2.1 == 0) && ((List.length x.2.2.1 : Int) == 0)) <;> cases (List.any x.2.2.1 fun s => !lineP s) <;> rfl

theorem stepH_S (many : Int) (h : List (PV Y_impl_Hunk)) (hs : SmH h) (h0 : 0 ≤ many) (h1 : many ≤ 4611686018427387903) {i : Nat} (hi : i < h.length) :
    b_S_l2Hunks_2 many h h h.length i = some (if badK many h i then .inr (.inr (false, ())) else .inl (many, h, h, (h.length : Int), (i : Int) + 1, ())) := by
  have hl := hs.len
  have hm := hs.mem hi
  unfold b_S_l2Hunks_2
  rw [decide_eq_true (by omega : (i : Int) < (h.length : Int)), cond_true, inB_lt hi, cond_true, toNat_cast]
  have hq : badK many h i = ((badS many (h.getD i H0) || badP h i) || List.any (h.getD i H0).2.2.1 fun s => !lineP s) := by
    unfold badK
    rw [← bad_same h0 h1 hm.len]
    cases badS many (h.getD i H0) <;> cases badP h i <;> cases List.any (h.getD i H0).2.2.1 fun s => !lineP s <;> rfl
  rw [hq]
  unfold badP
  generalize hx : h.getD i H0 = x at *
  have hr : ∀ f : Bool, (bif f then some (Sum.inr (Sum.inr (false, ()))) else
      (w_S_l2Hunks_7 (many, h, h, (h.length : Int), (i : Int), x.2.2.1, (List.length x.2.2.1 : Int), 0, ())).bind fun x14 =>
            match x14 with
            | .inl l7 =>
              some (.inl (l7.1, l7.2.1, l7.2.2.1, l7.2.2.2.1, (IntKind.wrap .i64 (l7.2.2.2.2.1 + 1)), ()))
            | .inr l8 =>
              some (.inr (.inr (l8.1, ()))) : Option ((PV (.int .i64) × PV S_impl_Hunk × PV S_impl_Hunk × PV (.int .i64) × PV (.int .i64) × Unit) ⊕ ((PV (.int .i64) × PV S_impl_Hunk × Unit) ⊕ (PV .bool × Unit)))) =
      some (if (f || List.any x.2.2.1 fun s => !lineP s) then .inr (.inr (false, ())) else .inl (many, h, h, (h.length : Int), (i : Int) + 1, ())) := by
    intro f
    cases f
    · rw [cond_false, Bool.false_or, show w_S_l2Hunks_7 (many, h, h, (h.length : Int), (i : Int), x.2.2.1, (List.length x.2.2.1 : Int), 0, ()) = _ from
        fix_any (B := fun d => b_S_l2Hunks_7 d.1 d.2.1 d.2.2.1 d.2.2.2.1 d.2.2.2.2.1 d.2.2.2.2.2.1 d.2.2.2.2.2.2.1 d.2.2.2.2.2.2.2.1) x.2.2.1 (fun s => !lineP s) (fun k => (many, h, h, (h.length : Int), (i : Int), x.2.2.1, (List.length x.2.2.1 : Int), (k : Int), ())) (fun _ => .inr (false, ())) (.inl (many, h, h, (h.length : Int), (i : Int), ()))
        (fun k hk hq => by
          have hml := hm.len
          show b_S_l2Hunks_7 many h h h.length i x.2.2.1 (List.length x.2.2.1) k = _
          unfold b_S_l2Hunks_7
          rw [decide_eq_true (by omega : (k : Int) < (List.length x.2.2.1 : Int)), cond_true, inB_lt hk, cond_true, toNat_cast, getD_of hk, line_S _ (hm.mem hk), Option.bind_some]
          dsimp only
          rw [hq, cond_false, wrap64 (by omega) (by omega)]; rfl)
        (fun k hk hq => by
          show b_S_l2Hunks_7 many h h h.length i x.2.2.1 (List.length x.2.2.1) k = _
          unfold b_S_l2Hunks_7
          rw [decide_eq_true (by omega : (k : Int) < (List.length x.2.2.1 : Int)), cond_true, inB_lt hk, cond_true, toNat_cast, getD_of hk, line_S _ (hm.mem hk), Option.bind_some]
          dsimp only
          rw [hq, cond_true])
        (by
          show b_S_l2Hunks_7 many h h h.length i x.2.2.1 (List.length x.2.2.1) (List.length x.2.2.1) = _
          unfold b_S_l2Hunks_7
          rw [decide_eq_false (Int.lt_irrefl _), cond_false])]
      cases List.any x.2.2.1 fun s => !lineP s
      · rw [if_neg (by simp), if_neg (by simp), Option.bind_some]
        dsimp only
        rw [wrap64 (by omega) (by omega)]
      · rfl
    · rfl
  have hb : ∀ j : Bool, ((bif decide ((i : Int) > 0) then bif inB (IntKind.wrap .i64 ((i : Int) - 1)) h.length then bif inB (IntKind.wrap .i64 ((i : Int) - 1)) h.length then
        some (many, h, x, h, (h.length : Int), (i : Int), decide (x.1 ≤ IntKind.wrap .i64 ((h.getD (IntKind.wrap .i64 ((i : Int) - 1)).toNat (dflt Y_impl_Hunk)).1 + (h.getD (IntKind.wrap .i64 ((i : Int) - 1)).toNat (dflt Y_impl_Hunk)).2.1)), ()) else none else none
      else some (many, h, x, h, (h.length : Int), (i : Int), false, ())) : Option ((PV (.int .i64) × PV S_impl_Hunk × PV Y_impl_Hunk × PV S_impl_Hunk × PV (.int .i64) × PV (.int .i64) × PV .bool × Unit))) =
      some (many, h, x, h, (h.length : Int), (i : Int), decide ((i : Int) > 0) && decide (x.1 ≤ IntKind.wrap .i64 ((h.getD (i - 1) H0).1 + (h.getD (i - 1) H0).2.1)), ()) := by
    intro _
    cases i with
    | zero => rw [decide_eq_false (by omega : ¬ (((0 : Nat) : Int) > 0))]; rfl
    | succ j =>
      rw [decide_eq_true (by omega : ((j + 1 : Nat) : Int) > 0), cond_true, show IntKind.wrap .i64 (((j + 1 : Nat) : Int) - 1) = (j : Int) from by rw [wrap64 (by omega) (by omega)]; omega, inB_lt (by omega : j < h.length), cond_true, cond_true, toNat_cast, Bool.true_and, Nat.add_sub_cancel]
  rw [hb true]
  unfold badS
  cases decide (x.1 < 0)
  · rw [cond_false]
    cases decide (x.2.1 < 0)
    · rw [cond_false]
      cases decide (x.2.1 > many)
      · rw [cond_false]
        cases decide (x.1 > IntKind.wrap .i64 (many - x.2.1))
        · rw [cond_false]
          cases (IntKind.wrap .i64 (x.2.1 + (List.length x.2.2.1 : Int)) == 0)
          · rw [cond_false]
            cases decide ((List.length x.2.2.1 : Int) > 40)
            · rw [cond_false, Option.bind_some]
              exact hr _
            · rfl
          · rfl
        · rfl
      · rfl
    · rfl
  · rfl

theorem hunks_S (many : Int) (h : List (PV Y_impl_Hunk)) (hs : SmH h) (h0 : 0 ≤ many) (h1 : many ≤ 4611686018427387903) : f_S_l2Hunks many h = some ((hunksP many h, ()), ()) := by
  have hl := hs.len
  unfold f_S_l2Hunks hunksP
  rw [show w_S_l2Hunks_2 (many, h, h, (h.length : Int), 0, ()) = _ from fix_anyN (B := fun d => b_S_l2Hunks_2 d.1 d.2.1 d.2.2.1 d.2.2.2.1 d.2.2.2.2.1) h.length (badK many h) (fun i => (many, h, h, (h.length : Int), (i : Int), ())) (fun _ => .inr (false, ())) (.inl (many, h, ()))
        (fun i hi hq => by show b_S_l2Hunks_2 many h h h.length i = _; rw [stepH_S many h hs h0 h1 hi, hq]; rfl)
        (fun i hi hq => by show b_S_l2Hunks_2 many h h h.length i = _; rw [stepH_S many h hs h0 h1 hi, hq]; rfl)
        (by
          show b_S_l2Hunks_2 many h h h.length h.length = _
          unfold b_S_l2Hunks_2
          rw [decide_eq_false (Int.lt_irrefl _), cond_false])]
  cases anyN h.length (badK many h)
  · rw [if_neg (by simp), Option.bind_some]
    dsimp only
    rw [in_S, Option.bind_some]
    by_cases hn : h.length ≤ 20
    · rw [decide_eq_true (by omega : (h.length : Int) ≤ 20), cond_true, decide_eq_true hn]
      unfold inI
      cases decide (many ≥ 0) && decide (many ≤ 40) <;> rfl
    · rw [decide_eq_false (by omega : ¬ (h.length : Int) ≤ 20), cond_false, decide_eq_false hn]
      simp
  · rw [if_pos rfl]
    simp
end R
end

section
/- Lines behind hunks: both sides make the same. -/
open Go Go.Dn
namespace R
set_option linter.unusedVariables false

def stepP (l : List (List UInt8)) (a : List (List UInt8) × Int) (x : PV Y_impl_Hunk) : List (List UInt8) × Int := ((a.1 ++ cutL a.2 x.1 l) ++ x.2.2.1, x.1 + x.2.1)
def foldP (l : List (List UInt8)) (h : List (PV Y_impl_Hunk)) : List (List UInt8) × Int := h.foldl (stepP l) ([], 0)
def patchL (l : List (List UInt8)) (h : List (PV Y_impl_Hunk)) : List (List UInt8) := (foldP l h).1 ++ cutL (foldP l h).2 (l.length : Int) l

theorem linesP_len {l : List (List UInt8)} (h : linesP l = true) : l.length ≤ 40 := by
  unfold linesP at h
  simp only [Bool.and_eq_true, decide_eq_true_eq] at h
  exact h.1
theorem goodP_len {l : List (List UInt8)} (h : goodP l = true) : l.length ≤ 40 := by
  unfold goodP at h
  simp only [Bool.and_eq_true] at h
  exact linesP_len h.1

/-- What a good hunk tells. -/
theorem hunk_facts {many : Int} {h : List (PV Y_impl_Hunk)} (hh : hunksP many h = true) : 0 ≤ many ∧ many ≤ 40 ∧ h.length ≤ 20 ∧ ∀ i, i < h.length →
    0 ≤ (h.getD i H0).1 ∧ (h.getD i H0).1 ≤ many ∧ 0 ≤ (h.getD i H0).2.1 ∧ (h.getD i H0).1 + (h.getD i H0).2.1 ≤ many ∧ List.length (h.getD i H0).2.2.1 ≤ 40 ∧ linesP (h.getD i H0).2.2.1 = true ∧
      (0 < i → (h.getD (i - 1) H0).1 + (h.getD (i - 1) H0).2.1 < (h.getD i H0).1) := by
  unfold hunksP inI at hh
  simp only [Bool.and_eq_true, decide_eq_true_eq, Bool.not_eq_true'] at hh
  obtain ⟨⟨h0, h1⟩, h2, h3⟩ := hh
  have hq : ∀ i, i < h.length → badK many h i = false := fun i hi => by
    cases hb : badK many h i with
    | false => rfl
    | true => rw [anyN_iff.2 ⟨i, hi, hb⟩] at h3; cases h3
  have h4 : ∀ i, i < h.length → (0 : Int) ≤ (h.getD i H0).1 ∧ ((h.getD i H0).1 : Int) ≤ many ∧ (0 : Int) ≤ (h.getD i H0).2.1 ∧ ((h.getD i H0).1 : Int) + (h.getD i H0).2.1 ≤ many ∧ linesP (h.getD i H0).2.2.1 = true := by
    intro i hi
    have hb := hq i hi
    unfold badK badH inI at hb
    generalize h.getD i H0 = x at *
    obtain ⟨A, G, N, u⟩ := x
    have e : ∀ (A G : Int), (decide (A ≥ 0) && decide (A ≤ many)) = true → (decide (G ≥ 0) && decide (G ≤ IntKind.wrap .i64 (many - A))) = true → 0 ≤ A ∧ A ≤ many ∧ 0 ≤ G ∧ A + G ≤ many := by
      intro A G p q
      simp only [Bool.and_eq_true, decide_eq_true_eq] at p q
      rw [wrap64 (by omega) (by omega)] at q
      omega
    dsimp only at hb ⊢
    simp only [Bool.or_eq_false_iff, Bool.not_eq_false'] at hb
    obtain ⟨⟨b1, b2, b3, _⟩, _⟩ := hb
    obtain ⟨c1, c2, c3, c4⟩ := e A G b1 b2
    exact ⟨c1, c2, c3, c4, b3⟩
  refine ⟨h0, h1, h2, fun i hi => ?_⟩
  obtain ⟨a1, a2, a3, a4, a5⟩ := h4 i hi
  refine ⟨a1, a2, a3, a4, linesP_len a5, a5, fun hpos => ?_⟩
  have hb := hq i hi
  unfold badK badP at hb
  simp only [Bool.or_eq_false_iff] at hb
  have hb := hb.2
  rw [decide_eq_true (by omega : (i : Int) > 0), Bool.true_and, decide_eq_false_iff_not] at hb
  obtain ⟨b1, b2, b3, b4, _⟩ := h4 (i - 1) (by omega)
  have e : ∀ (A P G : Int), 0 ≤ P → 0 ≤ G → P + G ≤ many → many ≤ 40 → ¬ A ≤ IntKind.wrap .i64 (P + G) → P + G < A := by
    intro A P G p1 p2 p3 p4 q
    rw [wrap64 (by omega) (by omega)] at q
    omega
  exact e _ _ _ b1 b3 b4 h1 hb

theorem cut_len {l : List (List UInt8)} {a b : Int} : (cutL a b l).length ≤ l.length := by
  unfold cutL
  simp
  omega
theorem cut_mem {l : List (List UInt8)} {a b : Int} {s : List UInt8} (h : s ∈ cutL a b l) : s ∈ l := List.mem_of_mem_take (List.mem_of_mem_drop h)

def InvP (l : List (List UInt8)) (h : List (PV Y_impl_Hunk)) (i : Nat) (a : List (List UInt8) × Int) : Prop :=
  a.1.length ≤ 80 * i ∧ 0 ≤ a.2 ∧ a.2 ≤ (l.length : Int) ∧ (i = 0 → a.2 = 0) ∧ (0 < i → a.2 = (h.getD (i - 1) H0).1 + (h.getD (i - 1) H0).2.1) ∧ ∀ s ∈ a.1, s.length ≤ 4611686018427387904

theorem inv_next {l : List (List UInt8)} {h : List (PV Y_impl_Hunk)} (hl : Sm l) (hh : SmH h) (hg : hunksP (l.length : Int) h = true) {i : Nat} (hi : i < h.length) {a : List (List UInt8) × Int} (hI : InvP l h i a) :
    InvP l h (i + 1) (stepP l a h[i]) ∧ 0 ≤ a.2 ∧ a.2 ≤ (h[i].1 : Int) ∧ (h[i].1 : Int) ≤ l.length ∧ 0 ≤ (h[i].2.1 : Int) ∧ (h[i].1 : Int) + h[i].2.1 ≤ l.length ∧ List.length h[i].2.2.1 ≤ 40 ∧ a.1.length ≤ 1600 ∧ l.length ≤ 40 := by
  obtain ⟨f1, f2, f3, f4⟩ := hunk_facts hg
  have f5 := f4 i hi
  rw [getD_of hi] at f5
  obtain ⟨g1, g2, g3, g4, g5, g6, g7⟩ := f5
  obtain ⟨i1, i2, i3, i4, i5, i6⟩ := hI
  have hat : ∀ A : Int, A = h[i].1 → a.2 ≤ A := by
    intro A hA
    rcases Nat.eq_zero_or_pos i with h0 | hp
    · rw [i4 h0, hA]; exact g1
    · rw [i5 hp, hA]; exact Int.le_of_lt (g7 hp)
  have hat := hat _ rfl
  have hc : (cutL a.2 h[i].1 l).length ≤ 40 := Nat.le_trans cut_len (by omega)
  refine ⟨⟨?_, ?_, ?_, fun h => by omega, fun _ => ?_, ?_⟩, i2, hat, g2, g3, g4, g5, by omega, by omega⟩
  · show ((a.1 ++ cutL a.2 h[i].1 l) ++ h[i].2.2.1).length ≤ 80 * (i + 1)
    rw [List.length_append, List.length_append]
    omega
  · exact Int.add_nonneg g1 g3
  · exact g4
  · rw [Nat.add_sub_cancel, getD_of hi]; rfl
  · intro s hs
    rcases List.mem_append.1 hs with hs | hs
    · rcases List.mem_append.1 hs with hs | hs
      · exact i6 s hs
      · exact hl.2 s (cut_mem hs)
    · exact (hh.2 _ (List.getElem_mem hi)).2 s hs

theorem cutB_ok {a b : Int} {n : Nat} (h0 : 0 ≤ a) (h1 : a ≤ b) (h2 : b ≤ (n : Int)) : cutB a b n = true := by
  unfold cutB
  rw [decide_eq_true h0, decide_eq_true h1, decide_eq_true h2]
  rfl

theorem patch_loop_I {l : List (List UInt8)} {h : List (PV Y_impl_Hunk)} (hl : Sm l) (hh : SmH h) (hg : hunksP (l.length : Int) h = true) :
    w_I_patched_3 (l, ([] : List (List UInt8)), 0, h, (h.length : Int), 0, ()) = some (l, (foldP l h).1, (foldP l h).2, ()) ∧ InvP l h h.length (foldP l h) := by
  have := fix_fold (B := fun d => b_I_patched_3 d.1 d.2.1 d.2.2.1 d.2.2.2.1 d.2.2.2.2.1 d.2.2.2.2.2.1) h (stepP l) (fun a i => (l, a.1, a.2, h, (h.length : Int), (i : Int), ())) (fun a => (l, a.1, a.2, ())) (InvP l h)
    (fun i hi a hI => by
      obtain ⟨q0, q1, q2, q3, q4, q5, q6, q7, q8⟩ := inv_next hl hh hg hi hI
      refine ⟨q0, ?_⟩
      show b_I_patched_3 l a.1 a.2 h h.length i = _
      have hlen := hh.len
      unfold b_I_patched_3
      rw [decide_eq_true (by omega : (i : Int) < (h.length : Int)), cond_true, inB_lt hi, cond_true, toNat_cast, getD_of hi]
      have hc : (cutL a.2 h[i].1 l).length ≤ 40 := Nat.le_trans cut_len q8
      rw [cutB_ok q1 q2 q3, cond_true, roomB_ok (by omega), cond_true, roomB_ok (by rw [List.length_append]; omega), cond_true]
      have e : ∀ A G : Int, 0 ≤ A → 0 ≤ G → A + G ≤ (l.length : Int) → IntKind.wrap .i64 (A + G) = A + G := fun A G p1 p2 p3 => wrap64 (by omega) (by omega)
      rw [e _ _ (Int.le_trans q1 q2) q4 q5, wrap64 (by omega) (by omega)]
      simp [stepP])
    (fun a _ => by
      show b_I_patched_3 l a.1 a.2 h h.length h.length = _
      unfold b_I_patched_3
      rw [decide_eq_false (Int.lt_irrefl _), cond_false]) ([], 0) ⟨by simp, Int.le_refl _, by simp, fun _ => rfl, fun h => by omega, fun s hs => by cases hs⟩
  exact this

theorem patch_loop_S {l : List (List UInt8)} {h : List (PV Y_impl_Hunk)} (hl : Sm l) (hh : SmH h) (hg : hunksP (l.length : Int) h = true) :
    w_S_l2Patch_4 (l, ([] : List (List UInt8)), 0, h, (h.length : Int), 0, ()) = some (l, (foldP l h).1, (foldP l h).2, ()) := by
  have := fix_fold (B := fun d => b_S_l2Patch_4 d.1 d.2.1 d.2.2.1 d.2.2.2.1 d.2.2.2.2.1 d.2.2.2.2.2.1) h (stepP l) (fun a i => (l, a.1, a.2, h, (h.length : Int), (i : Int), ())) (fun a => (l, a.1, a.2, ())) (InvP l h)
    (fun i hi a hI => by
      obtain ⟨q0, q1, q2, q3, q4, q5, q6, q7, q8⟩ := inv_next hl hh hg hi hI
      refine ⟨q0, ?_⟩
      show b_S_l2Patch_4 l a.1 a.2 h h.length i = _
      have hlen := hh.len
      unfold b_S_l2Patch_4
      rw [decide_eq_true (by omega : (i : Int) < (h.length : Int)), cond_true, inB_lt hi, cond_true, toNat_cast, getD_of hi]
      have hc : (cutL a.2 h[i].1 l).length ≤ 40 := Nat.le_trans cut_len q8
      rw [cutB_ok q1 q2 q3, cond_true, roomB_ok (by omega), cond_true, roomB_ok (by rw [List.length_append]; omega), cond_true]
      have e : ∀ A G : Int, 0 ≤ A → 0 ≤ G → A + G ≤ (l.length : Int) → IntKind.wrap .i64 (A + G) = A + G := fun A G p1 p2 p3 => wrap64 (by omega) (by omega)
      rw [e _ _ (Int.le_trans q1 q2) q4 q5, wrap64 (by omega) (by omega)]
      simp [stepP])
    (fun a _ => by
      show b_S_l2Patch_4 l a.1 a.2 h h.length h.length = _
      unfold b_S_l2Patch_4
      rw [decide_eq_false (Int.lt_irrefl _), cond_false]) ([], 0) ⟨by simp, Int.le_refl _, by simp, fun _ => rfl, fun h => by omega, fun s hs => by cases hs⟩
  exact this.1

theorem patched_I {l : List (List UInt8)} {h : List (PV Y_impl_Hunk)} (hl : Sm l) (hh : SmH h) (hg : hunksP (l.length : Int) h = true) :
    f_I_patched l h = some ((patchL l h, ()), ()) ∧ Sm (patchL l h) ∧ (patchL l h).length ≤ 1640 := by
  obtain ⟨h1, h2⟩ := patch_loop_I hl hh hg
  obtain ⟨f1, f2, f3, _⟩ := hunk_facts hg
  obtain ⟨i1, i2, i3, _, _, i6⟩ := h2
  have hc : (cutL (foldP l h).2 (l.length : Int) l).length ≤ 40 := Nat.le_trans cut_len (by omega)
  refine ⟨?_, ⟨?_, fun s hs => ?_⟩, ?_⟩
  · unfold f_I_patched
    rw [h1, Option.bind_some]
    dsimp only
    rw [cutB_ok i2 i3 (Int.le_refl _), cond_true, roomB_ok (by omega), cond_true]
    rfl
  · unfold patchL; rw [List.length_append]; omega
  · rcases List.mem_append.1 hs with hs | hs
    · exact i6 s hs
    · exact hl.2 s (cut_mem hs)
  · unfold patchL; rw [List.length_append]; omega

theorem patched_S {l : List (List UInt8)} {h : List (PV Y_impl_Hunk)} (hl : Sm l) (hh : SmH h) (hg : hunksP (l.length : Int) h = true) : f_S_l2Patch l h = some ((patchL l h, ()), ()) := by
  obtain ⟨_, h2⟩ := patch_loop_I hl hh hg
  obtain ⟨f1, f2, f3, _⟩ := hunk_facts hg
  obtain ⟨i1, i2, i3, _, _, i6⟩ := h2
  have hc : (cutL (foldP l h).2 (l.length : Int) l).length ≤ 40 := Nat.le_trans cut_len (by omega)
  unfold f_S_l2Patch
  rw [show w_S_l2Patch_4 (l, [], 0, h, (h.length : Int), 0, ()) = _ from patch_loop_S hl hh hg, Option.bind_some]
  dsimp only
  rw [cutB_ok i2 i3 (Int.le_refl _), cond_true, roomB_ok (by omega), cond_true]
  rfl

/-- What comes of hunks: the lines, if all is good. -/
def patchOk (l : List (List UInt8)) (h : List (PV Y_impl_Hunk)) : Bool := goodP l && (hunksP (l.length : Int) h && goodP (patchL l h))
def patchR (l : List (List UInt8)) (h : List (PV Y_impl_Hunk)) : List (List UInt8) := bif patchOk l h then patchL l h else []

theorem patch_I {l : List (List UInt8)} {h : List (PV Y_impl_Hunk)} (hl : Sm l) (hh : SmH h) : f_I_Patch l h = some ((patchR l h, patchOk l h, ()), ()) := by
  unfold f_I_Patch patchR patchOk
  rw [goodLines_I l hl, Option.bind_some, hunks_I _ h hh]
  dsimp only
  cases goodP l
  · rfl
  · cases hg : hunksP (l.length : Int) h
    · rfl
    · obtain ⟨p1, p2, _⟩ := patched_I hl hh hg
      simp only [Bool.not_true, cond_false, Option.bind_some, p1, goodLines_I _ p2]
      cases goodP (patchL l h) <;> rfl

theorem patch_S {l : List (List UInt8)} {h : List (PV Y_impl_Hunk)} (hl : Sm l) (hh : SmH h) : f_S_Patch l h = some ((patchR l h, patchOk l h, ()), ()) := by
  have hlen := hl.len
  unfold f_S_Patch f_S_l2Asked patchR patchOk
  rw [l1Good_S l hl, Option.bind_some]
  dsimp only
  cases hgl : goodP l
  · rfl
  · have := goodP_len hgl
    rw [cond_true, hunks_S _ h hh (by omega) (by omega), Option.bind_some, Option.bind_some]
    dsimp only
    cases hg : hunksP (l.length : Int) h
    · rfl
    · obtain ⟨_, p2, _⟩ := patched_I hl hh hg
      rw [patched_S hl hh hg, Option.bind_some, l1Good_S _ p2, Option.bind_some]
      simp only [Bool.not_true, cond_false]
      cases goodP (patchL l h) <;> rfl
end R
end

section
/- Series: both sides test them alike. -/
open Go Go.Dn
namespace R
set_option linter.unusedVariables false

abbrev TX := List (List UInt8)
abbrev HK := List (PV Y_impl_Hunk)

/-- The texts behind each step, the first one too. -/
def scanP : TX → List HK → Option (List TX)
  | l, [] => some [l]
  | l, h :: hs => if patchOk l h then (scanP (patchR l h) hs).map (l :: ·) else none
def seriesP (s : TX × List HK) : Bool := goodP s.1 && (decide (s.2.length < 8) && (scanP s.1 s.2).isSome)

theorem patchR_sm {l : TX} {h : HK} (hl : Sm l) (hh : SmH h) : Sm (patchR l h) := by
  unfold patchR patchOk
  cases goodP l
  · exact ⟨by simp, fun s hs => by cases hs⟩
  · cases hg : hunksP (l.length : Int) h
    · exact ⟨by simp, fun s hs => by cases hs⟩
    · cases goodP (patchL l h)
      · exact ⟨by simp, fun s hs => by cases hs⟩
      · exact (patched_I hl hh hg).2.1

def gI (out : List TX) (h : HK) : List TX ⊕ Unit := if patchOk (out.getD (out.length - 1) []) h then .inl (out ++ [patchR (out.getD (out.length - 1) []) h]) else .inr ()
def gS (l : TX) (h : HK) : TX ⊕ Unit := if patchOk l h then .inl (patchR l h) else .inr ()

theorem run_gI : ∀ (hs : List HK) (pre : List TX) (l : TX), run gI (pre ++ [l]) hs = match scanP l hs with | some ts => .inl (pre ++ ts) | none => .inr ()
  | [], pre, l => rfl
  | h :: hs, pre, l => by
    have e : (pre ++ [l]).getD ((pre ++ [l]).length - 1) [] = l := by simp [List.getD]
    simp only [run, scanP]
    unfold gI
    rw [e]
    cases patchOk l h
    · rfl
    · simp only [if_true]
      have := run_gI hs (pre ++ [l]) (patchR l h)
      unfold gI at this
      rw [this]
      cases scanP (patchR l h) hs <;> simp

theorem run_gS : ∀ (hs : List HK) (l : TX), (match run gS l hs with | .inl _ => true | .inr _ => false) = (scanP l hs).isSome
  | [], l => rfl
  | h :: hs, l => by
    simp only [run, scanP]
    unfold gS
    cases patchOk l h
    · rfl
    · simp only [if_true]
      have := run_gS hs (patchR l h)
      unfold gS at this
      rw [this]
      cases scanP (patchR l h) hs <;> simp

theorem scan_len : ∀ {hs : List HK} {l : TX} {ts : List TX}, scanP l hs = some ts → ts.length = hs.length + 1
  | [], l, ts, h => by obtain rfl := Option.some.inj h; rfl
  | x :: hs, l, ts, h => by
    simp only [scanP] at h
    split at h
    · rw [Option.map_eq_some_iff] at h
      obtain ⟨us, h1, rfl⟩ := h
      simp [scan_len h1]
    · cases h

/-- A series whose parts are small. -/
def SmSt (hs : List HK) : Prop := hs.length ≤ 4611686018427387904 ∧ ∀ h ∈ hs, SmH h
def SmSer (s : TX × List HK × Unit) : Prop := Sm s.1 ∧ SmSt s.2.1

theorem SmSer.of {s : PV Y_impl_Series} {n : Nat} (h : tot Y_impl_Series s ≤ n) (hn : n ≤ 4611686018427387904) : SmSer s := by
  have h' := h
  rw [show tot Y_impl_Series s = tot S_string s.1 + (tot S_S_impl_Hunk s.2.1 + 0) from rfl] at h'
  have e : tot S_S_impl_Hunk s.2.1 = List.length s.2.1 + (List.map (tot S_impl_Hunk) s.2.1).sum := tot_slice
  refine ⟨Sm.of (n := n) (by show tot S_string s.1 ≤ n; omega) hn, by show List.length s.2.1 ≤ _; omega, fun x hx => ?_⟩
  obtain ⟨i, hi, rfl⟩ := List.mem_iff_getElem.1 hx
  have := le_sum (l := List.map (tot S_impl_Hunk) s.2.1) (i := i) (by simpa using hi)
  rw [List.getElem_map] at this
  exact SmH.of (n := n) (by show tot S_impl_Hunk _ ≤ n; omega) hn

theorem texts_loop {f : TX} {hs : List HK} (hf : Sm f) (hh : SmSt hs) (hn : hs.length < 8) :
    w_I_Series_texts_5 ([f], hs, (hs.length : Int), 0, ()) = some (match scanP f hs with | some ts => .inl (ts, ()) | none => .inr ([], false, ())) := by
  have := (fix_run (B := fun d => b_I_Series_texts_5 d.1 d.2.1 d.2.2.1 d.2.2.2.1) hs gI (fun a i => (a, hs, (hs.length : Int), (i : Int), ())) (fun a => .inl (a, ())) (fun _ => .inr ([], false, ())) (fun i a => a.length = i + 1 ∧ ∀ t ∈ a, Sm t)
    (fun i hi a b hI hg => by
      have hsm : Sm (a.getD i []) := by rw [getD_of (by omega)]; exact hI.2 _ (List.getElem_mem _)
      have hhs := hh.2 _ (List.getElem_mem hi)
      unfold gI at hg
      rw [hI.1, Nat.add_sub_cancel] at hg
      split at hg
      · rename_i hp
        simp only [Sum.inl.injEq] at hg
        subst hg
        refine ⟨⟨by simp [hI.1], fun t ht => ?_⟩, ?_⟩
        · rcases List.mem_append.1 ht with ht | ht
          · exact hI.2 t ht
          · rw [List.mem_singleton.1 ht]; exact patchR_sm hsm hhs
        · show b_I_Series_texts_5 a hs hs.length i = _
          unfold b_I_Series_texts_5
          rw [decide_eq_true (by omega : (i : Int) < (hs.length : Int)), cond_true, inB_lt hi, cond_true, inB_lt (by omega), cond_true, toNat_cast, getD_of hi, patch_I hsm hhs, Option.bind_some]
          dsimp only
          rw [hp, Bool.not_true, cond_false, roomB_ok (by simp; omega), cond_true, wrap64 (by omega) (by omega)]
          simp
      · cases hg)
    (fun i hi a r hI hg => by
      have hsm : Sm (a.getD i []) := by rw [getD_of (by omega)]; exact hI.2 _ (List.getElem_mem _)
      have hhs := hh.2 _ (List.getElem_mem hi)
      unfold gI at hg
      rw [hI.1, Nat.add_sub_cancel] at hg
      split at hg
      · cases hg
      · rename_i hp
        show b_I_Series_texts_5 a hs hs.length i = _
        unfold b_I_Series_texts_5
        rw [decide_eq_true (by omega : (i : Int) < (hs.length : Int)), cond_true, inB_lt hi, cond_true, inB_lt (by omega), cond_true, toNat_cast, getD_of hi, patch_I hsm hhs, Option.bind_some]
        dsimp only
        rw [Bool.not_eq_true _ |>.mp hp]
        rfl)
    (fun a _ => by
      show b_I_Series_texts_5 a hs hs.length hs.length = _
      unfold b_I_Series_texts_5
      rw [decide_eq_false (Int.lt_irrefl _), cond_false]) [f] ⟨rfl, fun t ht => by rw [List.mem_singleton.1 ht]; exact hf⟩).1
  have e := run_gI hs [] f
  rw [List.nil_append] at e
  rw [e] at this
  refine Eq.trans (show w_I_Series_texts_5 ([f], hs, (hs.length : Int), 0, ()) = _ from this) ?_
  cases scanP f hs <;> rfl

theorem clone_str (l : TX) (h : l.length ≤ 1099511627776) : f_slices_Clone_string l = some ((l, ()), ()) := by
  unfold f_slices_Clone_string
  rw [roomB_ok (by simpa using h)]
  rfl

/-- The texts, and whether the series is good. -/
def textsR (s : TX × List HK) : List TX := bif seriesP s then (scanP s.1 s.2).getD [] else []

theorem texts_I {s : PV Y_impl_Series} (hs : SmSer s) : f_I_Series_texts s = some ((textsR (s.1, s.2.1), seriesP (s.1, s.2.1), ()), ()) := by
  obtain ⟨hf, hh⟩ := hs
  have hlen := hh.1
  unfold f_I_Series_texts textsR seriesP
  rw [goodLines_I s.1 hf, Option.bind_some]
  dsimp only
  cases hg : goodP s.1
  · rfl
  · have := goodP_len hg
    rw [Bool.not_true, cond_false, Option.bind_some]
    dsimp only
    by_cases hn : List.length s.2.1 < 8
    · rw [decide_eq_false (by omega : ¬ ((List.length s.2.1 : Int) ≥ 8)), cond_false, clone_str s.1 (by omega), Option.bind_some]
      dsimp only
      rw [show w_I_Series_texts_5 ([s.1], s.2.1, (List.length s.2.1 : Int), 0, ()) = _ from texts_loop hf hh hn, decide_eq_true hn]
      cases scanP s.1 s.2.1 <;> rfl
    · rw [decide_eq_true (by omega : (List.length s.2.1 : Int) ≥ 8), cond_true, decide_eq_false hn]
      rfl

theorem goodSeries_S {s : PV Y_impl_Series} (hs : SmSer s) : f_S_l13Good s = some ((seriesP (s.1, s.2.1), ()), ()) := by
  obtain ⟨hf, hh⟩ := hs
  have hlen := hh.1
  have := (fix_run (B := fun d => b_S_l13Good_3 d.1 d.2.1 d.2.2.1 d.2.2.2.1 d.2.2.2.2.1) s.2.1 gS (fun a i => (s, a, s.2.1, (List.length s.2.1 : Int), (i : Int), ())) (fun a => .inl (s, ())) (fun _ => .inr (false, ())) (fun i a => Sm a)
    (fun i hi a b hI hg => by
      have hhs := hh.2 _ (List.getElem_mem hi)
      unfold gS at hg
      split at hg
      · rename_i hp
        simp only [Sum.inl.injEq] at hg
        subst hg
        refine ⟨patchR_sm hI hhs, ?_⟩
        show b_S_l13Good_3 s a s.2.1 (List.length s.2.1) i = _
        unfold b_S_l13Good_3
        rw [decide_eq_true (by omega : (i : Int) < (List.length s.2.1 : Int)), cond_true, inB_lt hi, cond_true, toNat_cast, getD_of hi, patch_S hI hhs, Option.bind_some]
        dsimp only
        rw [hp, Bool.not_true, cond_false, wrap64 (by omega) (by omega)]
        simp
      · cases hg)
    (fun i hi a r hI hg => by
      have hhs := hh.2 _ (List.getElem_mem hi)
      unfold gS at hg
      split at hg
      · cases hg
      · rename_i hp
        show b_S_l13Good_3 s a s.2.1 (List.length s.2.1) i = _
        unfold b_S_l13Good_3
        rw [decide_eq_true (by omega : (i : Int) < (List.length s.2.1 : Int)), cond_true, inB_lt hi, cond_true, toNat_cast, getD_of hi, patch_S hI hhs, Option.bind_some]
        dsimp only
        rw [Bool.not_eq_true _ |>.mp hp]
        rfl)
    (fun a _ => by
      show b_S_l13Good_3 s a s.2.1 (List.length s.2.1) (List.length s.2.1) = _
      unfold b_S_l13Good_3
      rw [decide_eq_false (Int.lt_irrefl _), cond_false]) s.1 hf).1
  unfold f_S_l13Good seriesP
  rw [show w_S_l13Good_3 (s, s.1, s.2.1, (List.length s.2.1 : Int), 0, ()) = _ from this, ← run_gS]
  cases run gS s.1 s.2.1
  · rw [Option.bind_some]
    dsimp only
    rw [l1Good_S s.1 hf, Option.bind_some]
    dsimp only
    cases goodP s.1
    · rfl
    · rw [cond_true]
      simp
      omega
  · simp

end R
end

section
/- The text at a place of a series: both sides tell the same. -/
open Go Go.Dn
namespace R
set_option linter.unusedVariables false

theorem patchR_of {l : TX} {h : HK} (hp : patchOk l h = true) : patchR l h = patchL l h ∧ goodP l = true ∧ hunksP (l.length : Int) h = true ∧ goodP (patchL l h) = true := by
  unfold patchR
  rw [hp]
  unfold patchOk at hp
  simp only [Bool.and_eq_true] at hp
  exact ⟨rfl, hp.1, hp.2.1, hp.2.2⟩

/-- The text behind so many steps. -/
theorem scan_at : ∀ {hs : List HK} {l : TX} {ts : List TX}, scanP l hs = some ts → ∀ n, n ≤ hs.length → ∃ t, ts[n]? = some t ∧ (goodP l = true → goodP t = true)
  | [], l, ts, h, n, hn => by
    obtain rfl := Option.some.inj h
    have : n = 0 := by simpa using hn
    subst this
    exact ⟨l, rfl, fun h => h⟩
  | x :: hs, l, ts, h, n, hn => by
    simp only [scanP] at h
    split at h
    · rename_i hp
      rw [Option.map_eq_some_iff] at h
      obtain ⟨us, h1, rfl⟩ := h
      cases n with
      | zero => exact ⟨l, rfl, fun h => h⟩
      | succ n =>
        obtain ⟨t, h2, h3⟩ := scan_at h1 n (by simpa using hn)
        obtain ⟨e, _, _, g⟩ := patchR_of hp
        exact ⟨t, by simpa using h2, fun _ => h3 (by rw [e]; exact g)⟩
    · cases h

theorem at_loop {all : List HK} (hlen : all.length ≤ 4611686018427387904) : ∀ (rest : List HK) (i : Nat) (l : TX) (ts : List TX), all.drop i = rest → scanP l rest = some ts → Sm l → (∀ h ∈ rest, SmH h) →
    ∃ t, w_S_l13At_3 (l, all, (all.length : Int), (i : Int), ()) = some (t, ()) ∧ ts[rest.length]? = some t
  | [], i, l, ts, hd, h, hl, hh => by
    obtain rfl := Option.some.inj h
    have hi : all.length ≤ i := by
      have := congrArg List.length hd
      simp at this
      omega
    refine ⟨l, ?_, rfl⟩
    refine fix_end (B := fun d => b_S_l13At_3 d.1 d.2.1 d.2.2.1 d.2.2.2.1) ?_
    show b_S_l13At_3 l all all.length i = _
    unfold b_S_l13At_3
    rw [decide_eq_false (by omega : ¬ ((i : Int) < (all.length : Int))), cond_false]
  | x :: rest, i, l, ts, hd, h, hl, hh => by
    have hi : i < all.length := by
      have := congrArg List.length hd
      simp at this
      omega
    have hx : all[i] = x := by
      have := congrArg (fun l => l[0]?) hd
      simpa [hi] using this
    simp only [scanP] at h
    split at h
    · rename_i hp
      rw [Option.map_eq_some_iff] at h
      obtain ⟨us, h1, rfl⟩ := h
      obtain ⟨e, g1, g2, g3⟩ := patchR_of hp
      have hxs := hh x (List.mem_cons_self ..)
      obtain ⟨t, h2, h3⟩ := at_loop hlen rest (i + 1) (patchR l x) us (by rw [← List.tail_drop, hd]; rfl) h1 (patchR_sm hl hxs) (fun y hy => hh y (List.mem_cons_of_mem _ hy))
      refine ⟨t, ?_, by simpa using h3⟩
      refine Eq.trans (fix_go (B := fun d => b_S_l13At_3 d.1 d.2.1 d.2.2.1 d.2.2.2.1) (t := (patchR l x, all, (all.length : Int), ((i + 1 : Nat) : Int), ())) ?_) h2
      show b_S_l13At_3 l all all.length i = _
      unfold b_S_l13At_3
      rw [decide_eq_true (by omega : (i : Int) < (all.length : Int)), cond_true, inB_lt hi, cond_true, toNat_cast, getD_of hi, hx, patched_S hl hxs g2, Option.bind_some, e, wrap64 (by omega) (by omega)]
      simp
    · cases h

theorem scan_take : ∀ {hs : List HK} {l : TX} {ts : List TX}, scanP l hs = some ts → ∀ n, n ≤ hs.length → scanP l (hs.take n) = some (ts.take (n + 1))
  | [], l, ts, h, n, hn => by
    obtain rfl := Option.some.inj h
    simp [scanP]
  | x :: hs, l, ts, h, n, hn => by
    cases n with
    | zero =>
      simp only [scanP] at h
      split at h
      · rw [Option.map_eq_some_iff] at h
        obtain ⟨us, h1, rfl⟩ := h
        simp [scanP]
      · cases h
    | succ n =>
      simp only [scanP] at h
      split at h
      · rename_i hp
        rw [Option.map_eq_some_iff] at h
        obtain ⟨us, h1, rfl⟩ := h
        simp only [List.take_succ_cons, scanP]
        rw [if_pos hp, scan_take h1 n (by simpa using hn)]
        rfl
      · cases h

def textOk (s : TX × List HK) (n : Int) : Bool := seriesP s && inI n 0 (s.2.length : Int)
def textR (s : TX × List HK) (n : Int) : TX := bif textOk s n then (textsR s).getD n.toNat [] else []

theorem series_facts {s : TX × List HK} (h : seriesP s = true) : goodP s.1 = true ∧ s.2.length < 8 ∧ ∃ ts, scanP s.1 s.2 = some ts ∧ textsR s = ts ∧ ts.length = s.2.length + 1 := by
  have h' := h
  unfold seriesP at h
  simp only [Bool.and_eq_true, decide_eq_true_eq] at h
  obtain ⟨h1, h2, h3⟩ := h
  obtain ⟨ts, hts⟩ := Option.isSome_iff_exists.1 h3
  refine ⟨h1, h2, ts, hts, ?_, scan_len hts⟩
  unfold textsR
  rw [h', hts]
  rfl

theorem own_S (l : List (List UInt8)) (h : l.length ≤ 1099511627776) : f_S_l1OwnT l = some ((l, ()), ()) := by
  unfold f_S_l1OwnT
  rw [roomB_ok (by simpa using h)]
  rfl

theorem goodP_tot {l : TX} (h : goodP l = true) : tot S_string l ≤ 1240 := by
  have hl := goodP_len h
  unfold goodP linesP at h
  simp only [Bool.and_eq_true, decide_eq_true_eq, Bool.not_eq_true'] at h
  have h2 : ∀ s ∈ l, tot .str s ≤ 30 := fun s hs => by
    rw [tot_str]
    have := List.any_eq_false.1 h.1.2 s hs
    exact (line_len (by simpa using this)).2
  rw [show tot S_string l = l.length + (l.map (tot .str)).sum from tot_slice]
  have h3 : ∀ (l : TX), (∀ s ∈ l, tot .str s ≤ 30) → (l.map (tot .str)).sum ≤ 30 * l.length := by
    intro l
    induction l with
    | nil => intro _; simp
    | cons s l ih =>
      intro h
      have h4 := h s (List.mem_cons_self ..)
      have h5 := ih fun y hy => h y (List.mem_cons_of_mem _ hy)
      simp only [List.map_cons, List.sum_cons, List.length_cons]
      rw [Nat.mul_add]
      omega
  have := h3 l h2
  omega

theorem textR_tot (s : TX × List HK) (n : Int) : tot S_string (textR s n) ≤ 1240 := by
  unfold textR textOk
  cases h : seriesP s
  · exact Nat.zero_le _
  · obtain ⟨hg, h2, ts, hts, e, hl⟩ := series_facts h
    unfold inI
    by_cases hn : 0 ≤ n ∧ n ≤ (s.2.length : Int)
    · rw [decide_eq_true (by omega : n ≥ 0), decide_eq_true (by omega : n ≤ (s.2.length : Int)), e]
      obtain ⟨t, h3, h4⟩ := scan_at hts n.toNat (by omega)
      simp only [Bool.and_true, cond_true]
      rw [List.getD_eq_getElem?_getD, h3]
      exact goodP_tot (h4 hg)
    · have : (decide (n ≥ 0) && decide (n ≤ (s.2.length : Int))) = false := by
        simp only [Bool.and_eq_false_iff, decide_eq_false_iff_not]
        omega
      rw [this]
      exact Nat.zero_le _

end R
end

section
/- Lines kept by hunks, and where they stand then. -/
open Go Go.Dn
namespace R
set_option linter.unusedVariables false

/-- Places, how many go, how many come. -/
abbrev HKS := List (Int × Int × Nat)

/-- Hunks in turn, from a place on. -/
def GH (many : Int) : Int → HKS → Prop
  | at', [] => at' ≤ many
  | at', x :: hs => at' ≤ x.1 ∧ (0 : Int) ≤ x.2.1 ∧ x.1 + x.2.1 ≤ many ∧ GH many (x.1 + x.2.1) hs

def segI (a b : Int) : List Int := (List.range (b - a).toNat).map (fun (j : Nat) => a + (j : Int))
def keptL (many : Int) : Int → HKS → List Int
  | at', [] => segI at' many
  | at', x :: hs => segI at' x.1 ++ (List.replicate (x.2.2) (-1) ++ keptL many (x.1 + x.2.1) hs)
def plO (k : Int) : HKS → Int → Option Int
  | [], m => some (k + m)
  | x :: hs, m => if x.1 + x.2.1 ≤ k then plO k hs (m + ((x.2.2 : Int) - x.2.1)) else if x.1 ≤ k then none else plO k hs m

theorem seg_len (a b : Int) : (segI a b).length = (b - a).toNat := by simp [segI]
theorem seg_get {a b k : Int} {p : Nat} : (segI a b)[p]? = some k ↔ k = a + (p : Int) ∧ (p : Int) < b - a := by
  unfold segI
  rw [List.getElem?_map]
  by_cases h : p < (b - a).toNat
  · rw [List.getElem?_range h]
    simp only [Option.map_some, Option.some.injEq]
    constructor
    · intro e; exact ⟨e.symm, by omega⟩
    · intro e; exact e.1.symm
  · rw [List.getElem?_eq_none (by simpa using h)]
    simp only [Option.map_none]
    constructor
    · intro e; cases e
    · intro e; omega
theorem seg_mem {a b e : Int} (h : e ∈ segI a b) : a ≤ e ∧ e < b := by
  obtain ⟨p, hp⟩ := List.mem_iff_getElem?.1 h
  have := seg_get.1 hp
  omega

theorem plO_add (k d : Int) : ∀ (hs : HKS) (m : Int), plO k hs (m + d) = (plO k hs m).map (· + d)
  | [], m => by simp only [plO, Option.map_some, Option.some.injEq]; omega
  | x :: hs, m => by
    simp only [plO]
    split
    · rw [← plO_add k d hs]; congr 1; omega
    · split
      · rfl
      · exact plO_add k d hs m

theorem plO_low {many k : Int} : ∀ {hs : HKS} {at' m : Int}, GH many at' hs → k < at' → plO k hs m = some (k + m)
  | [], _, _, _, _ => rfl
  | x :: hs, at', m, ⟨h1, h2, h3, h4⟩, hk => by
    have e1 : ¬ (x.1 + x.2.1 ≤ k) := by omega
    have e2 : ¬ (x.1 ≤ k) := by omega
    simp only [plO]
    rw [if_neg e1, if_neg e2]
    exact plO_low h4 (by omega)

theorem kept_low {many : Int} : ∀ {hs : HKS} {at' : Int}, GH many at' hs → ∀ e ∈ keptL many at' hs, e = -1 ∨ (at' ≤ e ∧ e < many)
  | [], at', h, e, he => .inr (seg_mem he)
  | x :: hs, at', ⟨h1, h2, h3, h4⟩, e, he => by
    simp only [keptL, List.mem_append] at he
    rcases he with he | he | he
    · have := seg_mem he; exact .inr ⟨this.1, by omega⟩
    · exact .inl (List.eq_of_mem_replicate he)
    · rcases kept_low h4 e he with h | h
      · exact .inl h
      · exact .inr ⟨by omega, h.2⟩

theorem kept_mono {many : Int} : ∀ {hs : HKS} {at' : Int}, 0 ≤ at' → GH many at' hs → (keptL many at' hs).Pairwise (fun e e' => e = -1 ∨ e' = -1 ∨ e < e')
  | [], at', _, h => by
    simp only [keptL]
    rw [List.pairwise_iff_getElem]
    intro i j hi hj hij
    have a := seg_get.1 (List.getElem?_eq_getElem hi)
    have b := seg_get.1 (List.getElem?_eq_getElem hj)
    omega
  | x :: hs, at', h0, ⟨h1, h2, h3, h4⟩ => by
    simp only [keptL]
    rw [List.pairwise_append]
    refine ⟨?_, ?_, fun a ha b hb => ?_⟩
    · rw [List.pairwise_iff_getElem]
      intro i j hi hj hij
      have a := seg_get.1 (List.getElem?_eq_getElem hi)
      have b := seg_get.1 (List.getElem?_eq_getElem hj)
      omega
    · rw [List.pairwise_append]
      refine ⟨?_, kept_mono (by omega) h4, fun a ha b hb => .inl (List.eq_of_mem_replicate ha)⟩
      rw [List.pairwise_replicate]
      exact .inr (.inl rfl)
    · have := seg_mem ha
      rcases List.mem_append.1 hb with hb | hb
      · exact .inr (.inl (List.eq_of_mem_replicate hb))
      · rcases kept_low h4 b hb with h | h
        · exact .inr (.inl h)
        · exact .inr (.inr (by omega))

theorem plO_nonneg {many k q : Int} : ∀ {hs : HKS} {at' : Int}, GH many at' hs → at' ≤ k → plO k hs (-at') = some q → 0 ≤ q
  | [], at', _, hk, h => by simp only [plO, Option.some.injEq] at h; omega
  | x :: hs, at', ⟨h1, h2, h3, h4⟩, hk, h => by
    simp only [plO] at h
    by_cases g1 : x.1 + x.2.1 ≤ k
    · rw [if_pos g1] at h
      have e : -at' + ((x.2.2 : Int) - x.2.1) = -(x.1 + x.2.1) + (x.1 - at' + (x.2.2 : Int)) := by omega
      rw [e, plO_add] at h
      obtain ⟨q', hq, hq'⟩ := Option.map_eq_some_iff.1 h
      have := plO_nonneg h4 g1 hq
      omega
    · rw [if_neg g1] at h
      by_cases g2 : x.1 ≤ k
      · rw [if_pos g2] at h; cases h
      · rw [if_neg g2, plO_low h4 (by omega)] at h
        simp only [Option.some.injEq] at h
        omega

theorem kept_iff {many : Int} : ∀ {hs : HKS} {at' : Int}, 0 ≤ at' → GH many at' hs → ∀ (p : Nat) (k : Int), ((keptL many at' hs)[p]? = some k ∧ 0 ≤ k) ↔ (at' ≤ k ∧ k < many ∧ plO k hs (-at') = some (p : Int))
  | [], at', h0, h, p, k => by
    simp only [keptL, plO, Option.some.injEq]
    rw [seg_get]
    constructor
    · rintro ⟨⟨a, b⟩, c⟩; omega
    · rintro ⟨a, b, c⟩; omega
  | x :: hs, at', h0, ⟨h1, h2, h3, h4⟩, p, k => by
    have ih := kept_iff (by omega) h4 (p - ((x.1 - at').toNat + x.2.2)) k
    simp only [keptL, plO]
    by_cases e1 : (p : Int) < x.1 - at'
    · -- ahead of the hunk
      have hl : p < (segI at' x.1).length := by rw [seg_len]; omega
      rw [List.getElem?_append_left hl, seg_get]
      constructor
      · rintro ⟨⟨a, b⟩, c⟩
        have g1 : ¬ (x.1 + x.2.1 ≤ k) := by omega
        have g2 : ¬ (x.1 ≤ k) := by omega
        rw [if_neg g1, if_neg g2, plO_low h4 (by omega)]
        exact ⟨by omega, by omega, by simp only [Option.some.injEq]; omega⟩
      · rintro ⟨a, b, c⟩
        by_cases g1 : x.1 + x.2.1 ≤ k
        · rw [if_pos g1] at c
          have e : -at' + ((x.2.2 : Int) - x.2.1) = -(x.1 + x.2.1) + (x.1 - at' + (x.2.2 : Int)) := by omega
          rw [e, plO_add] at c
          obtain ⟨q, hq, hq'⟩ := Option.map_eq_some_iff.1 c
          exfalso
          have hq0 : 0 ≤ q := by
            have := plO_nonneg h4 g1 hq
            omega
          omega
        · rw [if_neg g1] at c
          by_cases g2 : x.1 ≤ k
          · rw [if_pos g2] at c; cases c
          · rw [if_neg g2, plO_low h4 (by omega)] at c
            simp only [Option.some.injEq] at c
            omega
    · have hl : (segI at' x.1).length ≤ p := by rw [seg_len]; omega
      rw [List.getElem?_append_right hl, seg_len]
      by_cases e2 : p - (x.1 - at').toNat < x.2.2
      · rw [List.getElem?_append_left (by simpa using e2), List.getElem?_replicate, if_pos e2]
        constructor
        · rintro ⟨a, b⟩
          simp only [Option.some.injEq] at a
          omega
        · rintro ⟨a, b, c⟩
          exfalso
          by_cases g1 : x.1 + x.2.1 ≤ k
          · rw [if_pos g1] at c
            have e : -at' + ((x.2.2 : Int) - x.2.1) = -(x.1 + x.2.1) + (x.1 - at' + (x.2.2 : Int)) := by omega
            rw [e, plO_add] at c
            obtain ⟨q, hq, hq'⟩ := Option.map_eq_some_iff.1 c
            have hq0 : 0 ≤ q := plO_nonneg h4 g1 hq
            omega
          · rw [if_neg g1] at c
            by_cases g2 : x.1 ≤ k
            · rw [if_pos g2] at c; cases c
            · rw [if_neg g2, plO_low h4 (by omega)] at c
              simp only [Option.some.injEq] at c
              omega
      · rw [List.getElem?_append_right (by simpa using e2), List.length_replicate, show p - (x.1 - at').toNat - x.2.2 = p - ((x.1 - at').toNat + x.2.2) by omega, ih]
        constructor
        · rintro ⟨a, b, c⟩
          rw [if_pos a]
          have e : -at' + ((x.2.2 : Int) - x.2.1) = -(x.1 + x.2.1) + (x.1 - at' + (x.2.2 : Int)) := by omega
          rw [e, plO_add, c, Option.map_some]
          exact ⟨by omega, b, by simp only [Option.some.injEq]; omega⟩
        · rintro ⟨a, b, c⟩
          by_cases g1 : x.1 + x.2.1 ≤ k
          · rw [if_pos g1] at c
            have e : -at' + ((x.2.2 : Int) - x.2.1) = -(x.1 + x.2.1) + (x.1 - at' + (x.2.2 : Int)) := by omega
            rw [e, plO_add] at c
            obtain ⟨q, hq, hq'⟩ := Option.map_eq_some_iff.1 c
            exact ⟨g1, b, by rw [hq]; simp only [Option.some.injEq]; omega⟩
          · rw [if_neg g1] at c
            exfalso
            by_cases g2 : x.1 ≤ k
            · rw [if_pos g2] at c; cases c
            · rw [if_neg g2, plO_low h4 (by omega)] at c
              simp only [Option.some.injEq] at c
              omega

/-! ### pairs of lines that stay -/
def PI (KA KB : List Int) : List (Int × Int) := (List.range KB.length).filterMap (fun (j : Nat) => if 0 ≤ KB.getD j 0 ∧ 0 ≤ KA.getD (KB.getD j 0).toNat 0 then some (KA.getD (KB.getD j 0).toNat 0, (j : Int)) else none)
def SI (n : Nat) (a b : HKS) : List (Int × Int) := (List.range n).filterMap (fun (k : Nat) => (plO (k : Int) a 0).bind fun p => (plO p b 0).map fun q => ((k : Int), q))

theorem eq_of_sorted : ∀ {l l' : List (Int × Int)}, l.Pairwise (fun a b => a.1 < b.1) → l'.Pairwise (fun a b => a.1 < b.1) → (∀ x, x ∈ l ↔ x ∈ l') → l = l'
  | [], [], _, _, _ => rfl
  | [], y :: l', _, _, hm => absurd ((hm y).2 (List.mem_cons_self ..)) (by simp)
  | x :: l, [], _, _, hm => absurd ((hm x).1 (List.mem_cons_self ..)) (by simp)
  | x :: l, y :: l', h, h', hm => by
    rw [List.pairwise_cons] at h h'
    have hxy : x = y := by
      rcases List.mem_cons.1 ((hm x).1 (List.mem_cons_self ..)) with e | e
      · exact e
      · rcases List.mem_cons.1 ((hm y).2 (List.mem_cons_self ..)) with e' | e'
        · exact e'.symm
        · have := h'.1 x e
          have := h.1 y e'
          omega
    subst hxy
    congr 1
    refine eq_of_sorted h.2 h'.2 fun z => ⟨fun hz => ?_, fun hz => ?_⟩
    · rcases List.mem_cons.1 ((hm z).1 (List.mem_cons_of_mem _ hz)) with e | e
      · subst e; have := h.1 z hz; omega
      · exact e
    · rcases List.mem_cons.1 ((hm z).2 (List.mem_cons_of_mem _ hz)) with e | e
      · subst e; have := h'.1 z hz; omega
      · exact e

theorem getD_some {l : List Int} {i : Nat} (h : i < l.length) : l[i]? = some (l.getD i 0) := by
  rw [List.getD_eq_getElem?_getD, List.getElem?_eq_getElem h]; rfl

theorem mono_at {L : List Int} (h : L.Pairwise (fun e e' => e = -1 ∨ e' = -1 ∨ e < e')) {i j : Nat} (hij : i < j) (hj : j < L.length) (h1 : 0 ≤ L.getD i 0) (h2 : 0 ≤ L.getD j 0) : L.getD i 0 < L.getD j 0 := by
  have := List.pairwise_iff_getElem.1 h i j (by omega) hj hij
  have e1 : L.getD i 0 = L[i] := by rw [List.getD_eq_getElem?_getD, List.getElem?_eq_getElem (by omega)]; rfl
  have e2 : L.getD j 0 = L[j] := by rw [List.getD_eq_getElem?_getD, List.getElem?_eq_getElem hj]; rfl
  omega

/-- A line that stands in the second text behind b stood in the first one's. -/
theorem kept_at {many : Int} {b : HKS} (hb : GH many 0 b) {j : Nat} (hj : j < (keptL many 0 b).length) (h : 0 ≤ (keptL many 0 b).getD j 0) : (keptL many 0 b).getD j 0 < many ∧ plO ((keptL many 0 b).getD j 0) b 0 = some (j : Int) := by
  have := (kept_iff (Int.le_refl 0) hb j ((keptL many 0 b).getD j 0)).1 ⟨getD_some hj, h⟩
  exact ⟨this.2.1, by simpa using this.2.2⟩
theorem kept_of {many : Int} {b : HKS} (hb : GH many 0 b) {k q : Int} (h0 : 0 ≤ k) (hk : k < many) (h : plO k b 0 = some q) : 0 ≤ q ∧ q.toNat < (keptL many 0 b).length ∧ (keptL many 0 b).getD q.toNat 0 = k := by
  have hq := plO_nonneg hb h0 (by simpa using h)
  have := (kept_iff (Int.le_refl 0) hb q.toNat k).2 ⟨h0, hk, by rw [show (-0 : Int) = 0 from rfl, h]; congr 1; omega⟩
  have hl := (List.getElem?_eq_some_iff.1 this.1).1
  refine ⟨hq, hl, ?_⟩
  have e := getD_some hl
  rw [this.1] at e
  exact (Option.some.inj e).symm

theorem pairs_eq {n m : Nat} {a b : HKS} (ha : GH (n : Int) 0 a) (hb : GH (m : Int) 0 b) (hm : (keptL (n : Int) 0 a).length = m) : PI (keptL (n : Int) 0 a) (keptL (m : Int) 0 b) = SI n a b := by
  refine eq_of_sorted ?_ ?_ fun x => ?_
  · unfold PI
    rw [List.pairwise_filterMap]
    refine (List.pairwise_lt_range (n := (keptL (m : Int) 0 b).length)).imp_of_mem fun {j j'} hj hj' hlt => ?_
    rw [List.mem_range] at hj hj'
    intro x hx y hy
    split at hx
    · split at hy
      · rename_i c1 c2
        obtain rfl := Option.some.inj hx
        obtain rfl := Option.some.inj hy
        have h1 := mono_at (kept_mono (Int.le_refl 0) hb) hlt hj' c1.1 c2.1
        have h2 := kept_at hb hj' c2.1
        exact mono_at (kept_mono (Int.le_refl 0) ha) (by omega) (by omega) c1.2 c2.2
      · cases hy
    · cases hx
  · unfold SI
    rw [List.pairwise_filterMap]
    refine (List.pairwise_lt_range (n := n)).imp fun {k k'} hlt => ?_
    intro x hx y hy
    obtain ⟨p, _, hx⟩ := Option.bind_eq_some_iff.1 hx
    obtain ⟨q, _, rfl⟩ := Option.map_eq_some_iff.1 hx
    obtain ⟨p', _, hy⟩ := Option.bind_eq_some_iff.1 hy
    obtain ⟨q', _, rfl⟩ := Option.map_eq_some_iff.1 hy
    show (k : Int) < (k' : Int)
    omega
  · unfold PI SI
    rw [List.mem_filterMap, List.mem_filterMap]
    constructor
    · rintro ⟨j, hj, hx⟩
      rw [List.mem_range] at hj
      split at hx
      · rename_i c
        obtain rfl := Option.some.inj hx
        obtain ⟨h1, h2⟩ := kept_at hb hj c.1
        have hl : ((keptL (m : Int) 0 b).getD j 0).toNat < (keptL (n : Int) 0 a).length := by omega
        obtain ⟨h3, h4⟩ := kept_at ha hl c.2
        refine ⟨((keptL (n : Int) 0 a).getD ((keptL (m : Int) 0 b).getD j 0).toNat 0).toNat, by rw [List.mem_range]; omega, ?_⟩
        rw [Int.toNat_of_nonneg c.2, h4, Option.bind_some, Int.toNat_of_nonneg c.1, h2]
        rfl
      · cases hx
    · rintro ⟨k, hk, hx⟩
      rw [List.mem_range] at hk
      obtain ⟨p, hp, hx⟩ := Option.bind_eq_some_iff.1 hx
      obtain ⟨q, hq, rfl⟩ := Option.map_eq_some_iff.1 hx
      obtain ⟨p0, p1, p2⟩ := kept_of ha (Int.natCast_nonneg k) (by omega) hp
      obtain ⟨q0, q1, q2⟩ := kept_of hb p0 (by omega) hq
      refine ⟨q.toNat, by rw [List.mem_range]; exact q1, ?_⟩
      rw [q2, p2, if_pos ⟨p0, Int.natCast_nonneg k⟩, Int.toNat_of_nonneg q0]

/-- The pairs grow in both parts. -/
theorem SI_mem {n m : Nat} {a b : HKS} (ha : GH (n : Int) 0 a) (hb : GH (m : Int) 0 b) (hm : (keptL (n : Int) 0 a).length = m) {x : Int × Int} (hx : x ∈ SI n a b) : 0 ≤ x.1 ∧ x.1 < n ∧ 0 ≤ x.2 ∧ x.2 < (keptL (m : Int) 0 b).length := by
  unfold SI at hx
  obtain ⟨k, hk, hx⟩ := List.mem_filterMap.1 hx
  rw [List.mem_range] at hk
  obtain ⟨p, hp, hx⟩ := Option.bind_eq_some_iff.1 hx
  obtain ⟨q, hq, rfl⟩ := Option.map_eq_some_iff.1 hx
  obtain ⟨p0, p1, p2⟩ := kept_of ha (Int.natCast_nonneg k) (by omega) hp
  obtain ⟨q0, q1, q2⟩ := kept_of hb p0 (by omega) hq
  exact ⟨Int.natCast_nonneg k, by show (k : Int) < n; omega, q0, by show q < _; omega⟩
theorem SI_sorted {n m : Nat} {a b : HKS} (ha : GH (n : Int) 0 a) (hb : GH (m : Int) 0 b) (hm : (keptL (n : Int) 0 a).length = m) : (SI n a b).Pairwise (fun x y => x.1 < y.1 ∧ x.2 < y.2) := by
  have h1 : (SI n a b).Pairwise (fun x y => x.1 < y.1) := by
    unfold SI
    rw [List.pairwise_filterMap]
    refine (List.pairwise_lt_range (n := n)).imp fun {k k'} hlt => ?_
    intro x hx y hy
    obtain ⟨p, _, hx⟩ := Option.bind_eq_some_iff.1 hx
    obtain ⟨q, _, rfl⟩ := Option.map_eq_some_iff.1 hx
    obtain ⟨p', _, hy⟩ := Option.bind_eq_some_iff.1 hy
    obtain ⟨q', _, rfl⟩ := Option.map_eq_some_iff.1 hy
    show (k : Int) < (k' : Int)
    omega
  have h2 : (SI n a b).Pairwise (fun x y => x.2 < y.2) := by
    rw [← pairs_eq ha hb hm]
    unfold PI
    rw [List.pairwise_filterMap]
    refine (List.pairwise_lt_range (n := (keptL (m : Int) 0 b).length)).imp fun {j j'} hlt => ?_
    intro x hx y hy
    split at hx
    · split at hy
      · obtain rfl := Option.some.inj hx
        obtain rfl := Option.some.inj hy
        show (j : Int) < (j' : Int)
        omega
      · cases hy
    · cases hx
  exact h1.and h2
end R
end

section
/- Places behind hunks, and lines kept by them: both are as the pure ones say. -/
open Go Go.Dn
namespace R
set_option linter.unusedVariables false

def tri (h : HK) : HKS := h.map fun x => ((x.1 : Int), (x.2.1 : Int), List.length x.2.2.1)

theorem hunk_at {many : Int} {h : HK} (hg : hunksP many h = true) {i : Nat} (hi : i < h.length) : (0 : Int) ≤ (h[i].1 : Int) ∧ (h[i].1 : Int) ≤ many ∧ (0 : Int) ≤ (h[i].2.1 : Int) ∧ (h[i].1 : Int) + (h[i].2.1 : Int) ≤ many ∧ many ≤ 40 ∧ List.length h[i].2.2.1 ≤ 40 ∧ (h[i].2.1 : Int) ≤ 40 := by
  obtain ⟨f1, f2, f3, f4⟩ := hunk_facts hg
  have f5 := f4 i hi
  rw [getD_of hi] at f5
  obtain ⟨g1, g2, g3, g4, g5, _⟩ := f5
  have e : ∀ A G : Int, 0 ≤ A → A + G ≤ many → G ≤ 40 := fun A G _ _ => by omega
  exact ⟨g1, g2, g3, g4, f2, g5, e _ _ g1 g4⟩
theorem hunk_next {many : Int} {h : HK} (hg : hunksP many h = true) {i : Nat} (hi : i + 1 < h.length) : (h[i].1 : Int) + (h[i].2.1 : Int) < (h[i + 1].1 : Int) := by
  obtain ⟨f1, f2, f3, f4⟩ := hunk_facts hg
  have f5 := (f4 (i + 1) hi).2.2.2.2.2.2 (by omega)
  rw [getD_of hi, Nat.add_sub_cancel, getD_of (by omega : i < h.length)] at f5
  exact f5

theorem GH_drop {many : Int} {h : HK} (hg : hunksP many h = true) : ∀ (n i : Nat) (at' : Int), i + n = h.length → at' ≤ many → (∀ hi : i < h.length, at' ≤ (h[i].1 : Int)) → GH many at' (tri (h.drop i))
  | 0, i, at', hn, hm, _ => by rw [List.drop_of_length_le (by omega)]; exact hm
  | n + 1, i, at', hn, hm, ha => by
    have hi : i < h.length := by omega
    obtain ⟨q1, q2, q3, q4, _⟩ := hunk_at hg hi
    rw [List.drop_eq_getElem_cons hi]
    exact ⟨ha hi, q3, q4, GH_drop hg n (i + 1) ((h[i].1 : Int) + (h[i].2.1 : Int)) (by omega) q4 fun hi' => Int.le_of_lt (hunk_next hg hi')⟩
theorem GH_of {many : Int} {h : HK} (hg : hunksP many h = true) : GH many 0 (tri h) := by
  have := GH_drop hg h.length 0 0 (by omega) (hunk_facts hg).1 (fun hi => (hunk_at hg hi).1)
  simpa using this

/-! ### as many lines -/
theorem kept_fold {l : TX} : ∀ (hs : HK) (acc : TX) (at' : Int), 0 ≤ at' → GH (l.length : Int) at' (tri hs) →
    (hs.foldl (stepP l) (acc, at')).1.length + (cutL (hs.foldl (stepP l) (acc, at')).2 (l.length : Int) l).length = acc.length + (keptL (l.length : Int) at' (tri hs)).length
  | [], acc, at', h0, h => by
    have h' : at' ≤ (l.length : Int) := h
    show acc.length + (cutL at' (l.length : Int) l).length = acc.length + (segI at' (l.length : Int)).length
    rw [seg_len]
    unfold cutL
    rw [List.length_drop, List.length_take]
    omega
  | x :: hs, acc, at', h0, hh => by
    rw [List.foldl_cons]
    have e : stepP l (acc, at') x = ((acc ++ cutL at' x.1 l) ++ x.2.2.1, x.1 + x.2.1) := rfl
    have h4' : GH (l.length : Int) ((x.1 : Int) + (x.2.1 : Int)) (tri hs) := hh.2.2.2
    have hA : at' ≤ (x.1 : Int) := hh.1
    have hG : (0 : Int) ≤ (x.2.1 : Int) := hh.2.1
    have hS : (x.1 : Int) + (x.2.1 : Int) ≤ (l.length : Int) := hh.2.2.1
    clear hh
    have cl : ∀ A : Int, at' ≤ A → A ≤ (l.length : Int) → (cutL at' A l).length = (A - at').toNat := fun A _ _ => by
      unfold cutL
      rw [List.length_drop, List.length_take]
      omega
    have sm : ∀ A G : Int, at' ≤ A → 0 ≤ G → A + G ≤ (l.length : Int) → A ≤ (l.length : Int) ∧ 0 ≤ A + G := fun A G _ _ _ => by omega
    obtain ⟨s1, s2⟩ := sm _ _ hA hG hS
    rw [e, kept_fold hs _ ((x.1 : Int) + (x.2.1 : Int)) s2 h4']
    show ((acc ++ cutL at' x.1 l) ++ x.2.2.1).length + _ = acc.length + (segI at' x.1 ++ (List.replicate (List.length x.2.2.1) (-1) ++ keptL (l.length : Int) ((x.1 : Int) + (x.2.1 : Int)) (tri hs))).length
    have hc : (cutL at' x.1 l).length = ((x.1 : Int) - at').toNat := cl _ hA s1
    simp only [List.length_append, List.length_replicate, seg_len]
    omega
theorem kept_len {l : TX} {h : HK} (hg : hunksP (l.length : Int) h = true) : (keptL (l.length : Int) 0 (tri h)).length = (patchL l h).length := by
  have := kept_fold (l := l) h [] 0 (Int.le_refl 0) (GH_of hg)
  unfold patchL foldP
  rw [List.length_append]
  simp only [List.length_nil, Nat.zero_add] at this
  exact this.symm

/-! ### the reference's place -/
theorem plW {A G m : Int} (h0 : 0 ≤ A) (h1 : 0 ≤ G) (h2 : A + G ≤ m) (h3 : m ≤ 40) : IntKind.wrap .i64 (A + G) = A + G := wrap64 (by omega) (by omega)
theorem plM {s v z : Int} (h0 : -10000 ≤ s) (h1 : s ≤ 10000) (h2 : 0 ≤ v) (h3 : v ≤ 40) (h4 : 0 ≤ z) (h5 : z ≤ 40) : IntKind.wrap .i64 (s + IntKind.wrap .i64 (v - z)) = s + (v - z) := by
  rw [wrap64 (x := v - z) (by omega) (by omega), wrap64 (by omega) (by omega)]

def gP (k : Int) (m : Int) (x : PV Y_impl_Hunk) : Int ⊕ Unit := bif decide ((x.1 : Int) + (x.2.1 : Int) ≤ k) then .inl (m + ((List.length x.2.2.1 : Int) - x.2.1)) else bif decide ((x.1 : Int) ≤ k) then .inr () else .inl m
theorem run_gP (k : Int) : ∀ (h : HK) (m : Int), run (gP k) m h = match plO k (tri h) m with | some v => .inl (v - k) | none => .inr ()
  | [], m => by
    show Sum.inl m = Sum.inl (k + m - k)
    congr 1; omega
  | x :: h, m => by
    have e : plO k (tri (x :: h)) m = if (x.1 : Int) + (x.2.1 : Int) ≤ k then plO k (tri h) (m + ((List.length x.2.2.1 : Int) - x.2.1)) else if (x.1 : Int) ≤ k then none else plO k (tri h) m := rfl
    rw [e]
    unfold run gP
    by_cases c1 : (x.1 : Int) + (x.2.1 : Int) ≤ k
    · rw [if_pos c1, decide_eq_true c1, cond_true]
      exact run_gP k h _
    · rw [if_neg c1, decide_eq_false c1, cond_false]
      by_cases c2 : (x.1 : Int) ≤ k
      · rw [if_pos c2, decide_eq_true c2, cond_true]
      · rw [if_neg c2, decide_eq_false c2, cond_false]
        exact run_gP k h _

def plR (k : Int) (h : HK) : Int := match plO k (tri h) 0 with | some v => v | none => -1

theorem place_S {many k : Int} {h : HK} (hg : hunksP many h = true) (h0 : 0 ≤ k) (h1 : k ≤ 100000) : f_S_l2Place h k = some ((plR k h, ()), ()) := by
  obtain ⟨_, _, h20, _⟩ := hunk_facts hg
  have hF := fix_run (B := fun d => b_S_l2Place_3 d.1 d.2.1 d.2.2.1 d.2.2.2.1 d.2.2.2.2.1) h (gP k) (fun m i => (k, m, h, (h.length : Int), (i : Int), ())) (fun m => .inl (k, m, ())) (fun _ => .inr (-1, ())) (fun i m => -100 * (i : Int) ≤ m ∧ m ≤ 100 * (i : Int))
    (fun i hi m m' hI hgo => by
      obtain ⟨q1, q2, q3, q4, q5, q6, q7⟩ := hunk_at hg hi
      obtain ⟨i1, i2⟩ := hI
      show _ ∧ b_S_l2Place_3 k m h h.length i = _
      unfold b_S_l2Place_3
      rw [decide_eq_true (by omega : (i : Int) < (h.length : Int)), cond_true, inB_lt hi, cond_true, toNat_cast, getD_of hi]
      generalize h[i] = x at *
      rw [plW q1 q3 q4 q5]
      unfold gP at hgo
      have key : ∀ v z : Int, 0 ≤ v → v ≤ 40 → 0 ≤ z → z ≤ 40 → -100 * ((i + 1 : Nat) : Int) ≤ m + (v - z) ∧ m + (v - z) ≤ 100 * ((i + 1 : Nat) : Int) := fun v z _ _ _ _ => ⟨by omega, by omega⟩
      cases c : decide ((x.1 : Int) + (x.2.1 : Int) ≤ k)
      · rw [c, cond_false] at hgo
        rw [cond_false]
        cases c2 : decide ((x.1 : Int) ≤ k)
        · rw [c2, cond_false] at hgo
          obtain rfl := Sum.inl.inj hgo
          rw [cond_false, Option.bind_some]
          dsimp only
          rw [wrap64 (x := (i : Int) + 1) (by omega) (by omega)]
          exact ⟨⟨by omega, by omega⟩, rfl⟩
        · rw [c2, cond_true] at hgo; cases hgo
      · rw [c, cond_true] at hgo
        obtain rfl := Sum.inl.inj hgo
        rw [cond_true, Option.bind_some]
        dsimp only
        rw [plM (by omega) (by omega) (Int.natCast_nonneg _) (by omega) q3 q7, wrap64 (x := (i : Int) + 1) (by omega) (by omega)]
        exact ⟨key _ _ (Int.natCast_nonneg _) (by omega) q3 q7, rfl⟩)
    (fun i hi m r hI hgo => by
      obtain ⟨q1, q2, q3, q4, q5, q6, q7⟩ := hunk_at hg hi
      show b_S_l2Place_3 k m h h.length i = _
      unfold b_S_l2Place_3
      rw [decide_eq_true (by omega : (i : Int) < (h.length : Int)), cond_true, inB_lt hi, cond_true, toNat_cast, getD_of hi]
      generalize h[i] = x at *
      rw [plW q1 q3 q4 q5]
      unfold gP at hgo
      cases c : decide ((x.1 : Int) + (x.2.1 : Int) ≤ k)
      · rw [c, cond_false] at hgo
        rw [cond_false]
        cases c2 : decide ((x.1 : Int) ≤ k)
        · rw [c2, cond_false] at hgo; cases hgo
        · rw [cond_true, Option.bind_some]
      · rw [c, cond_true] at hgo; cases hgo)
    (fun m _ => by
      show b_S_l2Place_3 k m h h.length h.length = _
      unfold b_S_l2Place_3
      rw [decide_eq_false (Int.lt_irrefl _), cond_false]) 0 ⟨by simp, by simp⟩
  obtain ⟨hF, hI⟩ := hF
  unfold f_S_l2Place plR
  rw [show w_S_l2Place_3 (k, 0, h, (h.length : Int), 0, ()) = _ from hF]
  rw [run_gP] at hI ⊢
  cases hp : plO k (tri h) 0 with
  | none => rfl
  | some v =>
    rw [hp] at hI
    obtain ⟨i1, i2⟩ := hI _ rfl
    rw [Option.bind_some]
    dsimp only
    rw [show k + (v - k) = v by omega, wrap64 (by omega) (by omega)]
end R
end

section
/- The program's row of lines kept. -/
open Go Go.Dn
namespace R
set_option linter.unusedVariables false

theorem seg_succ (a : Int) (j : Nat) : segI a (a + ((j + 1 : Nat) : Int)) = segI a (a + (j : Int)) ++ [a + (j : Int)] := by
  unfold segI
  rw [show (a + ((j + 1 : Nat) : Int) - a).toNat = j + 1 by omega, show (a + (j : Int) - a).toNat = j by omega, List.range_succ, List.map_append]
  rfl
theorem seg_nil (a : Int) : segI a a = [] := by unfold segI; simp

theorem stay_A {t0 at' tz t13 t14 t20 : Int} {out : List Int} {t9 t16 t17 : PV Y_impl_Hunk} {t12 : HK} {t15 : Bool} (h0 : 0 ≤ at') (h1 : at' ≤ tz) (h2 : tz ≤ 1000) (hl : out.length ≤ 100000) :
    w_I_kept_209_21_0 (t0, out, at', t9, t12, t13, t14, t15, t16, t17, t20, tz, ()) = some (t0, out ++ segI at' tz, tz, t9, t12, t13, t14, t15, t16, t17, t20, ()) := by
  obtain ⟨n, hn⟩ : ∃ n : Nat, tz = at' + (n : Int) := ⟨(tz - at').toNat, by omega⟩
  subst hn
  have := fix_all (B := fun d => b_I_kept_209_21_0 d.1 d.2.1 d.2.2.1 d.2.2.2.1 d.2.2.2.2.1 d.2.2.2.2.2.1 d.2.2.2.2.2.2.1 d.2.2.2.2.2.2.2.1 d.2.2.2.2.2.2.2.2.1 d.2.2.2.2.2.2.2.2.2.1 d.2.2.2.2.2.2.2.2.2.2.1 d.2.2.2.2.2.2.2.2.2.2.2.1)
    (fun j => (t0, out ++ segI at' (at' + (j : Int)), at' + (j : Int), t9, t12, t13, t14, t15, t16, t17, t20, at' + (n : Int), ())) n (r := (t0, out ++ segI at' (at' + (n : Int)), at' + (n : Int), t9, t12, t13, t14, t15, t16, t17, t20, ()))
    (fun j hj => by
      show b_I_kept_209_21_0 t0 (out ++ segI at' (at' + (j : Int))) (at' + (j : Int)) t9 t12 t13 t14 t15 t16 t17 t20 (at' + (n : Int)) = _
      unfold b_I_kept_209_21_0
      rw [decide_eq_true (by omega : at' + (j : Int) < at' + (n : Int)), cond_true, roomB_ok (by rw [List.length_append, seg_len]; simp only [List.length_cons, List.length_nil]; omega), cond_true, wrap64 (by omega) (by omega), seg_succ, ← List.append_assoc]
      rw [show at' + (j : Int) + 1 = at' + ((j + 1 : Nat) : Int) by omega])
    (by
      show b_I_kept_209_21_0 t0 (out ++ segI at' (at' + (n : Int))) (at' + (n : Int)) t9 t12 t13 t14 t15 t16 t17 t20 (at' + (n : Int)) = _
      unfold b_I_kept_209_21_0
      rw [decide_eq_false (Int.lt_irrefl _), cond_false])
  rw [show ((0 : Nat) : Int) = 0 from rfl, Int.add_zero, seg_nil, List.append_nil] at this
  exact this

theorem stay_B {t0 at' tz t37 : Int} {out : List Int} (h0 : 0 ≤ at') (h1 : at' ≤ tz) (h2 : tz ≤ 1000) (hl : out.length ≤ 100000) :
    w_I_kept_209_38_0 (t0, out, at', t37, tz, ()) = some (t0, out ++ segI at' tz, tz, t37, ()) := by
  obtain ⟨n, hn⟩ : ∃ n : Nat, tz = at' + (n : Int) := ⟨(tz - at').toNat, by omega⟩
  subst hn
  have := fix_all (B := fun d => b_I_kept_209_38_0 d.1 d.2.1 d.2.2.1 d.2.2.2.1 d.2.2.2.2.1)
    (fun j => (t0, out ++ segI at' (at' + (j : Int)), at' + (j : Int), t37, at' + (n : Int), ())) n (r := (t0, out ++ segI at' (at' + (n : Int)), at' + (n : Int), t37, ()))
    (fun j hj => by
      show b_I_kept_209_38_0 t0 (out ++ segI at' (at' + (j : Int))) (at' + (j : Int)) t37 (at' + (n : Int)) = _
      unfold b_I_kept_209_38_0
      rw [decide_eq_true (by omega : at' + (j : Int) < at' + (n : Int)), cond_true, roomB_ok (by rw [List.length_append, seg_len]; simp only [List.length_cons, List.length_nil]; omega), cond_true, wrap64 (by omega) (by omega), seg_succ, ← List.append_assoc]
      rw [show at' + (j : Int) + 1 = at' + ((j + 1 : Nat) : Int) by omega])
    (by
      show b_I_kept_209_38_0 t0 (out ++ segI at' (at' + (n : Int))) (at' + (n : Int)) t37 (at' + (n : Int)) = _
      unfold b_I_kept_209_38_0
      rw [decide_eq_false (Int.lt_irrefl _), cond_false])
  rw [show ((0 : Nat) : Int) = 0 from rfl, Int.add_zero, seg_nil, List.append_nil] at this
  exact this

theorem new_loop {t0 t6 t13 t14 : Int} {out : List Int} {t9 : PV Y_impl_Hunk} {t12 : HK} {n : Nat} (hn : n ≤ 1000) (hl : out.length ≤ 100000) :
    w_I_kept_8 (t0, out, t6, t9, t12, t13, t14, (n : Int), 0, ()) = some (t0, out ++ List.replicate n (-1), t6, t9, t12, t13, t14, ()) := by
  have := fix_all (B := fun d => b_I_kept_8 d.1 d.2.1 d.2.2.1 d.2.2.2.1 d.2.2.2.2.1 d.2.2.2.2.2.1 d.2.2.2.2.2.2.1 d.2.2.2.2.2.2.2.1 d.2.2.2.2.2.2.2.2.1)
    (fun j => (t0, out ++ List.replicate j (-1 : Int), t6, t9, t12, t13, t14, (n : Int), (j : Int), ())) n (r := (t0, out ++ List.replicate n (-1 : Int), t6, t9, t12, t13, t14, ()))
    (fun j hj => by
      show b_I_kept_8 t0 (out ++ List.replicate j (-1 : Int)) t6 t9 t12 t13 t14 (n : Int) (j : Int) = _
      unfold b_I_kept_8
      rw [decide_eq_true (by omega : (j : Int) < (n : Int)), cond_true, roomB_ok (by rw [List.length_append, List.length_replicate]; simp only [List.length_cons, List.length_nil]; omega), cond_true, wrap64 (by omega) (by omega), List.replicate_succ', ← List.append_assoc]
      rfl)
    (by
      show b_I_kept_8 t0 (out ++ List.replicate n (-1 : Int)) t6 t9 t12 t13 t14 (n : Int) (n : Int) = _
      unfold b_I_kept_8
      rw [decide_eq_false (Int.lt_irrefl _), cond_false])
  rw [show ((0 : Nat) : Int) = 0 from rfl, List.replicate_zero, List.append_nil] at this
  exact this

def keS (a : List Int × Int) (x : PV Y_impl_Hunk) : List Int × Int := ((a.1 ++ segI a.2 x.1) ++ List.replicate (List.length x.2.2.1) (-1), x.1 + x.2.1)
theorem keS_fold (many : Int) : ∀ (hs : HK) (a : List Int × Int), (hs.foldl keS a).1 ++ segI (hs.foldl keS a).2 many = a.1 ++ keptL many a.2 (tri hs)
  | [], a => rfl
  | x :: hs, a => by
    rw [List.foldl_cons, keS_fold many hs]
    show ((a.1 ++ segI a.2 x.1) ++ List.replicate (List.length x.2.2.1) (-1)) ++ _ = a.1 ++ (segI a.2 x.1 ++ (List.replicate (List.length x.2.2.1) (-1) ++ _))
    simp only [List.append_assoc]
    rfl

theorem kept_I {many : Int} {h : HK} (hg : hunksP many h = true) : f_I_kept many h = some ((keptL many 0 (tri h), ()), ()) := by
  obtain ⟨f1, f2, f3, _⟩ := hunk_facts hg
  have hF := fix_fold (B := fun d => b_I_kept_4 d.1 d.2.1 d.2.2.1 d.2.2.2.1 d.2.2.2.2.1 d.2.2.2.2.2.1) h keS (fun a i => (many, a.1, a.2, h, (h.length : Int), (i : Int), ())) (fun a => (many, a.1, a.2, ()))
    (fun i a => 0 ≤ a.2 ∧ a.2 ≤ many ∧ (∀ hi : i < h.length, a.2 ≤ (h[i].1 : Int)) ∧ a.1.length ≤ 100 * i)
    (fun i hi a hI => by
      obtain ⟨q1, q2, q3, q4, q5, q6, q7⟩ := hunk_at hg hi
      obtain ⟨i1, i2, i3, i4⟩ := hI
      have i3' := i3 hi
      have nx : ∀ hi' : i + 1 < h.length, (h[i].1 : Int) + (h[i].2.1 : Int) ≤ (h[i + 1].1 : Int) := fun hi' => Int.le_of_lt (hunk_next hg hi')
      have hsum : ∀ A G : Int, 0 ≤ A → 0 ≤ G → 0 ≤ A + G := fun A G _ _ => by omega
      have hseg : ∀ A : Int, A ≤ many → (segI a.2 A).length ≤ 40 := fun A _ => by rw [seg_len]; omega
      have hA40 : ∀ A : Int, A ≤ many → A ≤ 1000 := fun A _ => by omega
      refine ⟨⟨hsum _ _ q1 q3, q4, nx, ?_⟩, ?_⟩
      · show ((a.1 ++ segI a.2 h[i].1) ++ List.replicate (List.length h[i].2.2.1) (-1)).length ≤ _
        have := hseg _ q2
        rw [List.length_append, List.length_append, List.length_replicate]
        omega
      · show b_I_kept_4 many a.1 a.2 h h.length i = _
        unfold b_I_kept_4
        rw [decide_eq_true (by omega : (i : Int) < (h.length : Int)), cond_true, inB_lt hi, cond_true, toNat_cast, getD_of hi]
        have hs := hseg _ q2
        have hA := hA40 _ q2
        unfold keS
        generalize h[i] = x at *
        rw [stay_A i1 i3' hA (by omega), Option.bind_some]
        dsimp only
        rw [new_loop (by omega) (by rw [List.length_append]; omega), Option.bind_some]
        dsimp only
        rw [plW q1 q3 q4 q5, wrap64 (x := (i : Int) + 1) (by omega) (by omega)]
        rfl)
    (fun a _ => by
      show b_I_kept_4 many a.1 a.2 h h.length h.length = _
      unfold b_I_kept_4
      rw [decide_eq_false (Int.lt_irrefl _), cond_false]) ([], 0) ⟨Int.le_refl 0, f1, fun hi => (hunk_at hg hi).1, by simp⟩
  obtain ⟨hF, i1, i2, _, i4⟩ := hF
  unfold f_I_kept
  rw [show w_I_kept_4 (many, ([] : List Int), 0, h, (h.length : Int), 0, ()) = _ from hF, Option.bind_some]
  dsimp only
  rw [stay_B i1 i2 (by omega) (by omega), Option.bind_some]
  dsimp only
  rw [keS_fold many h ([], 0)]
  rfl
end R
end

section
/- Pairs of lines that stay: both sides find the same. -/
open Go Go.Dn
namespace R
set_option linter.unusedVariables false

def encS (x : Int × Int) : PV Y__2_int := (x.1, (x.2, ()))
def encI (x : Int × Int) : List Int := [x.1, x.2]

theorem fm_succ {α : Type} (F : Nat → Option α) (k : Nat) : (List.range (k + 1)).filterMap F = (List.range k).filterMap F ++ (F k).toList := by
  rw [List.range_succ, List.filterMap_append]
  congr 1
theorem fm_len {α : Type} (F : Nat → Option α) (k : Nat) : ((List.range k).filterMap F).length ≤ k := by
  have := List.length_filterMap_le F (List.range k)
  rwa [List.length_range] at this

theorem stay_loop {l last : TX} {a b : HK} {m : Nat} (hg : hunksP (l.length : Int) a = true) (hb : hunksP (m : Int) b = true) (hm : (keptL (l.length : Int) 0 (tri a)).length = m) :
    w_S_JoinHunks_7 (l, a, b, last, [], (l.length : Int), 0, ()) = some (l, last, (SI l.length (tri a) (tri b)).map encS, ()) := by
  obtain ⟨f1, f2, _, _⟩ := hunk_facts hg
  obtain ⟨f1', f2', _, _⟩ := hunk_facts hb
  obtain ⟨F, hF⟩ : ∃ F : Nat → Option (Int × Int), F = fun (k : Nat) => (plO (k : Int) (tri a) 0).bind fun p => (plO p (tri b) 0).map fun q => ((k : Int), q) := ⟨_, rfl⟩
  have := fix_all (B := fun d => b_S_JoinHunks_7 d.1 d.2.1 d.2.2.1 d.2.2.2.1 d.2.2.2.2.1 d.2.2.2.2.2.1 d.2.2.2.2.2.2.1)
    (fun k => (l, a, b, last, ((List.range k).filterMap F).map encS, (l.length : Int), (k : Int), ())) l.length (r := (l, last, ((List.range l.length).filterMap F).map encS, ()))
    (fun k hk => by
      show b_S_JoinHunks_7 l a b last (((List.range k).filterMap F).map encS) l.length k = _
      have hlen := fm_len F k
      unfold b_S_JoinHunks_7
      rw [decide_eq_true (by omega : (k : Int) < (l.length : Int)), cond_true, place_S hg (Int.natCast_nonneg k) (by omega), Option.bind_some]
      dsimp only
      rw [fm_succ]
      cases hp : plO (k : Int) (tri a) 0 with
      | none =>
        have e : plR (k : Int) a = -1 := by unfold plR; rw [hp]
        have eF : F k = none := by rw [hF]; simp only [hp, Option.bind_none]
        rw [e, eF, decide_eq_false (by decide : ¬ ((-1 : Int) ≥ 0)), cond_false, Option.bind_some]
        dsimp only
        rw [wrap64 (by omega) (by omega)]
        simp only [Option.toList_none, List.append_nil]
        rfl
      | some p =>
        have e : plR (k : Int) a = p := by unfold plR; rw [hp]
        obtain ⟨p0, p1, p2⟩ := kept_of (GH_of hg) (Int.natCast_nonneg k) (by omega) hp
        rw [e, decide_eq_true (by omega : p ≥ 0), cond_true, place_S hb p0 (by omega), Option.bind_some]
        dsimp only
        cases hq : plO p (tri b) 0 with
        | none =>
          have e2 : plR p b = -1 := by unfold plR; rw [hq]
          have eF : F k = none := by rw [hF]; simp only [hp, Option.bind_some, hq, Option.map_none]
          rw [e2, eF, decide_eq_false (by decide : ¬ ((-1 : Int) ≥ 0)), cond_false, Option.bind_some]
          dsimp only
          rw [wrap64 (by omega) (by omega)]
          simp only [Option.toList_none, List.append_nil]
          rfl
        | some q =>
          have e2 : plR p b = q := by unfold plR; rw [hq]
          obtain ⟨q0, q1, q2⟩ := kept_of (GH_of hb) p0 (by omega) hq
          have eF : F k = some ((k : Int), q) := by rw [hF]; simp only [hp, Option.bind_some, hq, Option.map_some]
          rw [e2, eF, decide_eq_true (by omega : q ≥ 0), cond_true, roomB_ok (by rw [List.length_map]; simp only [List.length_cons, List.length_nil]; omega), cond_true, Option.bind_some]
          dsimp only
          rw [wrap64 (by omega) (by omega)]
          simp only [Option.toList_some, List.map_append, List.map_cons, List.map_nil]
          rfl)
    (by
      show b_S_JoinHunks_7 l a b last (((List.range l.length).filterMap F).map encS) l.length l.length = _
      unfold b_S_JoinHunks_7
      rw [decide_eq_false (Int.lt_irrefl _), cond_false])
  rw [hF] at this
  exact this

theorem pair_loop {l last : TX} {KA KB : List Int} (hA : KA.length ≤ 1000) (hB : KB.length ≤ 1000) (hin : ∀ j, j < KB.length → 0 ≤ KB.getD j 0 → KB.getD j 0 < (KA.length : Int)) :
    w_I_JoinHunks_7 (l, last, KA, ([] : List (List Int)), KB, (KB.length : Int), 0, ()) = some (l, last, (PI KA KB).map encI, ()) := by
  obtain ⟨F, hF⟩ : ∃ F : Nat → Option (Int × Int), F = fun (j : Nat) => if 0 ≤ KB.getD j 0 ∧ 0 ≤ KA.getD (KB.getD j 0).toNat 0 then some (KA.getD (KB.getD j 0).toNat 0, (j : Int)) else none := ⟨_, rfl⟩
  have := fix_all (B := fun d => b_I_JoinHunks_7 d.1 d.2.1 d.2.2.1 d.2.2.2.1 d.2.2.2.2.1 d.2.2.2.2.2.1 d.2.2.2.2.2.2.1)
    (fun k => (l, last, KA, ((List.range k).filterMap F).map encI, KB, (KB.length : Int), (k : Int), ())) KB.length (r := (l, last, ((List.range KB.length).filterMap F).map encI, ()))
    (fun k hk => by
      show b_I_JoinHunks_7 l last KA (((List.range k).filterMap F).map encI) KB KB.length k = _
      have hlen := fm_len F k
      unfold b_I_JoinHunks_7
      rw [decide_eq_true (by omega : (k : Int) < (KB.length : Int)), cond_true, inB_lt hk, cond_true, toNat_cast]
      rw [fm_succ]
      by_cases c1 : KB.getD k 0 ≥ 0
      · have hlt := hin k hk c1
        have eB : inB (KB.getD k 0) KA.length = true := by unfold inB; rw [decide_eq_true c1, decide_eq_true hlt]; rfl
        rw [decide_eq_true c1, cond_true, eB, cond_true, Option.bind_some]
        dsimp only
        by_cases c2 : KA.getD (KB.getD k 0).toNat 0 ≥ 0
        · have eF : F k = some (KA.getD (KB.getD k 0).toNat 0, (k : Int)) := by rw [hF]; simp only; rw [if_pos ⟨c1, c2⟩]
          rw [eF, decide_eq_true c2, cond_true, eB, cond_true, roomB_ok (by rw [List.length_map]; simp only [List.length_cons, List.length_nil]; omega), cond_true, Option.bind_some]
          dsimp only
          rw [wrap64 (by omega) (by omega)]
          simp only [Option.toList_some, List.map_append, List.map_cons, List.map_nil]
          rfl
        · have eF : F k = none := by rw [hF]; simp only; rw [if_neg fun h => c2 h.2]
          rw [eF, decide_eq_false c2, cond_false, Option.bind_some]
          dsimp only
          rw [wrap64 (by omega) (by omega)]
          simp only [Option.toList_none, List.append_nil]
          rfl
      · have eF : F k = none := by rw [hF]; simp only; rw [if_neg fun h => c1 h.1]
        rw [eF, decide_eq_false c1, cond_false, Option.bind_some]
        dsimp only
        rw [cond_false, Option.bind_some]
        dsimp only
        rw [wrap64 (by omega) (by omega)]
        simp only [Option.toList_none, List.append_nil]
        rfl)
    (by
      show b_I_JoinHunks_7 l last KA (((List.range KB.length).filterMap F).map encI) KB KB.length KB.length = _
      unfold b_I_JoinHunks_7
      rw [decide_eq_false (Int.lt_irrefl _), cond_false])
  rw [hF] at this
  exact this
end R
end

section
/- Hunks between the pairs: both sides make the same. -/
open Go Go.Dn
namespace R
set_option linter.unusedVariables false

def joS (last : TX) (a : HK × Int × Int) (x : Int × Int) : HK × Int × Int :=
  ((bif decide (x.1 > a.2.1) || decide (x.2 > a.2.2) then a.1 ++ [(a.2.1, (x.1 - a.2.1, (cutL a.2.2 x.2 last, ())))] else a.1), x.1 + 1, x.2 + 1)
def allP (n m : Nat) (P : List (Int × Int)) : List (Int × Int) := P ++ [((n : Int), (m : Int))]
def joinL (l last : TX) (P : List (Int × Int)) : HK := ((allP l.length last.length P).foldl (joS last) ([], 0, 0)).1
def GPs (n m : Nat) (P : List (Int × Int)) : Prop := (∀ x ∈ P, 0 ≤ x.1 ∧ x.1 < n ∧ 0 ≤ x.2 ∧ x.2 < m) ∧ P.Pairwise (fun x y => x.1 < y.1 ∧ x.2 < y.2)

theorem all_facts {n m : Nat} {P : List (Int × Int)} (h : GPs n m P) : (∀ x ∈ allP n m P, 0 ≤ x.1 ∧ x.1 ≤ n ∧ 0 ≤ x.2 ∧ x.2 ≤ m) ∧ (allP n m P).Pairwise (fun x y => x.1 < y.1 ∧ x.2 < y.2) := by
  unfold allP
  refine ⟨fun x hx => ?_, ?_⟩
  · rcases List.mem_append.1 hx with hx | hx
    · have := h.1 x hx; omega
    · obtain rfl := List.mem_singleton.1 hx
      exact ⟨Int.natCast_nonneg n, Int.le_refl _, Int.natCast_nonneg m, Int.le_refl _⟩
  · rw [List.pairwise_append]
    refine ⟨h.2, by simp, fun x hx y hy => ?_⟩
    obtain rfl := List.mem_singleton.1 hy
    have := h.1 x hx
    exact ⟨this.2.1, this.2.2.2⟩

theorem all_len {n m : Nat} {P : List (Int × Int)} (h : GPs n m P) : (allP n m P).length ≤ n + 1 := by
  obtain ⟨h1, h2⟩ := all_facts h
  have key : ∀ i (hi : i < (allP n m P).length), (i : Int) ≤ (allP n m P)[i].1 := by
    intro i
    induction i with
    | zero => intro hi; exact (h1 _ (List.getElem_mem hi)).1
    | succ i ih =>
      intro hi
      have := ih (by omega)
      have := (List.pairwise_iff_getElem.1 h2 i (i + 1) (by omega) hi (by omega)).1
      omega
  by_cases h0 : (allP n m P).length = 0
  · omega
  · have a := key ((allP n m P).length - 1) (by omega)
    have b := (h1 _ (List.getElem_mem (show (allP n m P).length - 1 < (allP n m P).length by omega))).2.1
    omega

def jInv (LL : List (Int × Int)) (i : Nat) (a : HK × Int × Int) : Prop := 0 ≤ a.2.1 ∧ 0 ≤ a.2.2 ∧ (∀ hi : i < LL.length, a.2.1 ≤ LL[i].1 ∧ a.2.2 ≤ LL[i].2) ∧ a.1.length ≤ i

theorem jInv_next {n m : Nat} {P : List (Int × Int)} (h : GPs n m P) {last : TX} {i : Nat} (hi : i < (allP n m P).length) {a : HK × Int × Int} (hI : jInv (allP n m P) i a) : jInv (allP n m P) (i + 1) (joS last a (allP n m P)[i]) := by
  obtain ⟨h1, h2⟩ := all_facts h
  have b := h1 _ (List.getElem_mem hi)
  obtain ⟨i1, i2, i3, i4⟩ := hI
  refine ⟨?_, ?_, fun hi' => ?_, ?_⟩
  · show 0 ≤ (allP n m P)[i].1 + 1; omega
  · show 0 ≤ (allP n m P)[i].2 + 1; omega
  · have := List.pairwise_iff_getElem.1 h2 i (i + 1) hi hi' (by omega)
    exact ⟨by show (allP n m P)[i].1 + 1 ≤ _; omega, by show (allP n m P)[i].2 + 1 ≤ _; omega⟩
  · unfold joS
    cases decide ((allP n m P)[i].1 > a.2.1) || decide ((allP n m P)[i].2 > a.2.2)
    · show a.1.length ≤ i + 1; omega
    · show (a.1 ++ [_]).length ≤ i + 1
      rw [List.length_append]
      simp only [List.length_cons, List.length_nil]
      omega

theorem join_S {l last : TX} {P : List (Int × Int)} (hP : GPs l.length last.length P) (hl : l.length ≤ 40) (hlast : last.length ≤ 40) : f_S_l2Join l last (P.map encS) = some ((joinL l last P, ()), ()) := by
  have hall := all_len hP
  obtain ⟨h1, h2⟩ := all_facts hP
  have hF := fix_fold (B := fun d => b_S_l2Join_4 d.1 d.2.1 d.2.2.1 d.2.2.2.1 d.2.2.2.2.1 d.2.2.2.2.2.1 d.2.2.2.2.2.2.1) (allP l.length last.length P) (joS last)
    (fun a i => (last, a.1, a.2.1, a.2.2, (allP l.length last.length P).map encS, (((allP l.length last.length P).map encS).length : Int), (i : Int), ())) (fun a => (a.1, ())) (jInv (allP l.length last.length P))
    (fun i hi a hI => by
      refine ⟨jInv_next hP hi hI, ?_⟩
      have b := h1 _ (List.getElem_mem hi)
      obtain ⟨i1, i2, i3, i4⟩ := hI
      obtain ⟨j1, j2⟩ := i3 hi
      have hi' : i < ((allP l.length last.length P).map encS).length := by rw [List.length_map]; exact hi
      show b_S_l2Join_4 last a.1 a.2.1 a.2.2 ((allP l.length last.length P).map encS) ((allP l.length last.length P).map encS).length i = _
      unfold b_S_l2Join_4
      rw [decide_eq_true (by omega : (i : Int) < (((allP l.length last.length P).map encS).length : Int)), cond_true, inB_lt hi', cond_true, toNat_cast, getD_of hi', List.getElem_map]
      unfold joS
      generalize (allP l.length last.length P)[i] = x at *
      obtain ⟨x1, x2⟩ := x
      obtain ⟨out, ia, ja⟩ := a
      dsimp only [encS] at *
      have hcut : (cutL ja x2 last).length ≤ 1099511627776 := by have := cut_len (l := last) (a := ja) (b := x2); omega
      by_cases c1 : x1 > ia
      · have d1 : decide (x1 > ia) = true := decide_eq_true c1
        erw [d1]
        rw [cond_true, Option.bind_some, Bool.true_or, cond_true]
        dsimp only
        rw [cond_true, cutB_ok i2 j2 b.2.2.2, cond_true, own_S _ hcut, Option.bind_some, roomB_ok (by simp only [List.length_cons, List.length_nil]; omega), cond_true, Option.bind_some]
        dsimp only
        rw [wrap64 (x := x1 - ia) (by omega) (by omega), wrap64 (x := x1 + 1) (by omega) (by omega), wrap64 (x := x2 + 1) (by omega) (by omega), wrap64 (x := (i : Int) + 1) (by omega) (by omega)]
        rfl
      · have d1 : decide (x1 > ia) = false := decide_eq_false c1
        erw [d1]
        rw [cond_false, Option.bind_some, Bool.false_or]
        dsimp only
        by_cases c2 : x2 > ja
        · have d2 : decide (x2 > ja) = true := decide_eq_true c2
          erw [d2]
          rw [cond_true, cond_true, cutB_ok i2 j2 b.2.2.2, cond_true, own_S _ hcut, Option.bind_some, roomB_ok (by simp only [List.length_cons, List.length_nil]; omega), cond_true, Option.bind_some]
          dsimp only
          rw [wrap64 (x := x1 - ia) (by omega) (by omega), wrap64 (x := x1 + 1) (by omega) (by omega), wrap64 (x := x2 + 1) (by omega) (by omega), wrap64 (x := (i : Int) + 1) (by omega) (by omega)]
          rfl
        · have d2 : decide (x2 > ja) = false := decide_eq_false c2
          erw [d2]
          rw [cond_false, cond_false, Option.bind_some]
          dsimp only
          rw [wrap64 (x := x1 + 1) (by omega) (by omega), wrap64 (x := x2 + 1) (by omega) (by omega), wrap64 (x := (i : Int) + 1) (by omega) (by omega)]
          rfl)
    (fun a _ => by
      show b_S_l2Join_4 last a.1 a.2.1 a.2.2 ((allP l.length last.length P).map encS) ((allP l.length last.length P).map encS).length (allP l.length last.length P).length = _
      unfold b_S_l2Join_4
      rw [List.length_map, decide_eq_false (Int.lt_irrefl _), cond_false]) ([], 0, 0) ⟨Int.le_refl 0, Int.le_refl 0, fun hi => ⟨(h1 _ (List.getElem_mem hi)).1, (h1 _ (List.getElem_mem hi)).2.2.1⟩, Nat.le_refl 0⟩
  have hlen : P.length ≤ 40 := by
    have : (allP l.length last.length P).length = P.length + 1 := by unfold allP; simp
    omega
  have e : P.map encS ++ [((l.length : Int), ((last.length : Int), ()))] = (allP l.length last.length P).map encS := by
    unfold allP
    rw [List.map_append]
    rfl
  unfold f_S_l2Join joinL
  rw [roomB_ok (by rw [List.length_map]; simp only [List.length_cons, List.length_nil]; omega), cond_true, e]
  rw [show w_S_l2Join_4 (last, ([] : HK), 0, 0, (allP l.length last.length P).map encS, (((allP l.length last.length P).map encS).length : Int), 0, ()) = _ from hF.1, Option.bind_some]

theorem join_I {l last : TX} {P : List (Int × Int)} (hP : GPs l.length last.length P) (hl : l.length ≤ 40) (hlast : last.length ≤ 40) : f_I_between l last (P.map encI) = some ((joinL l last P, ()), ()) := by
  have hall := all_len hP
  obtain ⟨h1, h2⟩ := all_facts hP
  have hF := fix_fold (B := fun d => b_I_between_3 d.1 d.2.1 d.2.2.1 d.2.2.2.1 d.2.2.2.2.1 d.2.2.2.2.2.1 d.2.2.2.2.2.2.1) (allP l.length last.length P) (joS last)
    (fun a i => (last, a.1, a.2.1, a.2.2, (allP l.length last.length P).map encI, (((allP l.length last.length P).map encI).length : Int), (i : Int), ())) (fun a => (a.1, ())) (jInv (allP l.length last.length P))
    (fun i hi a hI => by
      refine ⟨jInv_next hP hi hI, ?_⟩
      have b := h1 _ (List.getElem_mem hi)
      obtain ⟨i1, i2, i3, i4⟩ := hI
      obtain ⟨j1, j2⟩ := i3 hi
      have hi' : i < ((allP l.length last.length P).map encI).length := by rw [List.length_map]; exact hi
      show b_I_between_3 last a.1 a.2.1 a.2.2 ((allP l.length last.length P).map encI) ((allP l.length last.length P).map encI).length i = _
      unfold b_I_between_3
      rw [decide_eq_true (by omega : (i : Int) < (((allP l.length last.length P).map encI).length : Int)), cond_true, inB_lt hi', cond_true, toNat_cast, getD_of hi', List.getElem_map]
      unfold joS
      generalize (allP l.length last.length P)[i] = x at *
      obtain ⟨x1, x2⟩ := x
      obtain ⟨out, ia, ja⟩ := a
      have e0 : inB 0 (encI (x1, x2)).length = true := rfl
      have e1 : inB 1 (encI (x1, x2)).length = true := rfl
      have g0 : (encI (x1, x2)).getD ((0 : Int).toNat) (0 : Int) = x1 := rfl
      have g1 : (encI (x1, x2)).getD ((1 : Int).toNat) (0 : Int) = x2 := rfl
      generalize encI (x1, x2) = y at *
      dsimp only at *
      have hcut : (cutL ja x2 last).length ≤ 1099511627776 := by have := cut_len (l := last) (a := ja) (b := x2); omega
      by_cases c1 : x1 > ia
      · have d1 : decide (x1 > ia) = true := decide_eq_true c1
        rw [e0, cond_true, g0]
        erw [d1]
        rw [cond_true, Option.bind_some, Bool.true_or, cond_true]
        dsimp only
        rw [cond_true, e0, e1, cond_true, cond_true, g0, g1, cutB_ok i2 j2 b.2.2.2, cond_true, clone_str _ hcut, Option.bind_some, roomB_ok (by simp only [List.length_cons, List.length_nil]; omega), cond_true, Option.bind_some]
        dsimp only
        rw [e0, e1, cond_true, cond_true, g0, g1]
        rw [wrap64 (x := x1 - ia) (by omega) (by omega), wrap64 (x := x1 + 1) (by omega) (by omega), wrap64 (x := x2 + 1) (by omega) (by omega), wrap64 (x := (i : Int) + 1) (by omega) (by omega)]
        rfl
      · have d1 : decide (x1 > ia) = false := decide_eq_false c1
        rw [e0, cond_true, g0]
        erw [d1]
        rw [cond_false, e1, cond_true, g1, Option.bind_some, Bool.false_or]
        dsimp only
        by_cases c2 : x2 > ja
        · have d2 : decide (x2 > ja) = true := decide_eq_true c2
          erw [d2]
          rw [cond_true, cond_true, e0, e1, cond_true, cond_true, g0, g1, cutB_ok i2 j2 b.2.2.2, cond_true, clone_str _ hcut, Option.bind_some, roomB_ok (by simp only [List.length_cons, List.length_nil]; omega), cond_true, Option.bind_some]
          dsimp only
          rw [e0, e1, cond_true, cond_true, g0, g1]
          rw [wrap64 (x := x1 - ia) (by omega) (by omega), wrap64 (x := x1 + 1) (by omega) (by omega), wrap64 (x := x2 + 1) (by omega) (by omega), wrap64 (x := (i : Int) + 1) (by omega) (by omega)]
          rfl
        · have d2 : decide (x2 > ja) = false := decide_eq_false c2
          erw [d2]
          rw [cond_false, cond_false, Option.bind_some]
          dsimp only
          rw [e0, e1, cond_true, cond_true, g0, g1]
          rw [wrap64 (x := x1 + 1) (by omega) (by omega), wrap64 (x := x2 + 1) (by omega) (by omega), wrap64 (x := (i : Int) + 1) (by omega) (by omega)]
          rfl)
    (fun a _ => by
      show b_I_between_3 last a.1 a.2.1 a.2.2 ((allP l.length last.length P).map encI) ((allP l.length last.length P).map encI).length (allP l.length last.length P).length = _
      unfold b_I_between_3
      rw [List.length_map, decide_eq_false (Int.lt_irrefl _), cond_false]) ([], 0, 0) ⟨Int.le_refl 0, Int.le_refl 0, fun hi => ⟨(h1 _ (List.getElem_mem hi)).1, (h1 _ (List.getElem_mem hi)).2.2.1⟩, Nat.le_refl 0⟩
  have hlen : P.length ≤ 40 := by
    have : (allP l.length last.length P).length = P.length + 1 := by unfold allP; simp
    omega
  have e : P.map encI ++ [[(l.length : Int), (last.length : Int)]] = (allP l.length last.length P).map encI := by
    unfold allP
    rw [List.map_append]
    rfl
  have ec : f_slices_Clone_sint (P.map encI) = some ((P.map encI, ()), ()) := by
    unfold f_slices_Clone_sint
    rw [roomB_ok (by rw [List.length_map]; simp only [List.length_nil]; omega)]
    rfl
  unfold f_I_between joinL
  rw [ec, Option.bind_some]
  dsimp only
  rw [roomB_ok (by rw [List.length_map]; simp only [List.length_cons, List.length_nil]; omega), cond_true, e]
  rw [show w_I_between_3 (last, ([] : HK), 0, 0, (allP l.length last.length P).map encI, (((allP l.length last.length P).map encI).length : Int), 0, ()) = _ from hF.1, Option.bind_some]
end R
end

section
/- Hunks joined: both sides answer the same. -/
open Go Go.Dn
namespace R
set_option linter.unusedVariables false

def pairL (l : TX) (a b : HK) : List (Int × Int) := SI l.length (tri a) (tri b)
def joinH (l : TX) (a b : HK) : HK := joinL l (patchL (patchL l a) b) (pairL l a b)
def twoOk (l : TX) (a b : HK) : Bool := patchOk l a && patchOk (patchL l a) b
def joinOk (l : TX) (a b : HK) : Bool := twoOk l a b && hunksP (l.length : Int) (joinH l a b)
def joinR (l : TX) (a b : HK) : HK := bif joinOk l a b then joinH l a b else []

theorem fold_cut (last : TX) : ∀ (P : List (Int × Int)) (a : HK × Int × Int), (∀ x ∈ a.1, ∃ i j, x.2.2.1 = cutL i j last) → (∀ x ∈ (P.foldl (joS last) a).1, ∃ i j, x.2.2.1 = cutL i j last) ∧ (P.foldl (joS last) a).1.length ≤ a.1.length + P.length
  | [], a, h => ⟨h, Nat.le_refl _⟩
  | y :: P, a, h => by
    have h2 : ∀ x ∈ (joS last a y).1, ∃ i j, x.2.2.1 = cutL i j last := by
      unfold joS
      cases decide (y.1 > a.2.1) || decide (y.2 > a.2.2)
      · exact h
      · intro x hx
        rcases List.mem_append.1 hx with hx | hx
        · exact h x hx
        · obtain rfl := List.mem_singleton.1 hx
          exact ⟨_, _, rfl⟩
    have h3 : (joS last a y).1.length ≤ a.1.length + 1 := by
      unfold joS
      cases decide (y.1 > a.2.1) || decide (y.2 > a.2.2)
      · show a.1.length ≤ _; omega
      · show (a.1 ++ [_]).length ≤ _
        rw [List.length_append]; simp
    obtain ⟨k1, k2⟩ := fold_cut last P _ h2
    rw [List.foldl_cons]
    exact ⟨k1, by rw [List.length_cons]; omega⟩

theorem joinL_sm {l last : TX} {P : List (Int × Int)} (hP : GPs l.length last.length P) (hl : l.length ≤ 40) (hs : Sm last) : SmH (joinL l last P) := by
  have hall := all_len hP
  obtain ⟨h1, h2⟩ := fold_cut last (allP l.length last.length P) ([], 0, 0) (fun x hx => by cases hx)
  refine ⟨?_, fun x hx => ?_⟩
  · unfold joinL
    have : ([] : HK).length = 0 := rfl
    dsimp only at h2
    omega
  · obtain ⟨i, j, e⟩ := h1 x hx
    rw [e]
    exact ⟨Nat.le_trans cut_len hs.1, fun s h => hs.2 s (cut_mem h)⟩

/-- What two good patches in turn tell. -/
theorem two_facts {l : TX} {a b : HK} (hl : Sm l) (ha : SmH a) (hb : SmH b) (h : twoOk l a b = true) : patchR l a = patchL l a ∧ patchR (patchL l a) b = patchL (patchL l a) b ∧ l.length ≤ 40 ∧ (patchL (patchL l a) b).length ≤ 40 ∧
    hunksP (l.length : Int) a = true ∧ hunksP ((patchL l a).length : Int) b = true ∧ Sm (patchL (patchL l a) b) ∧ (keptL (l.length : Int) 0 (tri a)).length = (patchL l a).length ∧ GPs l.length (patchL (patchL l a) b).length (pairL l a b) ∧
    PI (keptL (l.length : Int) 0 (tri a)) (keptL ((patchL l a).length : Int) 0 (tri b)) = pairL l a b := by
  unfold twoOk at h
  rw [Bool.and_eq_true] at h
  obtain ⟨e1, g1, k1, m1⟩ := patchR_of h.1
  obtain ⟨e2, g2, k2, m2⟩ := patchR_of h.2
  have hm : Sm (patchL l a) := by rw [← e1]; exact patchR_sm hl ha
  have hn : Sm (patchL (patchL l a) b) := by rw [← e2]; exact patchR_sm hm hb
  have hk := kept_len k1
  have hk2 := kept_len k2
  refine ⟨e1, e2, goodP_len g1, goodP_len m2, k1, k2, hn, hk, ⟨fun x hx => ?_, SI_sorted (GH_of k1) (GH_of k2) hk⟩, pairs_eq (GH_of k1) (GH_of k2) hk⟩
  have := SI_mem (GH_of k1) (GH_of k2) hk hx
  rw [hk2] at this
  exact this

theorem joinHunks_S {l : TX} {a b : HK} (hl : Sm l) (ha : SmH a) (hb : SmH b) : f_S_JoinHunks l a b = some ((joinR l a b, joinOk l a b, ()), ()) := by
  unfold f_S_JoinHunks
  rw [patch_S hl ha, Option.bind_some]
  dsimp only
  rw [patch_S (patchR_sm hl ha) hb, Option.bind_some]
  dsimp only
  cases ht : twoOk l a b with
  | false =>
    have e : joinOk l a b = false := by unfold joinOk; rw [ht]; rfl
    unfold joinR
    rw [e]
    unfold twoOk at ht
    cases h1 : patchOk l a with
    | false => rfl
    | true =>
      rw [h1, Bool.true_and] at ht
      have e1 : patchR l a = patchL l a := (patchR_of h1).1
      rw [e1, ht]
      rfl
  | true =>
    obtain ⟨e1, e2, l1, l2, k1, k2, hn, hk, hP, hPI⟩ := two_facts hl ha hb ht
    have ht' := ht
    unfold twoOk at ht'
    rw [Bool.and_eq_true] at ht'
    rw [ht'.1, e1, ht'.2, e2]
    simp only [Bool.not_true, cond_false, Option.bind_some]
    rw [stay_loop k1 k2 hk, Option.bind_some]
    dsimp only
    have hj := join_S hP l1 l2
    unfold pairL at hj
    rw [hj, Option.bind_some]
    dsimp only
    have hsm := joinL_sm hP l1 hn
    unfold pairL at hsm
    rw [hunks_S _ _ hsm (Int.natCast_nonneg _) (by omega), Option.bind_some]
    dsimp only
    unfold joinR joinOk joinH pairL
    rw [ht, Bool.true_and]
    cases hunksP (l.length : Int) (joinL l (patchL (patchL l a) b) (SI l.length (tri a) (tri b))) <;> rfl

theorem joinHunks_I {l : TX} {a b : HK} (hl : Sm l) (ha : SmH a) (hb : SmH b) : f_I_JoinHunks l a b = some ((joinR l a b, joinOk l a b, ()), ()) := by
  unfold f_I_JoinHunks
  rw [patch_I hl ha, Option.bind_some]
  dsimp only
  rw [patch_I (patchR_sm hl ha) hb, Option.bind_some]
  dsimp only
  cases ht : twoOk l a b with
  | false =>
    have e : joinOk l a b = false := by unfold joinOk; rw [ht]; rfl
    unfold joinR
    rw [e]
    unfold twoOk at ht
    cases h1 : patchOk l a with
    | false => rfl
    | true =>
      rw [h1, Bool.true_and] at ht
      have e1 : patchR l a = patchL l a := (patchR_of h1).1
      rw [e1, ht]
      rfl
  | true =>
    obtain ⟨e1, e2, l1, l2, k1, k2, hn, hk, hP, hPI⟩ := two_facts hl ha hb ht
    have ht' := ht
    unfold twoOk at ht'
    rw [Bool.and_eq_true] at ht'
    rw [ht'.1, e1, ht'.2, e2]
    simp only [Bool.not_true, cond_false, Option.bind_some]
    rw [kept_I k1, Option.bind_some]
    dsimp only
    rw [kept_I k2, Option.bind_some]
    dsimp only
    have hm40 : (patchL l a).length ≤ 40 := by have := (hunk_facts k2).2.1; omega
    have hk2 := kept_len k2
    rw [pair_loop (by omega) (by omega) (fun j hj h0 => by rw [hk]; exact (kept_at (GH_of k2) hj h0).1), Option.bind_some]
    dsimp only
    rw [hPI, join_I hP l1 l2, Option.bind_some]
    dsimp only
    have hsm := joinL_sm hP l1 hn
    rw [hunks_I _ _ hsm, Option.bind_some]
    dsimp only
    unfold joinR joinOk joinH
    rw [ht, Bool.true_and]
    cases hunksP (l.length : Int) (joinL l (patchL (patchL l a) b) (pairL l a b)) <;> rfl
end R
end

section
/- Series of which two steps are one: both sides answer the same. -/
open Go Go.Dn
namespace R
set_option linter.unusedVariables false

theorem copied_I {b : HK} (hb : b.length ≤ 20) (hn : ∀ x ∈ b, List.length x.2.2.1 ≤ 40) : f_I_copiedHunks b = some ((b, ()), ()) := by
  unfold f_I_copiedHunks copF
  rw [roomB_ok (by omega), Bool.true_and]
  have h : (b.all fun h => roomB h.2.2.1.length) = true := List.all_eq_true.2 fun x hx => roomB_ok (by have := hn x hx; omega)
  erw [h]
  rfl

theorem ownH_S {b : HK} (hb : b.length ≤ 20) (hn : ∀ x ∈ b, List.length x.2.2.1 ≤ 40) : f_S_l13OwnH b = some ((b, ()), ()) := by
  have hF := fix_all (B := fun d => b_S_l13OwnH_3 d.1 d.2.1 d.2.2.1 d.2.2.2.1) (fun i => (b.take i, b, (b.length : Int), (i : Int), ())) b.length (r := (b, ()))
    (fun i hi => by
      have hx := hn _ (List.getElem_mem hi)
      show b_S_l13OwnH_3 (b.take i) b b.length i = _
      unfold b_S_l13OwnH_3
      rw [decide_eq_true (by omega : (i : Int) < (b.length : Int)), cond_true, inB_lt hi, cond_true, toNat_cast, getD_of hi, own_S _ (by omega), Option.bind_some]
      dsimp only
      rw [roomB_ok (by rw [List.length_take, List.length_cons, List.length_nil]; omega), cond_true, wrap64 (x := (i : Int) + 1) (by omega) (by omega)]
      show some (Sum.inl (b.take i ++ [b[i]], b, (b.length : Int), ((i : Int) + 1), ())) = _
      rw [List.take_append_getElem hi]
      rfl)
    (by
      show b_S_l13OwnH_3 (b.take b.length) b b.length b.length = _
      unfold b_S_l13OwnH_3
      rw [decide_eq_false (Int.lt_irrefl _), cond_false, List.take_length])
  unfold f_S_l13OwnH
  rw [show w_S_l13OwnH_3 ([], b, (b.length : Int), 0, ()) = _ from hF, Option.bind_some]


theorem scan_good : ∀ {hs : List HK} {l : TX} {ts : List TX}, scanP l hs = some ts → ∀ h ∈ hs, h.length ≤ 20 ∧ ∀ x ∈ h, List.length x.2.2.1 ≤ 40
  | [], _, _, _, h, hh => by cases hh
  | x :: hs, l, ts, h, y, hy => by
    simp only [scanP] at h
    split at h
    · rename_i hp
      rw [Option.map_eq_some_iff] at h
      obtain ⟨us, h1, rfl⟩ := h
      rcases List.mem_cons.1 hy with rfl | hy
      · obtain ⟨_, _, g2, _⟩ := patchR_of hp
        refine ⟨(hunk_facts g2).2.2.1, fun x hx => ?_⟩
        obtain ⟨i, hi, rfl⟩ := List.mem_iff_getElem.1 hx
        exact (hunk_at g2 hi).2.2.2.2.2.1
      · exact scan_good h1 y hy
    · cases h

theorem ser_own_S {s : PV Y_impl_Series} (h1 : List.length s.1 ≤ 40) (h2 : List.length s.2.1 < 8) (h3 : ∀ h ∈ (s.2.1 : List HK), h.length ≤ 20 ∧ ∀ x ∈ h, List.length x.2.2.1 ≤ 40) : f_S_l13Own s = some ((s, ()), ()) := by
  obtain ⟨f, st, u⟩ := s
  replace h1 : List.length f ≤ 40 := h1
  replace h2 : List.length st < 8 := h2
  replace h3 : ∀ h ∈ st, h.length ≤ 20 ∧ ∀ x ∈ h, List.length x.2.2.1 ≤ 40 := h3
  have hF := fix_all (B := fun d => b_S_l13Own_3 d.1 d.2.1 d.2.2.1 d.2.2.2.1 d.2.2.2.2.1) (fun i => ((([] : TX), (([] : List HK), ())), (f, (st.take i, ())), st, (List.length st : Int), (i : Int), ())) (List.length st) (r := ((([] : TX), (([] : List HK), ())), (f, (st, ())), ()))
    (fun i hi => by
      obtain ⟨q1, q2⟩ := h3 _ (List.getElem_mem hi)
      show b_S_l13Own_3 (([] : TX), (([] : List HK), ())) (f, (st.take i, ())) st (List.length st) i = _
      unfold b_S_l13Own_3
      rw [decide_eq_true (by omega : (i : Int) < (List.length st : Int)), cond_true, inB_lt hi, cond_true, toNat_cast, getD_of hi, ownH_S q1 q2, Option.bind_some]
      dsimp only
      rw [roomB_ok (by rw [List.length_take, List.length_cons, List.length_nil]; omega), cond_true, wrap64 (x := (i : Int) + 1) (by omega) (by omega), List.take_append_getElem hi]
      rfl)
    (by
      show b_S_l13Own_3 (([] : TX), (([] : List HK), ())) (f, (st.take (List.length st), ())) st (List.length st) (List.length st) = _
      unfold b_S_l13Own_3
      rw [decide_eq_false (Int.lt_irrefl _), cond_false, List.take_length])
  unfold f_S_l13Own
  rw [own_S f (by omega), Option.bind_some]
  dsimp only
  rw [show w_S_l13Own_3 ((([] : TX), (([] : List HK), ())), (f, (([] : List HK), ())), st, (List.length st : Int), 0, ()) = _ from hF, Option.bind_some]

theorem ser_own_I {s : PV Y_impl_Series} (h1 : List.length s.1 ≤ 40) (h2 : List.length s.2.1 < 8) (h3 : ∀ h ∈ (s.2.1 : List HK), h.length ≤ 20 ∧ ∀ x ∈ h, List.length x.2.2.1 ≤ 40) : f_I_Series_copied s = some ((s, ()), ()) := by
  obtain ⟨f, st, u⟩ := s
  replace h1 : List.length f ≤ 40 := h1
  replace h2 : List.length st < 8 := h2
  replace h3 : ∀ h ∈ st, h.length ≤ 20 ∧ ∀ x ∈ h, List.length x.2.2.1 ≤ 40 := h3
  have hF := fix_all (B := fun d => b_I_Series_copied_3 d.1 d.2.1 d.2.2.1 d.2.2.2.1 d.2.2.2.2.1) (fun i => ((([] : TX), (([] : List HK), ())), (f, (st.take i, ())), st, (List.length st : Int), (i : Int), ())) (List.length st) (r := ((([] : TX), (([] : List HK), ())), (f, (st, ())), ()))
    (fun i hi => by
      obtain ⟨q1, q2⟩ := h3 _ (List.getElem_mem hi)
      show b_I_Series_copied_3 (([] : TX), (([] : List HK), ())) (f, (st.take i, ())) st (List.length st) i = _
      unfold b_I_Series_copied_3
      rw [decide_eq_true (by omega : (i : Int) < (List.length st : Int)), cond_true, inB_lt hi, cond_true, toNat_cast, getD_of hi, copied_I q1 q2, Option.bind_some]
      dsimp only
      rw [roomB_ok (by rw [List.length_take, List.length_cons, List.length_nil]; omega), cond_true, wrap64 (x := (i : Int) + 1) (by omega) (by omega), List.take_append_getElem hi]
      rfl)
    (by
      show b_I_Series_copied_3 (([] : TX), (([] : List HK), ())) (f, (st.take (List.length st), ())) st (List.length st) (List.length st) = _
      unfold b_I_Series_copied_3
      rw [decide_eq_false (Int.lt_irrefl _), cond_false, List.take_length])
  unfold f_I_Series_copied
  rw [clone_str f (by omega), Option.bind_some]
  dsimp only
  rw [show w_I_Series_copied_3 ((([] : TX), (([] : List HK), ())), (f, (([] : List HK), ())), st, (List.length st : Int), 0, ()) = _ from hF, Option.bind_some]

theorem at_S {s : PV Y_impl_Series} (hs : SmSer s) {k : Nat} (hk : k ≤ List.length s.2.1) {ts : List TX} (hts : scanP s.1 s.2.1 = some ts) (hg : goodP s.1 = true) : f_S_l13At s k = some ((ts.getD k [], ()), ()) := by
  have hcut : cutL 0 (k : Int) s.2.1 = List.take k s.2.1 := by unfold cutL; simp
  have hgl := goodP_len hg
  obtain ⟨t, h3, h4⟩ := at_loop (all := List.take k s.2.1) (by have := hs.2.1; simp; omega) (List.take k s.2.1) 0 s.1 _ (by simp) (scan_take hts k hk) hs.1 (fun h hh => hs.2.2 h (List.mem_of_mem_take hh))
  unfold f_S_l13At
  rw [own_S s.1 (by have : List.length s.1 ≤ 40 := hgl; omega), Option.bind_some]
  dsimp only
  rw [cutB_ok (Int.le_refl 0) (Int.natCast_nonneg k) (by omega), hcut, cond_true]
  rw [show w_S_l13At_3 (s.1, List.take k s.2.1, (List.length (List.take k s.2.1) : Int), 0, ()) = _ from h3]
  have ht : ts.getD k [] = t := by
    rw [List.length_take, Nat.min_eq_left hk, List.getElem?_take, if_pos (Nat.lt_succ_self k)] at h4
    rw [List.getD_eq_getElem?_getD, h4]
    rfl
  rw [ht]
  rfl

def stp (s : PV Y_impl_Series) (k : Nat) : HK := (s.2.1 : List HK).getD k []
def sqText (s : PV Y_impl_Series) (k : Nat) : TX := (textsR (s.1, s.2.1)).getD k []
def sqOk (s : PV Y_impl_Series) (n : Int) : Bool := seriesP (s.1, s.2.1) && ((decide (n ≥ 0) && decide (n ≤ (List.length s.2.1 : Int) - 2)) && joinOk (sqText s n.toNat) (stp s n.toNat) (stp s (n.toNat + 1)))
def sqH (s : PV Y_impl_Series) (n : Int) : HK := joinR (sqText s n.toNat) (stp s n.toNat) (stp s (n.toNat + 1))
def sqR (s : PV Y_impl_Series) (n : Int) : PV Y_impl_Series := bif sqOk s n then (s.1, ((s.2.1 : List HK).take n.toNat ++ ([sqH s n] ++ (s.2.1 : List HK).drop (n.toNat + 2)), ())) else ([], ([], ()))

theorem sq_facts {s : PV Y_impl_Series} (hs : SmSer s) (h : seriesP (s.1, s.2.1) = true) {k : Nat} (hk : k + 2 ≤ List.length s.2.1) : ∃ ts, scanP s.1 s.2.1 = some ts ∧ textsR (s.1, s.2.1) = ts ∧ ts.length = List.length s.2.1 + 1 ∧ goodP s.1 = true ∧ List.length s.2.1 < 8 ∧
    (∀ h ∈ (s.2.1 : List HK), h.length ≤ 20 ∧ ∀ x ∈ h, List.length x.2.2.1 ≤ 40) ∧ Sm (ts.getD k []) ∧ SmH (stp s k) ∧ SmH (stp s (k + 1)) := by
  obtain ⟨hg, h2, ts, hts, e, hl⟩ := series_facts h
  obtain ⟨t, h3, h4⟩ := scan_at hts k (by show k ≤ List.length s.2.1; omega)
  have ht : ts.getD k [] = t := by rw [List.getD_eq_getElem?_getD, h3]; rfl
  refine ⟨ts, hts, e, hl, hg, h2, scan_good hts, ?_, ?_, ?_⟩
  · rw [ht]
    exact Sm.of (goodP_tot (h4 hg)) (by omega)
  · unfold stp
    rw [getD_of (show k < List.length s.2.1 by omega)]
    exact hs.2.2 _ (List.getElem_mem _)
  · unfold stp
    rw [getD_of (show k + 1 < List.length s.2.1 by omega)]
    exact hs.2.2 _ (List.getElem_mem _)

theorem inB_nat {k n : Nat} (h : k < n) : inB (k : Int) n = true := inB_lt h

theorem squash_I {s : PV Y_impl_Series} {n : Int} (hs : SmSer s) : f_I_SquashAt s n = some ((sqR s n, sqOk s n, ()), ()) := by
  unfold f_I_SquashAt sqR sqOk
  rw [texts_I hs, Option.bind_some]
  dsimp only
  cases h : seriesP (s.1, s.2.1)
  · rfl
  · have h8 : List.length s.2.1 < 8 := (series_facts h).2.1
    rw [Bool.not_true, cond_false, wrap64 (x := (List.length s.2.1 : Int) - 2) (by omega) (by omega), in_I, Option.bind_some, Option.bind_some, Bool.true_and]
    dsimp only
    by_cases hn : 0 ≤ n ∧ n ≤ (List.length s.2.1 : Int) - 2
    · obtain ⟨k, rfl⟩ := Int.eq_ofNat_of_zero_le hn.1
      have hk : k + 2 ≤ List.length s.2.1 := by omega
      obtain ⟨ts, hts, e, hl, hg, _, hgood, sm1, sm2, sm3⟩ := sq_facts hs h hk
      rw [decide_eq_true (by omega : (k : Int) ≥ 0), decide_eq_true (by omega : (k : Int) ≤ (List.length s.2.1 : Int) - 2)]
      simp only [Bool.and_true, Bool.true_and, Bool.not_true, cond_false]
      unfold sqH sqText
      rw [e, wrap64 (x := (k : Int) + 1) (by omega) (by omega), wrap64 (x := (k : Int) + 2) (by omega) (by omega), show (k : Int) + 1 = ((k + 1 : Nat) : Int) by omega]
      rw [inB_nat (show k < ts.length by omega), inB_nat (show k < List.length s.2.1 by omega), inB_nat (show k + 1 < List.length s.2.1 by omega)]
      simp only [cond_true, toNat_cast]
      have hJ : f_I_JoinHunks (ts.getD k []) (List.getD s.2.1 k []) (List.getD s.2.1 (k + 1) []) = some ((joinR (ts.getD k []) (stp s k) (stp s (k + 1)), joinOk (ts.getD k []) (stp s k) (stp s (k + 1)), ()), ()) := joinHunks_I sm1 sm2 sm3
      rw [hJ, Option.bind_some]
      dsimp only
      cases hj : joinOk (ts.getD k []) (stp s k) (stp s (k + 1))
      · rfl
      · rw [Bool.not_true, cond_false, ser_own_I (goodP_len hg) h8 hgood, Option.bind_some]
        dsimp only
        have er : f_slices_Replace_Hunk s.2.1 (k : Int) ((k : Int) + 2) [joinR (ts.getD k []) (stp s k) (stp s (k + 1))] = some (((s.2.1 : List HK).take k ++ ([joinR (ts.getD k []) (stp s k) (stp s (k + 1))] ++ (s.2.1 : List HK).drop (k + 2)), ()), ()) := by
          unfold f_slices_Replace_Hunk replF
          dsimp only
          rw [decide_eq_true (by omega : (0 : Int) ≤ (k : Int)), decide_eq_true (by omega : (k : Int) + 2 ≤ (List.length s.2.1 : Int)), decide_eq_true (by omega : List.length s.2.1 ≤ 1099511627776)]
          simp only [decide_true, Bool.and_true, cond_true, toNat_cast]
          rw [show ((k : Int) + 2).toNat = k + 2 by omega]
        rw [er, Option.bind_some]
        rfl
    · have e : (decide (n ≥ 0) && decide (n ≤ (List.length s.2.1 : Int) - 2)) = false := by
        simp only [Bool.and_eq_false_iff, decide_eq_false_iff_not]
        omega
      rw [e]
      rfl

theorem squash_S {s : PV Y_impl_Series} {n : Int} (hs : SmSer s) : f_S_SquashAt s n = some ((sqR s n, sqOk s n, ()), ()) := by
  unfold f_S_SquashAt sqR sqOk
  rw [goodSeries_S hs, Option.bind_some]
  dsimp only
  cases h : seriesP (s.1, s.2.1)
  · rfl
  · have h8 : List.length s.2.1 < 8 := (series_facts h).2.1
    rw [Bool.not_true, cond_false, wrap64 (x := (List.length s.2.1 : Int) - 2) (by omega) (by omega), in_S, Option.bind_some, Option.bind_some, Bool.true_and]
    dsimp only
    by_cases hn : 0 ≤ n ∧ n ≤ (List.length s.2.1 : Int) - 2
    · obtain ⟨k, rfl⟩ := Int.eq_ofNat_of_zero_le hn.1
      have hk : k + 2 ≤ List.length s.2.1 := by omega
      obtain ⟨ts, hts, e, hl, hg, _, hgood, sm1, sm2, sm3⟩ := sq_facts hs h hk
      rw [decide_eq_true (by omega : (k : Int) ≥ 0), decide_eq_true (by omega : (k : Int) ≤ (List.length s.2.1 : Int) - 2)]
      simp only [Bool.and_true, Bool.true_and, Bool.not_true, cond_false]
      unfold sqH sqText
      rw [at_S hs (by omega) hts hg, Option.bind_some]
      dsimp only
      rw [e, wrap64 (x := (k : Int) + 1) (by omega) (by omega), wrap64 (x := (k : Int) + 2) (by omega) (by omega), show (k : Int) + 1 = ((k + 1 : Nat) : Int) by omega]
      rw [inB_nat (show k < List.length s.2.1 by omega), inB_nat (show k + 1 < List.length s.2.1 by omega)]
      simp only [cond_true, toNat_cast]
      have hJ : f_S_JoinHunks (ts.getD k []) (List.getD s.2.1 k []) (List.getD s.2.1 (k + 1) []) = some ((joinR (ts.getD k []) (stp s k) (stp s (k + 1)), joinOk (ts.getD k []) (stp s k) (stp s (k + 1)), ()), ()) := joinHunks_S sm1 sm2 sm3
      rw [hJ, Option.bind_some]
      dsimp only
      cases hj : joinOk (ts.getD k []) (stp s k) (stp s (k + 1))
      · rfl
      · rw [Bool.not_true, cond_false, ser_own_S (goodP_len hg) h8 hgood, Option.bind_some]
        dsimp only
        have c1 : cutL 0 (k : Int) s.2.1 = List.take k s.2.1 := by unfold cutL; simp
        have c2 : cutL ((k : Int) + 2) (List.length s.2.1 : Int) s.2.1 = List.drop (k + 2) s.2.1 := by
          unfold cutL
          rw [toNat_cast, List.take_length, show ((k : Int) + 2).toNat = k + 2 by omega]
        have hd : (List.drop (k + 2) s.2.1).length ≤ 8 := by rw [List.length_drop]; omega
        have ht : (List.take k s.2.1).length ≤ 8 := by rw [List.length_take]; omega
        rw [cutB_ok (Int.le_refl 0) (Int.natCast_nonneg k) (by omega), cutB_ok (by omega : (0 : Int) ≤ (k : Int) + 2) (by omega) (Int.le_refl _), c1, c2]
        rw [roomB_ok (by simp only [List.length_nil]; omega), roomB_ok (by rw [List.nil_append]; simp only [List.length_cons, List.length_nil]; omega), roomB_ok (by rw [List.nil_append, List.length_append]; simp only [List.length_cons, List.length_nil]; omega)]
        simp only [cond_true]
        rw [List.nil_append, List.append_assoc]
    · have e : (decide (n ≥ 0) && decide (n ≤ (List.length s.2.1 : Int) - 2)) = false := by
        simp only [Bool.and_eq_false_iff, decide_eq_false_iff_not]
        omega
      rw [e]
      rfl
end R
end

section
/- SquashAt: the law answers true at every call. -/
open Go Go.Dn
namespace R
set_option linter.unusedVariables false

theorem linesP_tot {l : TX} (h : linesP l = true) : tot S_string l ≤ 1240 := by
  have hl := linesP_len h
  unfold linesP at h
  simp only [Bool.and_eq_true, decide_eq_true_eq, Bool.not_eq_true'] at h
  have h2 : ∀ s ∈ l, tot .str s ≤ 30 := fun s hs => by
    rw [tot_str]
    have := List.any_eq_false.1 h.2 s hs
    exact (line_len (by simpa using this)).2
  rw [show tot S_string l = l.length + (l.map (tot .str)).sum from tot_slice]
  have h3 : ∀ (l : TX), (∀ s ∈ l, tot .str s ≤ 30) → (l.map (tot .str)).sum ≤ 30 * l.length := by
    intro l
    induction l with
    | nil => intro _; simp
    | cons s l ih =>
      intro h
      have h4 := h s (List.mem_cons_self ..)
      have h5 := ih fun y hy => h y (List.mem_cons_of_mem _ hy)
      simp only [List.map_cons, List.sum_cons, List.length_cons]
      rw [Nat.mul_add]
      omega
  have := h3 l h2
  omega


theorem p_L_markSeries (t0 : PV Y_impl_Series) (k : Int) (h0 : 0 ≤ k) (h1 : k + (cn Y_impl_Series t0 : Nat) ≤ 4611686018427387904) (hs : tot Y_impl_Series t0 ≤ 4611686018427387904) :
    f_L_markSeries t0 k = some (((mk tx S_S_impl_Hunk t0.2.1 (mk tx S_string t0.1 k).2).2, ()), (((mk tx S_string t0.1 k).1, ((mk tx S_S_impl_Hunk t0.2.1 (mk tx S_string t0.1 k).2).1, ())), ())) := by
  have hc : cn Y_impl_Series t0 = cn S_string t0.1 + (cn S_S_impl_Hunk t0.2.1 + 0) := rfl
  have ht : tot Y_impl_Series t0 = tot S_string t0.1 + (tot S_S_impl_Hunk t0.2.1 + 0) := rfl
  have m := mk_cn tx S_string t0.1 k
  unfold f_L_markSeries mserF
  rw [p_L_markStringS t0.1 k h0 (by omega) (by omega), Option.bind_some]
  dsimp only
  rw [p_L_markHunkSS t0.2.1 _ (by omega) (by omega) (by omega), Option.bind_some]

theorem sum_take_drop : ∀ (l : List Nat) (i j : Nat), i ≤ j → (l.take i).sum + (l.drop j).sum ≤ l.sum := by
  intro l i j hij
  have e : l.sum = (l.take i).sum + ((l.drop i).sum) := by rw [← List.sum_append, List.take_append_drop]
  have e2 : (l.drop i).sum = ((l.drop i).take (j - i)).sum + (l.drop j).sum := by
    have : l.drop j = (l.drop i).drop (j - i) := by rw [List.drop_drop]; congr 1; omega
    rw [this, ← List.sum_append, List.take_append_drop]
  omega

theorem tot_repl (st : List HK) (h : HK) (i j : Nat) (hij : i ≤ j) : tot S_S_impl_Hunk (st.take i ++ ([h] ++ st.drop j)) ≤ tot S_S_impl_Hunk st + (tot S_impl_Hunk h + 1) := by
  rw [show tot S_S_impl_Hunk (st.take i ++ ([h] ++ st.drop j)) = (st.take i ++ ([h] ++ st.drop j)).length + ((st.take i ++ ([h] ++ st.drop j)).map (tot S_impl_Hunk)).sum from tot_slice, show tot S_S_impl_Hunk st = st.length + (st.map (tot S_impl_Hunk)).sum from tot_slice]
  have h1 := sum_take_drop (st.map (tot S_impl_Hunk)) i j hij
  rw [← List.map_take, ← List.map_drop] at h1
  simp only [List.map_append, List.sum_append, List.map_cons, List.map_nil, List.sum_cons, List.sum_nil, List.length_append, List.length_cons, List.length_nil, List.length_take, List.length_drop]
  omega

theorem join_tot (l : TX) (a b : HK) : tot S_impl_Hunk (joinR l a b) ≤ 30000 := by
  unfold joinR
  cases hj : joinOk l a b with
  | false => exact Nat.zero_le _
  | true =>
    unfold joinOk at hj
    rw [Bool.and_eq_true] at hj
    obtain ⟨f1, f2, f3, f4⟩ := hunk_facts hj.2
    have hb : ∀ x ∈ joinH l a b, tot Y_impl_Hunk x ≤ 1240 := fun x hx => by
      obtain ⟨i, hi, rfl⟩ := List.mem_iff_getElem.1 hx
      have h5 := (f4 i hi).2.2.2.2.2.1
      rw [getD_of hi] at h5
      have e : tot Y_impl_Hunk (joinH l a b)[i] = 0 + (0 + (tot S_string (joinH l a b)[i].2.2.1 + 0)) := rfl
      have := linesP_tot h5
      omega
    show tot S_impl_Hunk (joinH l a b) ≤ 30000
    rw [show tot S_impl_Hunk (joinH l a b) = (joinH l a b).length + ((joinH l a b).map (tot Y_impl_Hunk)).sum from tot_slice]
    have h3 : ∀ (h : HK), (∀ x ∈ h, tot Y_impl_Hunk x ≤ 1240) → (h.map (tot Y_impl_Hunk)).sum ≤ 1240 * h.length := by
      intro h
      induction h with
      | nil => intro _; simp
      | cons s l ih =>
        intro h
        have h4 := h s (List.mem_cons_self ..)
        have h5 := ih fun y hy => h y (List.mem_cons_of_mem _ hy)
        simp only [List.map_cons, List.sum_cons, List.length_cons]
        rw [Nat.mul_add]
        omega
    have := h3 _ hb
    omega

theorem sqR_tot (s : PV Y_impl_Series) (n : Int) : tot Y_impl_Series (sqR s n) ≤ tot Y_impl_Series s + 30001 := by
  unfold sqR
  cases sqOk s n with
  | false => exact Nat.zero_le _
  | true =>
    have h1 := tot_repl s.2.1 (sqH s n) n.toNat (n.toNat + 2) (by omega)
    have h2 : tot S_impl_Hunk (sqH s n) ≤ 30000 := join_tot _ _ _
    show tot S_string s.1 + (tot S_S_impl_Hunk ((s.2.1 : List HK).take n.toNat ++ ([sqH s n] ++ (s.2.1 : List HK).drop (n.toNat + 2))) + 0) ≤ (tot S_string s.1 + (tot S_S_impl_Hunk s.2.1 + 0)) + 30001
    omega

theorem law_SquashAt (t0 : PV Y_laws_Series) (t1 : PV (.int .i64)) (hw : WfV Y_laws_Series t0) (_ : WfV (.int .i64) t1) : f_L_FnExactSquashAt t0 t1 = some ((true, ()), ()) := by
  unfold f_L_FnExactSquashAt
  rw [p_L_szSeries t0 1048576 (by omega) (by omega) hw, Option.bind_some]
  by_cases hs : ((tot Y_laws_Series t0 : Nat) : Int) ≤ 1048576
  · rw [szR_pos hs]
    dsimp only
    have hs' : tot Y_laws_Series t0 ≤ 1048576 := by omega
    have hb : tot Y_impl_Series t0 ≤ 1048576 := hs'
    have hS := SmSer.of (s := t0) hb (by omega)
    have hR := sqR_tot t0 t1
    have hI := squash_I (n := t1) hS
    have hSp := squash_S (n := t1) hS
    obtain ⟨r, hr⟩ : ∃ r, r = sqR t0 t1 := ⟨_, rfl⟩
    obtain ⟨q, hq⟩ : ∃ q, q = sqOk t0 t1 := ⟨_, rfl⟩
    rw [← hr, ← hq] at hI hSp
    rw [← hr] at hR
    clear hr hq
    have c1 : cn Y_impl_Series t0 ≤ 0 + 5 * tot Y_impl_Series t0 := cn_tot_le (by decide) (by decide)
    have c2 : cn Y_impl_Series r ≤ 0 + 5 * tot Y_impl_Series r := cn_tot_le (by decide) (by decide)
    have m0 := mk_cn tx S_string t0.1 1
    have m1 := mk_cn tx S_S_impl_Hunk t0.2.1 (mk tx S_string t0.1 1).2
    have m2 := mk_cn tx S_string r.1 1
    have m3 := mk_cn tx S_S_impl_Hunk r.2.1 (mk tx S_string r.1 1).2
    rw [decide_eq_false (by omega : ¬ ((1048576 : Int) - ((tot Y_laws_Series t0 : Nat) : Int) < 0)), cond_false]
    simp only [p_L_toSeries t0 hs', hI, hSp, Option.bind_some, p_L_eqSeries t0 (by omega), p_L_eqSeries r (by omega), p_L_markSeries t0 1 (by omega) (by omega) (by omega), p_L_markSeries r 1 (by omega) (by omega) (by omega), p_L_heldSeries r 1 (by omega) (by omega) (by omega),
      decide_eq_false (by omega : ¬ (mk tx S_S_impl_Hunk t0.2.1 (mk tx S_string t0.1 1).2).2 < 0), decide_eq_false (by omega : ¬ (mk tx S_S_impl_Hunk r.2.1 (mk tx S_string r.1 1).2).2 < 0), beq_self_eq_true, Bool.not_true, cond_false]
  · rw [szR_neg hs]; rfl
end R
end
