/- Plain laws of the law's helpers. -/
import Derived.Test.YthcnbokoghjkjaaPaU
import Derived.Test.YthcnbokoghjkjaaGd
open Go Go.Dn
namespace R
set_option linter.unusedVariables false
theorem p_L_szRow (t0 : PV Y_impl_Row) (L : Int) (h0 : 0 ≤ L) (h1 : L ≤ 1048576) (hw : WfV Y_impl_Row t0) : f_L_szRow t0 L = some ((szR (tot Y_impl_Row t0) L, ()), ()) := by
  unfold f_L_szRow
  have q1 : (t0.2.1).length ≤ 9223372036854775807 := hw.2.1
  rw [wrap64 (x := L - ((t0.2.1).length : Int)) (by omega) (by omega)]
  by_cases c1 : (((t0.2.1).length : Nat) : Int) ≤ L
  · (try dsimp only); rw [decide_eq_false (by omega : ¬ (L - (((t0.2.1).length : Nat) : Int) < 0)), cond_false]
    rw [szR_pos (by simp only [tot] at *; omega)]
    refine congrArg (fun (z : Int) => some ((z, ()), ())) ?_
    simp only [tot] at *; omega
  · rw [decide_eq_true (by omega : L - (((t0.2.1).length : Nat) : Int) < 0), cond_true, szR_neg (by simp only [tot] at *; omega)]

theorem p_L_szRowS (t0 : PV S_laws_Row) (L : Int) (h0 : 0 ≤ L) (h1 : L ≤ 1048576) (hw : WfV S_laws_Row t0) : f_L_szRowS t0 L = some ((szR (tot S_laws_Row t0) L, ()), ()) := by
  have hl : List.length t0 ≤ 9223372036854775807 := hw.1
  unfold f_L_szRowS
  rw [wrap64 (by omega) (by omega)]
  by_cases hc : (t0.length : Int) ≤ L
  · rw [decide_eq_false (by omega : ¬ (L - (t0.length : Int) < 0)), cond_false, show w_L_szRowS_5 (t0, L - (t0.length : Int), 0, ()) = _ from sz_loop (T := Y_impl_Row) (xs := t0) (B := fun d => b_L_szRowS_5 d.1 d.2.1 d.2.2.1) (fun i hi l g0 g1 => by
      show b_L_szRowS_5 t0 l i = _
      generalize hxs : t0 = xs at *
      have hi' : (i : Int) < (xs.length : Int) := by omega
      unfold b_L_szRowS_5
      rw [decide_eq_true hi', cond_true, inB_lt hi, cond_true, toNat_cast, getD_of hi]
      rw [p_L_szRow _ l g0 g1 (hw.2 _ (List.getElem_mem hi)), Option.bind_some, wrap64 (x := (i : Int) + 1) (by omega) (by omega)]
      by_cases hq : ((tot Y_impl_Row xs[i] : Nat) : Int) ≤ l
      · rw [if_pos hq, szR_pos hq]; dsimp only; rw [decide_eq_false (by omega : ¬ (l - ((tot Y_impl_Row xs[i] : Nat) : Int) < 0)), cond_false]
      · rw [if_neg hq, szR_neg hq]; rfl) (fun l => by
      show b_L_szRowS_5 t0 l t0.length = _
      unfold b_L_szRowS_5
      rw [decide_eq_false (Int.lt_irrefl _), cond_false]) (by omega) (by omega)]
    exact sz_out hc tot_slice
  · rw [decide_eq_true (by omega : L - (t0.length : Int) < 0), cond_true, szR_neg (by rw [tot_slice]; omega)]

theorem p_L_szGroup (t0 : PV Y_laws_Group) (L : Int) (h0 : 0 ≤ L) (h1 : L ≤ 1048576) (hw : WfV Y_laws_Group t0) : f_L_szGroup t0 L = some ((szR (tot Y_laws_Group t0) L, ()), ()) := by
  unfold f_L_szGroup
  rw [p_L_szRowS _ L (by omega) (by omega) hw.2.2.1, Option.bind_some]
  by_cases c2 : ((tot S_laws_Row t0.2.2.1 : Nat) : Int) ≤ L
  · rw [szR_pos c2]; (try dsimp only); rw [decide_eq_false (by omega : ¬ (L - ((tot S_laws_Row t0.2.2.1 : Nat) : Int) < 0)), cond_false]
    rw [szR_pos (by simp only [tot] at *; omega)]
    refine congrArg (fun (z : Int) => some ((z, ()), ())) ?_
    simp only [tot] at *; omega
  · rw [szR_neg c2]; rw [szR_neg (by simp only [tot] at *; omega)]; rfl

theorem p_L_szGroupS (t0 : PV S_laws_Group) (L : Int) (h0 : 0 ≤ L) (h1 : L ≤ 1048576) (hw : WfV S_laws_Group t0) : f_L_szGroupS t0 L = some ((szR (tot S_laws_Group t0) L, ()), ()) := by
  have hl : List.length t0 ≤ 9223372036854775807 := hw.1
  unfold f_L_szGroupS
  rw [wrap64 (by omega) (by omega)]
  by_cases hc : (t0.length : Int) ≤ L
  · rw [decide_eq_false (by omega : ¬ (L - (t0.length : Int) < 0)), cond_false, show w_L_szGroupS_5 (t0, L - (t0.length : Int), 0, ()) = _ from sz_loop (T := Y_laws_Group) (xs := t0) (B := fun d => b_L_szGroupS_5 d.1 d.2.1 d.2.2.1) (fun i hi l g0 g1 => by
      show b_L_szGroupS_5 t0 l i = _
      generalize hxs : t0 = xs at *
      have hi' : (i : Int) < (xs.length : Int) := by omega
      unfold b_L_szGroupS_5
      rw [decide_eq_true hi', cond_true, inB_lt hi, cond_true, toNat_cast, getD_of hi]
      rw [p_L_szGroup _ l g0 g1 (hw.2 _ (List.getElem_mem hi)), Option.bind_some, wrap64 (x := (i : Int) + 1) (by omega) (by omega)]
      by_cases hq : ((tot Y_laws_Group xs[i] : Nat) : Int) ≤ l
      · rw [if_pos hq, szR_pos hq]; dsimp only; rw [decide_eq_false (by omega : ¬ (l - ((tot Y_laws_Group xs[i] : Nat) : Int) < 0)), cond_false]
      · rw [if_neg hq, szR_neg hq]; rfl) (fun l => by
      show b_L_szGroupS_5 t0 l t0.length = _
      unfold b_L_szGroupS_5
      rw [decide_eq_false (Int.lt_irrefl _), cond_false]) (by omega) (by omega)]
    exact sz_out hc tot_slice
  · rw [decide_eq_true (by omega : L - (t0.length : Int) < 0), cond_true, szR_neg (by rw [tot_slice]; omega)]

theorem p_L_toRow (t0 : PV Y_impl_Row) (hs : tot Y_impl_Row t0 ≤ 1048576) : f_L_toRow t0 = some ((t0, ()), ()) := by
  unfold f_L_toRow
  simp only [tot] at hs
  rfl

theorem p_L_toRowS (t0 : PV S_laws_Row) (hs : tot S_laws_Row t0 ≤ 1048576) : f_L_toRowS t0 = some ((t0, ()), ()) := by
  unfold f_L_toRowS
  have hl : List.length t0 ≤ 1048576 := Nat.le_trans (Nat.le_add_right _ _) (tot_slice ▸ hs)
  rw [room_len (by omega), cond_true, toNat_cast]
  rw [show w_L_toRowS_3 (t0, List.replicate t0.length _, 0, ()) = _ from to_loop (xs := t0) t0 (B := lp_L_toRowS_3.B) rfl (fun i hi acc ha => by
      show b_L_toRowS_3 t0 acc i = _
      unfold b_L_toRowS_3
      have hi' : (i : Int) < (t0.length : Int) := by omega
      rw [decide_eq_true hi', cond_true, inB_lt hi, cond_true, toNat_cast, getD_of hi]
      rw [p_L_toRow _ (Nat.le_trans (tot_mem hi) hs), Option.bind_some, inB_lt (by omega), cond_true, wrap64 (by omega) (by omega)]) (fun acc => by
      show b_L_toRowS_3 t0 acc t0.length = _
      unfold b_L_toRowS_3
      rw [decide_eq_false (Int.lt_irrefl _), cond_false])]
  rfl

theorem p_L_toGroup (t0 : PV Y_laws_Group) (hs : tot Y_laws_Group t0 ≤ 1048576) : f_L_toGroup t0 = some ((t0, ()), ()) := by
  unfold f_L_toGroup
  simp only [tot] at hs
  rw [p_L_toRowS t0.2.2.1 (by simp only [tot]; omega), Option.bind_some]

theorem p_L_toGroupS (t0 : PV S_laws_Group) (hs : tot S_laws_Group t0 ≤ 1048576) : f_L_toGroupS t0 = some ((t0, ()), ()) := by
  unfold f_L_toGroupS
  have hl : List.length t0 ≤ 1048576 := Nat.le_trans (Nat.le_add_right _ _) (tot_slice ▸ hs)
  rw [room_len (by omega), cond_true, toNat_cast]
  rw [show w_L_toGroupS_3 (t0, List.replicate t0.length _, 0, ()) = _ from to_loop (xs := t0) t0 (B := lp_L_toGroupS_3.B) rfl (fun i hi acc ha => by
      show b_L_toGroupS_3 t0 acc i = _
      unfold b_L_toGroupS_3
      have hi' : (i : Int) < (t0.length : Int) := by omega
      rw [decide_eq_true hi', cond_true, inB_lt hi, cond_true, toNat_cast, getD_of hi]
      rw [p_L_toGroup _ (Nat.le_trans (tot_mem hi) hs), Option.bind_some, inB_lt (by omega), cond_true, wrap64 (by omega) (by omega)]) (fun acc => by
      show b_L_toGroupS_3 t0 acc t0.length = _
      unfold b_L_toGroupS_3
      rw [decide_eq_false (Int.lt_irrefl _), cond_false])]
  rfl

theorem p_L_eqRow (t0 : PV Y_impl_Row) (hs : tot Y_impl_Row t0 ≤ 4611686018427387904) : f_L_eqRow t0 t0 = some ((true, ()), ()) := by
  unfold f_L_eqRow
  simp only [tot] at hs
  rw [beq_self_eq_true, Bool.not_true, cond_false]
  rw [beq_self_eq_true, Bool.not_true, cond_false]

theorem p_L_eqRowS (t0 : PV S_impl_Row) (hs : tot S_impl_Row t0 ≤ 4611686018427387904) : f_L_eqRowS t0 t0 = some ((true, ()), ()) := by
  unfold f_L_eqRowS
  have hl : List.length t0 ≤ 4611686018427387904 := Nat.le_trans (Nat.le_add_right _ _) (tot_slice ▸ hs)
  rw [beq_self_eq_true, Bool.not_true, cond_false]
  rw [show w_L_eqRowS_4 (t0, t0, 0, ()) = _ from eq_loop (xs := t0) (B := fun d => b_L_eqRowS_4 d.1 d.2.1 d.2.2.1) (fun i hi => by
      show b_L_eqRowS_4 t0 t0 i = _
      unfold b_L_eqRowS_4
      have hi' : (i : Int) < (t0.length : Int) := by omega
      rw [decide_eq_true hi', cond_true, inB_lt hi, cond_true, cond_true, toNat_cast, getD_of hi]
      rw [p_L_eqRow _ (Nat.le_trans (tot_mem hi) hs), Option.bind_some, Bool.not_true, cond_false, wrap64 (by omega) (by omega)]) (by
      show b_L_eqRowS_4 t0 t0 t0.length = _
      unfold b_L_eqRowS_4
      rw [decide_eq_false (Int.lt_irrefl _), cond_false])]
  rfl

theorem p_L_eqGroup (t0 : PV Y_impl_Group) (hs : tot Y_impl_Group t0 ≤ 4611686018427387904) : f_L_eqGroup t0 t0 = some ((true, ()), ()) := by
  unfold f_L_eqGroup
  simp only [tot] at hs
  rw [beq_self_eq_true, Bool.not_true, cond_false]
  rw [beq_self_eq_true, Bool.not_true, cond_false]
  rw [p_L_eqRowS t0.2.2.1 (by simp only [tot]; omega), Option.bind_some, Bool.not_true, cond_false]

theorem p_L_eqGroupS (t0 : PV S_impl_Group) (hs : tot S_impl_Group t0 ≤ 4611686018427387904) : f_L_eqGroupS t0 t0 = some ((true, ()), ()) := by
  unfold f_L_eqGroupS
  have hl : List.length t0 ≤ 4611686018427387904 := Nat.le_trans (Nat.le_add_right _ _) (tot_slice ▸ hs)
  rw [beq_self_eq_true, Bool.not_true, cond_false]
  rw [show w_L_eqGroupS_4 (t0, t0, 0, ()) = _ from eq_loop (xs := t0) (B := fun d => b_L_eqGroupS_4 d.1 d.2.1 d.2.2.1) (fun i hi => by
      show b_L_eqGroupS_4 t0 t0 i = _
      unfold b_L_eqGroupS_4
      have hi' : (i : Int) < (t0.length : Int) := by omega
      rw [decide_eq_true hi', cond_true, inB_lt hi, cond_true, cond_true, toNat_cast, getD_of hi]
      rw [p_L_eqGroup _ (Nat.le_trans (tot_mem hi) hs), Option.bind_some, Bool.not_true, cond_false, wrap64 (by omega) (by omega)]) (by
      show b_L_eqGroupS_4 t0 t0 t0.length = _
      unfold b_L_eqGroupS_4
      rw [decide_eq_false (Int.lt_irrefl _), cond_false])]
  rfl

noncomputable def tx (k : Int) : List UInt8 := match f_L_markText k with
  | some r => r.1.1
  | none => []

theorem markText_loop : ∀ (d : Nat) (n : Int) (acc : List UInt8), 0 ≤ n → n < (10 : Int) ^ d → n ≤ 4611686018427387904 → acc.length + d ≤ 1000 → ∃ r : List UInt8, w_L_markText_4 (n, acc, ()) = some (r, ()) ∧ r.length ≤ acc.length + d
  | 0, n, acc, h0, h1, hb, h2 => by
    have : n = 0 := by simp at h1; omega
    subst this
    refine ⟨acc, ?_, by omega⟩
    exact fix_end (B := fun d => b_L_markText_4 d.1 d.2.1) (s := (0, acc, ())) rfl
  | d + 1, n, acc, h0, h1, hb, h2 => by
    by_cases hn : n > 0
    · have hq : n.tdiv 10 = n / 10 := Int.tdiv_eq_ediv_of_nonneg h0
      have hlt : n / 10 < (10 : Int) ^ d := by
        rw [Int.pow_succ] at h1
        omega
      have hs : b_L_markText_4 n acc = some (.inl (n / 10, (bytesOfInts [(IntKind.wrap .u8 (IntKind.wrap .i64 (48 + (n.tmod 10))))]) ++ acc, ())) := by
        unfold b_L_markText_4
        rw [decide_eq_true hn, cond_true, show ((10 : Nat) == 0) = false from rfl, cond_false, bytes_one, decide_eq_true (by omega), cond_true, cond_false, hq, wrap64 (by omega) (by omega)]
      obtain ⟨r, h3, h4⟩ := markText_loop d (n / 10) ((bytesOfInts [(IntKind.wrap .u8 (IntKind.wrap .i64 (48 + (n.tmod 10))))]) ++ acc) (by omega) hlt (by omega) (by rw [List.length_append, bytes_one]; omega)
      rw [List.length_append, bytes_one] at h4
      refine ⟨r, ?_, by omega⟩
      exact (fix_go (B := fun d => b_L_markText_4 d.1 d.2.1) (s := (n, acc, ())) hs).trans h3
    · have : n = 0 := by omega
      subst this
      refine ⟨acc, ?_, by omega⟩
      exact fix_end (B := fun d => b_L_markText_4 d.1 d.2.1) (s := (0, acc, ())) rfl

theorem p_L_markText (k : Int) (h0 : 0 ≤ k) (h1 : k ≤ 4611686018427387904) : f_L_markText k = some ((tx k, ()), ()) := by
  have : ∃ r : List UInt8, f_L_markText k = some ((r, ()), ()) := by
    unfold f_L_markText
    by_cases hk : k ≤ 0
    · rw [decide_eq_true hk]; exact ⟨_, rfl⟩
    · rw [decide_eq_false hk, cond_false]
      obtain ⟨r, h3, h4⟩ := markText_loop 19 k [] h0 (by omega) h1 (by simp)
      rw [h3, Option.bind_some]
      dsimp only
      rw [decide_eq_true (by simp at h4 ⊢; omega), cond_true]
      exact ⟨_, rfl⟩
  obtain ⟨r, h⟩ := this
  unfold tx
  rw [h]

theorem p_L_markRowS (t0 : PV S_impl_Row) (k : Int) (h0 : 0 ≤ k) (h1 : k + (cn S_impl_Row t0 : Nat) ≤ 4611686018427387904) (hs : tot S_impl_Row t0 ≤ 4611686018427387904) : f_L_markRowS t0 k = some (((mk tx S_impl_Row t0 k).2, ()), ((mk tx S_impl_Row t0 k).1, ())) := by
  have hl : List.length t0 ≤ 4611686018427387904 := Nat.le_trans (Nat.le_add_right _ _) (tot_slice ▸ hs)
  unfold f_L_markRowS
  rw [show w_L_markRowS_2 (t0, k, 0, ()) = _ from mark_loop (tx := tx) (T := Y_impl_Row) (Q := fun x => tot Y_impl_Row x ≤ 4611686018427387904) (B := fun d => b_L_markRowS_2 d.1 d.2.1 d.2.2.1) (fun i ys k hi hl hQ h0 h1 => by
      show b_L_markRowS_2 ys k i = _
      have hi' : (i : Int) < (ys.length : Int) := by omega
      have wi : IntKind.wrap .i64 ((i : Int) + 1) = (i : Int) + 1 := wrap64 (by omega) (by omega)
      have hc : cn Y_impl_Row ys[i] = cn (.int .i64) ys[i].1 + (cn .str ys[i].2.1 + (0)) := rfl
      have ht : tot Y_impl_Row ys[i] = tot (.int .i64) ys[i].1 + (tot .str ys[i].2.1 + (0)) := rfl
      have c1 : cn (.int .i64) ys[i].1 = 1 := rfl
      have u1 : IntKind.wrap .i64 (k + 1) = k + 1 := wrap64 (by omega) (by omega)
      have c2 : cn .str ys[i].2.1 = 1 := rfl
      have m2 := p_L_markText (k + 1) (by omega) (by omega)
      have u2 : IntKind.wrap .i64 (k + 1 + 1) = k + 1 + 1 := wrap64 (by omega) (by omega)
      unfold b_L_markRowS_2
      simp only [decide_eq_true hi', cond_true, List.length_set, inB_lt hi, toNat_cast, List.set_set, getD_set_self hi, getD_of hi, Option.bind_some, wi, u1, m2, u2, mk_pair, mk_int, mk_str, mk_unit]) (fun ys k hl => by
      show b_L_markRowS_2 ys k t0.length = _
      unfold b_L_markRowS_2
      rw [hl, decide_eq_false (Int.lt_irrefl _), cond_false]) (tot_all hs) h0 h1]
  rfl

theorem p_L_markGroupS (t0 : PV S_impl_Group) (k : Int) (h0 : 0 ≤ k) (h1 : k + (cn S_impl_Group t0 : Nat) ≤ 4611686018427387904) (hs : tot S_impl_Group t0 ≤ 4611686018427387904) : f_L_markGroupS t0 k = some (((mk tx S_impl_Group t0 k).2, ()), ((mk tx S_impl_Group t0 k).1, ())) := by
  have hl : List.length t0 ≤ 4611686018427387904 := Nat.le_trans (Nat.le_add_right _ _) (tot_slice ▸ hs)
  unfold f_L_markGroupS
  rw [show w_L_markGroupS_2 (t0, k, 0, ()) = _ from mark_loop (tx := tx) (T := Y_impl_Group) (Q := fun x => tot Y_impl_Group x ≤ 4611686018427387904) (B := fun d => b_L_markGroupS_2 d.1 d.2.1 d.2.2.1) (fun i ys k hi hl hQ h0 h1 => by
      show b_L_markGroupS_2 ys k i = _
      have hi' : (i : Int) < (ys.length : Int) := by omega
      have wi : IntKind.wrap .i64 ((i : Int) + 1) = (i : Int) + 1 := wrap64 (by omega) (by omega)
      have hc : cn Y_impl_Group ys[i] = cn (.int .i64) ys[i].1 + (cn (.int .i64) ys[i].2.1 + (cn S_impl_Row ys[i].2.2.1 + (0))) := rfl
      have ht : tot Y_impl_Group ys[i] = tot (.int .i64) ys[i].1 + (tot (.int .i64) ys[i].2.1 + (tot S_impl_Row ys[i].2.2.1 + (0))) := rfl
      have c1 : cn (.int .i64) ys[i].1 = 1 := rfl
      have u1 : IntKind.wrap .i64 (k + 1) = k + 1 := wrap64 (by omega) (by omega)
      have c2 : cn (.int .i64) ys[i].2.1 = 1 := rfl
      have u2 : IntKind.wrap .i64 (k + 1 + 1) = k + 1 + 1 := wrap64 (by omega) (by omega)
      have m3 := p_L_markRowS ys[i].2.2.1 (k + 1 + 1) (by omega) (by omega) (by omega)
      have c3 := mk_cn tx S_impl_Row ys[i].2.2.1 (k + 1 + 1)
      unfold b_L_markGroupS_2
      simp only [decide_eq_true hi', cond_true, List.length_set, inB_lt hi, toNat_cast, List.set_set, getD_set_self hi, getD_of hi, Option.bind_some, wi, u1, u2, m3, mk_pair, mk_int, mk_str, mk_unit]) (fun ys k hl => by
      show b_L_markGroupS_2 ys k t0.length = _
      unfold b_L_markGroupS_2
      rw [hl, decide_eq_false (Int.lt_irrefl _), cond_false]) (tot_all hs) h0 h1]
  rfl

theorem p_L_heldRowS (t0 : PV S_impl_Row) (k : Int) (h0 : 0 ≤ k) (h1 : k + (cn S_impl_Row t0 : Nat) ≤ 4611686018427387904) (hs : tot S_impl_Row t0 ≤ 4611686018427387904) : f_L_heldRowS (mk tx S_impl_Row t0 k).1 k = some (((mk tx S_impl_Row t0 k).2, ()), ()) := by
  have hl : List.length t0 ≤ 4611686018427387904 := Nat.le_trans (Nat.le_add_right _ _) (tot_slice ▸ hs)
  unfold f_L_heldRowS
  rw [show w_L_heldRowS_2 ((mk tx S_impl_Row t0 k).1, k, 0, ()) = _ from held_loop (tx := tx) (T := Y_impl_Row) (Q := fun x => tot Y_impl_Row x ≤ 4611686018427387904) (B := fun d => b_L_heldRowS_2 d.1 d.2.1 d.2.2.1) (fun i ys x k hi hl hy hQ h0 h1 => by
      show b_L_heldRowS_2 ys k i = _
      have hi' : (i : Int) < (ys.length : Int) := by omega
      have wi : IntKind.wrap .i64 ((i : Int) + 1) = (i : Int) + 1 := wrap64 (by omega) (by omega)
      have hc : cn Y_impl_Row x = cn (.int .i64) x.1 + (cn .str x.2.1 + (0)) := rfl
      have ht : tot Y_impl_Row x = tot (.int .i64) x.1 + (tot .str x.2.1 + (0)) := rfl
      have c1 : cn (.int .i64) x.1 = 1 := rfl
      have u1 : IntKind.wrap .i64 (k + 1) = k + 1 := wrap64 (by omega) (by omega)
      have c2 : cn .str x.2.1 = 1 := rfl
      have m2 := p_L_markText (k + 1) (by omega) (by omega)
      have u2 : IntKind.wrap .i64 (k + 1 + 1) = k + 1 + 1 := wrap64 (by omega) (by omega)
      unfold b_L_heldRowS_2
      simp only [decide_eq_true hi', cond_true, inB_lt hi, toNat_cast, getD_of hi, hy, Option.bind_some, wi, beq_self_eq_true, Bool.not_true, cond_false, u1, m2, u2, mk_pair, mk_int, mk_str, mk_unit]) (fun ys k hl => by
      show b_L_heldRowS_2 ys k t0.length = _
      unfold b_L_heldRowS_2
      rw [hl, decide_eq_false (Int.lt_irrefl _), cond_false]) (tot_all hs) h0 h1]
  rfl

theorem p_L_heldGroupS (t0 : PV S_impl_Group) (k : Int) (h0 : 0 ≤ k) (h1 : k + (cn S_impl_Group t0 : Nat) ≤ 4611686018427387904) (hs : tot S_impl_Group t0 ≤ 4611686018427387904) : f_L_heldGroupS (mk tx S_impl_Group t0 k).1 k = some (((mk tx S_impl_Group t0 k).2, ()), ()) := by
  have hl : List.length t0 ≤ 4611686018427387904 := Nat.le_trans (Nat.le_add_right _ _) (tot_slice ▸ hs)
  unfold f_L_heldGroupS
  rw [show w_L_heldGroupS_2 ((mk tx S_impl_Group t0 k).1, k, 0, ()) = _ from held_loop (tx := tx) (T := Y_impl_Group) (Q := fun x => tot Y_impl_Group x ≤ 4611686018427387904) (B := fun d => b_L_heldGroupS_2 d.1 d.2.1 d.2.2.1) (fun i ys x k hi hl hy hQ h0 h1 => by
      show b_L_heldGroupS_2 ys k i = _
      have hi' : (i : Int) < (ys.length : Int) := by omega
      have wi : IntKind.wrap .i64 ((i : Int) + 1) = (i : Int) + 1 := wrap64 (by omega) (by omega)
      have hc : cn Y_impl_Group x = cn (.int .i64) x.1 + (cn (.int .i64) x.2.1 + (cn S_impl_Row x.2.2.1 + (0))) := rfl
      have ht : tot Y_impl_Group x = tot (.int .i64) x.1 + (tot (.int .i64) x.2.1 + (tot S_impl_Row x.2.2.1 + (0))) := rfl
      have c1 : cn (.int .i64) x.1 = 1 := rfl
      have u1 : IntKind.wrap .i64 (k + 1) = k + 1 := wrap64 (by omega) (by omega)
      have c2 : cn (.int .i64) x.2.1 = 1 := rfl
      have u2 : IntKind.wrap .i64 (k + 1 + 1) = k + 1 + 1 := wrap64 (by omega) (by omega)
      have m3 := p_L_heldRowS x.2.2.1 (k + 1 + 1) (by omega) (by omega) (by omega)
      have c3 := mk_cn tx S_impl_Row x.2.2.1 (k + 1 + 1)
      have d3 : decide ((mk tx S_impl_Row x.2.2.1 (k + 1 + 1)).2 < 0) = false := decide_eq_false (by omega)
      unfold b_L_heldGroupS_2
      simp only [decide_eq_true hi', cond_true, inB_lt hi, toNat_cast, getD_of hi, hy, Option.bind_some, wi, beq_self_eq_true, Bool.not_true, cond_false, u1, u2, m3, d3, mk_pair, mk_int, mk_str, mk_unit]) (fun ys k hl => by
      show b_L_heldGroupS_2 ys k t0.length = _
      unfold b_L_heldGroupS_2
      rw [hl, decide_eq_false (Int.lt_irrefl _), cond_false]) (tot_all hs) h0 h1]
  rfl

theorem p_L_szStringS (t0 : PV S_string) (L : Int) (h0 : 0 ≤ L) (h1 : L ≤ 1048576) (hw : WfV S_string t0) : f_L_szStringS t0 L = some ((szR (tot S_string t0) L, ()), ()) := by
  have hl : List.length t0 ≤ 9223372036854775807 := hw.1
  unfold f_L_szStringS
  rw [wrap64 (by omega) (by omega)]
  by_cases hc : (t0.length : Int) ≤ L
  · rw [decide_eq_false (by omega : ¬ (L - (t0.length : Int) < 0)), cond_false, show w_L_szStringS_5 (t0, L - (t0.length : Int), 0, ()) = _ from sz_loop (T := .str) (xs := t0) (B := fun d => b_L_szStringS_5 d.1 d.2.1 d.2.2.1) (fun i hi l g0 g1 => by
      show b_L_szStringS_5 t0 l i = _
      generalize hxs : t0 = xs at *
      have hi' : (i : Int) < (xs.length : Int) := by omega
      unfold b_L_szStringS_5
      rw [decide_eq_true hi', cond_true, inB_lt hi, cond_true, toNat_cast, getD_of hi]
      have hx : (xs[i]).length ≤ 9223372036854775807 := hw.2 _ (List.getElem_mem hi)
      rw [wrap64 (by omega) (by omega), wrap64 (x := (i : Int) + 1) (by omega) (by omega)]
      by_cases hq : ((tot .str xs[i] : Nat) : Int) ≤ l
      · rw [if_pos hq]; rw [tot_str] at hq ⊢; rw [decide_eq_false (by omega : ¬ (l - (xs[i].length : Int) < 0)), cond_false]
      · rw [if_neg hq]; rw [tot_str] at hq; rw [decide_eq_true (by omega : l - (xs[i].length : Int) < 0), cond_true]) (fun l => by
      show b_L_szStringS_5 t0 l t0.length = _
      unfold b_L_szStringS_5
      rw [decide_eq_false (Int.lt_irrefl _), cond_false]) (by omega) (by omega)]
    exact sz_out hc tot_slice
  · rw [decide_eq_true (by omega : L - (t0.length : Int) < 0), cond_true, szR_neg (by rw [tot_slice]; omega)]

theorem p_L_toStringS (t0 : PV S_string) (hs : tot S_string t0 ≤ 1048576) : f_L_toStringS t0 = some ((t0, ()), ()) := by
  unfold f_L_toStringS
  have hl : List.length t0 ≤ 1048576 := Nat.le_trans (Nat.le_add_right _ _) (tot_slice ▸ hs)
  rw [room_len (by omega), cond_true, toNat_cast]
  rw [show w_L_toStringS_3 (t0, List.replicate t0.length _, 0, ()) = _ from to_loop (xs := t0) t0 (B := lp_L_toStringS_3.B) rfl (fun i hi acc ha => by
      show b_L_toStringS_3 t0 acc i = _
      unfold b_L_toStringS_3
      have hi' : (i : Int) < (t0.length : Int) := by omega
      rw [decide_eq_true hi', cond_true, inB_lt hi, cond_true, toNat_cast, getD_of hi]
      rw [inB_lt (by omega), cond_true, wrap64 (by omega) (by omega)]) (fun acc => by
      show b_L_toStringS_3 t0 acc t0.length = _
      unfold b_L_toStringS_3
      rw [decide_eq_false (Int.lt_irrefl _), cond_false])]
  rfl

theorem p_L_eqStringS (t0 : PV S_string) (hs : tot S_string t0 ≤ 4611686018427387904) : f_L_eqStringS t0 t0 = some ((true, ()), ()) := by
  unfold f_L_eqStringS
  have hl : List.length t0 ≤ 4611686018427387904 := Nat.le_trans (Nat.le_add_right _ _) (tot_slice ▸ hs)
  rw [beq_self_eq_true, Bool.not_true, cond_false]
  rw [show w_L_eqStringS_4 (t0, t0, 0, ()) = _ from eq_loop (xs := t0) (B := fun d => b_L_eqStringS_4 d.1 d.2.1 d.2.2.1) (fun i hi => by
      show b_L_eqStringS_4 t0 t0 i = _
      unfold b_L_eqStringS_4
      have hi' : (i : Int) < (t0.length : Int) := by omega
      rw [decide_eq_true hi', cond_true, inB_lt hi, cond_true, cond_true, toNat_cast, getD_of hi]
      rw [beq_self_eq_true, Bool.not_true, cond_false, wrap64 (by omega) (by omega)]) (by
      show b_L_eqStringS_4 t0 t0 t0.length = _
      unfold b_L_eqStringS_4
      rw [decide_eq_false (Int.lt_irrefl _), cond_false])]
  rfl

theorem p_L_markStringS (t0 : PV S_string) (k : Int) (h0 : 0 ≤ k) (h1 : k + (cn S_string t0 : Nat) ≤ 4611686018427387904) (hs : tot S_string t0 ≤ 4611686018427387904) : f_L_markStringS t0 k = some (((mk tx S_string t0 k).2, ()), ((mk tx S_string t0 k).1, ())) := by
  have hl : List.length t0 ≤ 4611686018427387904 := Nat.le_trans (Nat.le_add_right _ _) (tot_slice ▸ hs)
  unfold f_L_markStringS
  rw [show w_L_markStringS_2 (t0, k, 0, ()) = _ from mark_loop (tx := tx) (T := .str) (Q := fun x => tot .str x ≤ 4611686018427387904) (B := fun d => b_L_markStringS_2 d.1 d.2.1 d.2.2.1) (fun i ys k hi hl hQ h0 h1 => by
      show b_L_markStringS_2 ys k i = _
      have hi' : (i : Int) < (ys.length : Int) := by omega
      have wi : IntKind.wrap .i64 ((i : Int) + 1) = (i : Int) + 1 := wrap64 (by omega) (by omega)
      have c1 : cn .str ys[i] = 1 := rfl
      have m1 := p_L_markText (k) (by omega) (by omega)
      have u1 : IntKind.wrap .i64 (k + 1) = k + 1 := wrap64 (by omega) (by omega)
      unfold b_L_markStringS_2
      simp only [decide_eq_true hi', cond_true, List.length_set, inB_lt hi, toNat_cast, List.set_set, getD_set_self hi, getD_of hi, Option.bind_some, wi, m1, u1, mk_pair, mk_int, mk_str, mk_unit]) (fun ys k hl => by
      show b_L_markStringS_2 ys k t0.length = _
      unfold b_L_markStringS_2
      rw [hl, decide_eq_false (Int.lt_irrefl _), cond_false]) (tot_all hs) h0 h1]
  rfl

theorem p_L_heldStringS (t0 : PV S_string) (k : Int) (h0 : 0 ≤ k) (h1 : k + (cn S_string t0 : Nat) ≤ 4611686018427387904) (hs : tot S_string t0 ≤ 4611686018427387904) : f_L_heldStringS (mk tx S_string t0 k).1 k = some (((mk tx S_string t0 k).2, ()), ()) := by
  have hl : List.length t0 ≤ 4611686018427387904 := Nat.le_trans (Nat.le_add_right _ _) (tot_slice ▸ hs)
  unfold f_L_heldStringS
  rw [show w_L_heldStringS_2 ((mk tx S_string t0 k).1, k, 0, ()) = _ from held_loop (tx := tx) (T := .str) (Q := fun x => tot .str x ≤ 4611686018427387904) (B := fun d => b_L_heldStringS_2 d.1 d.2.1 d.2.2.1) (fun i ys x k hi hl hy hQ h0 h1 => by
      show b_L_heldStringS_2 ys k i = _
      have hi' : (i : Int) < (ys.length : Int) := by omega
      have wi : IntKind.wrap .i64 ((i : Int) + 1) = (i : Int) + 1 := wrap64 (by omega) (by omega)
      have c1 : cn .str x = 1 := rfl
      have m1 := p_L_markText (k) (by omega) (by omega)
      have u1 : IntKind.wrap .i64 (k + 1) = k + 1 := wrap64 (by omega) (by omega)
      unfold b_L_heldStringS_2
      simp only [decide_eq_true hi', cond_true, inB_lt hi, toNat_cast, getD_of hi, hy, Option.bind_some, wi, beq_self_eq_true, Bool.not_true, cond_false, m1, u1, mk_pair, mk_int, mk_str, mk_unit]) (fun ys k hl => by
      show b_L_heldStringS_2 ys k t0.length = _
      unfold b_L_heldStringS_2
      rw [hl, decide_eq_false (Int.lt_irrefl _), cond_false]) (tot_all hs) h0 h1]
  rfl
end R
