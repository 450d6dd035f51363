/- Plain laws of the law's helpers. -/
import Derived.Test.YthcnbokoghjkjaaPaT
import Derived.Test.YthcnbokoghjkjaaGd
open Go Go.Dn
namespace R
set_option linter.unusedVariables false
theorem p_L_szStringS (t0 : PV S_string) (L : Int) (h0 : 0 ≤ L) (h1 : L ≤ 1048576) (hw : WfV S_string t0) : f_L_szStringS t0 L = some ((szR (tot S_string t0) L, ()), ()) := by
  have hl : List.length t0 ≤ 9223372036854775807 := hw.1
  unfold f_L_szStringS
  rw [wrap64 (by omega) (by omega)]
  by_cases hc : (t0.length : Int) ≤ L
  · rw [decide_eq_false (by omega : ¬ (L - (t0.length : Int) < 0)), cond_false, show w_L_szStringS_5 (t0, L - (t0.length : Int), 0, ()) = _ from sz_loop (T := .str) (xs := t0) (B := fun d => b_L_szStringS_5 d.1 d.2.1 d.2.2.1) (fun i hi l g0 g1 => by
      show b_L_szStringS_5 t0 l i = _
      generalize hxs : t0 = xs at *
      have hi' : (i : Int) < (xs.length : Int) := by omega
      unfold b_L_szStringS_5
      rw [decide_eq_true hi', cond_true, inB_lt hi, cond_true, toNat_cast, getD_of hi]
      have hx : (xs[i]).length ≤ 9223372036854775807 := hw.2 _ (List.getElem_mem hi)
      rw [wrap64 (by omega) (by omega), wrap64 (x := (i : Int) + 1) (by omega) (by omega)]
      by_cases hq : ((tot .str xs[i] : Nat) : Int) ≤ l
      · rw [if_pos hq]; rw [tot_str] at hq ⊢; rw [decide_eq_false (by omega : ¬ (l - (xs[i].length : Int) < 0)), cond_false]
      · rw [if_neg hq]; rw [tot_str] at hq; rw [decide_eq_true (by omega : l - (xs[i].length : Int) < 0), cond_true]) (fun l => by
      show b_L_szStringS_5 t0 l t0.length = _
      unfold b_L_szStringS_5
      rw [decide_eq_false (Int.lt_irrefl _), cond_false]) (by omega) (by omega)]
    exact sz_out hc tot_slice
  · rw [decide_eq_true (by omega : L - (t0.length : Int) < 0), cond_true, szR_neg (by rw [tot_slice]; omega)]

theorem p_L_szStringSS (t0 : PV S_S_string) (L : Int) (h0 : 0 ≤ L) (h1 : L ≤ 1048576) (hw : WfV S_S_string t0) : f_L_szStringSS t0 L = some ((szR (tot S_S_string t0) L, ()), ()) := by
  have hl : List.length t0 ≤ 9223372036854775807 := hw.1
  unfold f_L_szStringSS
  rw [wrap64 (by omega) (by omega)]
  by_cases hc : (t0.length : Int) ≤ L
  · rw [decide_eq_false (by omega : ¬ (L - (t0.length : Int) < 0)), cond_false, show w_L_szStringSS_5 (t0, L - (t0.length : Int), 0, ()) = _ from sz_loop (T := S_string) (xs := t0) (B := fun d => b_L_szStringSS_5 d.1 d.2.1 d.2.2.1) (fun i hi l g0 g1 => by
      show b_L_szStringSS_5 t0 l i = _
      generalize hxs : t0 = xs at *
      have hi' : (i : Int) < (xs.length : Int) := by omega
      unfold b_L_szStringSS_5
      rw [decide_eq_true hi', cond_true, inB_lt hi, cond_true, toNat_cast, getD_of hi]
      rw [p_L_szStringS _ l g0 g1 (hw.2 _ (List.getElem_mem hi)), Option.bind_some, wrap64 (x := (i : Int) + 1) (by omega) (by omega)]
      by_cases hq : ((tot S_string xs[i] : Nat) : Int) ≤ l
      · rw [if_pos hq, szR_pos hq]; dsimp only; rw [decide_eq_false (by omega : ¬ (l - ((tot S_string xs[i] : Nat) : Int) < 0)), cond_false]
      · rw [if_neg hq, szR_neg hq]; rfl) (fun l => by
      show b_L_szStringSS_5 t0 l t0.length = _
      unfold b_L_szStringSS_5
      rw [decide_eq_false (Int.lt_irrefl _), cond_false]) (by omega) (by omega)]
    exact sz_out hc tot_slice
  · rw [decide_eq_true (by omega : L - (t0.length : Int) < 0), cond_true, szR_neg (by rw [tot_slice]; omega)]

theorem p_L_toStringS (t0 : PV S_string) (hs : tot S_string t0 ≤ 1048576) : f_L_toStringS t0 = some ((t0, ()), ()) := by
  unfold f_L_toStringS
  have hl : List.length t0 ≤ 1048576 := Nat.le_trans (Nat.le_add_right _ _) (tot_slice ▸ hs)
  rw [room_len (by omega), cond_true, toNat_cast]
  rw [show w_L_toStringS_3 (t0, List.replicate t0.length _, 0, ()) = _ from to_loop (xs := t0) t0 (B := lp_L_toStringS_3.B) rfl (fun i hi acc ha => by
      show b_L_toStringS_3 t0 acc i = _
      unfold b_L_toStringS_3
      have hi' : (i : Int) < (t0.length : Int) := by omega
      rw [decide_eq_true hi', cond_true, inB_lt hi, cond_true, toNat_cast, getD_of hi]
      rw [inB_lt (by omega), cond_true, wrap64 (by omega) (by omega)]) (fun acc => by
      show b_L_toStringS_3 t0 acc t0.length = _
      unfold b_L_toStringS_3
      rw [decide_eq_false (Int.lt_irrefl _), cond_false])]
  rfl

theorem p_L_toStringSS (t0 : PV S_S_string) (hs : tot S_S_string t0 ≤ 1048576) : f_L_toStringSS t0 = some ((t0, ()), ()) := by
  unfold f_L_toStringSS
  have hl : List.length t0 ≤ 1048576 := Nat.le_trans (Nat.le_add_right _ _) (tot_slice ▸ hs)
  rw [room_len (by omega), cond_true, toNat_cast]
  rw [show w_L_toStringSS_3 (t0, List.replicate t0.length _, 0, ()) = _ from to_loop (xs := t0) t0 (B := lp_L_toStringSS_3.B) rfl (fun i hi acc ha => by
      show b_L_toStringSS_3 t0 acc i = _
      unfold b_L_toStringSS_3
      have hi' : (i : Int) < (t0.length : Int) := by omega
      rw [decide_eq_true hi', cond_true, inB_lt hi, cond_true, toNat_cast, getD_of hi]
      rw [p_L_toStringS _ (Nat.le_trans (tot_mem hi) hs), Option.bind_some, inB_lt (by omega), cond_true, wrap64 (by omega) (by omega)]) (fun acc => by
      show b_L_toStringSS_3 t0 acc t0.length = _
      unfold b_L_toStringSS_3
      rw [decide_eq_false (Int.lt_irrefl _), cond_false])]
  rfl

theorem p_L_eqIntS (t0 : PV S_int) (hs : tot S_int t0 ≤ 4611686018427387904) : f_L_eqIntS t0 t0 = some ((true, ()), ()) := by
  unfold f_L_eqIntS
  have hl : List.length t0 ≤ 4611686018427387904 := Nat.le_trans (Nat.le_add_right _ _) (tot_slice ▸ hs)
  rw [beq_self_eq_true, Bool.not_true, cond_false]
  rw [show w_L_eqIntS_4 (t0, t0, 0, ()) = _ from eq_loop (xs := t0) (B := fun d => b_L_eqIntS_4 d.1 d.2.1 d.2.2.1) (fun i hi => by
      show b_L_eqIntS_4 t0 t0 i = _
      unfold b_L_eqIntS_4
      have hi' : (i : Int) < (t0.length : Int) := by omega
      rw [decide_eq_true hi', cond_true, inB_lt hi, cond_true, cond_true, toNat_cast, getD_of hi]
      rw [beq_self_eq_true, Bool.not_true, cond_false, wrap64 (by omega) (by omega)]) (by
      show b_L_eqIntS_4 t0 t0 t0.length = _
      unfold b_L_eqIntS_4
      rw [decide_eq_false (Int.lt_irrefl _), cond_false])]
  rfl

theorem p_L_eqIntSS (t0 : PV S_S_int) (hs : tot S_S_int t0 ≤ 4611686018427387904) : f_L_eqIntSS t0 t0 = some ((true, ()), ()) := by
  unfold f_L_eqIntSS
  have hl : List.length t0 ≤ 4611686018427387904 := Nat.le_trans (Nat.le_add_right _ _) (tot_slice ▸ hs)
  rw [beq_self_eq_true, Bool.not_true, cond_false]
  rw [show w_L_eqIntSS_4 (t0, t0, 0, ()) = _ from eq_loop (xs := t0) (B := fun d => b_L_eqIntSS_4 d.1 d.2.1 d.2.2.1) (fun i hi => by
      show b_L_eqIntSS_4 t0 t0 i = _
      unfold b_L_eqIntSS_4
      have hi' : (i : Int) < (t0.length : Int) := by omega
      rw [decide_eq_true hi', cond_true, inB_lt hi, cond_true, cond_true, toNat_cast, getD_of hi]
      rw [p_L_eqIntS _ (Nat.le_trans (tot_mem hi) hs), Option.bind_some, Bool.not_true, cond_false, wrap64 (by omega) (by omega)]) (by
      show b_L_eqIntSS_4 t0 t0 t0.length = _
      unfold b_L_eqIntSS_4
      rw [decide_eq_false (Int.lt_irrefl _), cond_false])]
  rfl

theorem p_L_eqStringS (t0 : PV S_string) (hs : tot S_string t0 ≤ 4611686018427387904) : f_L_eqStringS t0 t0 = some ((true, ()), ()) := by
  unfold f_L_eqStringS
  have hl : List.length t0 ≤ 4611686018427387904 := Nat.le_trans (Nat.le_add_right _ _) (tot_slice ▸ hs)
  rw [beq_self_eq_true, Bool.not_true, cond_false]
  rw [show w_L_eqStringS_4 (t0, t0, 0, ()) = _ from eq_loop (xs := t0) (B := fun d => b_L_eqStringS_4 d.1 d.2.1 d.2.2.1) (fun i hi => by
      show b_L_eqStringS_4 t0 t0 i = _
      unfold b_L_eqStringS_4
      have hi' : (i : Int) < (t0.length : Int) := by omega
      rw [decide_eq_true hi', cond_true, inB_lt hi, cond_true, cond_true, toNat_cast, getD_of hi]
      rw [beq_self_eq_true, Bool.not_true, cond_false, wrap64 (by omega) (by omega)]) (by
      show b_L_eqStringS_4 t0 t0 t0.length = _
      unfold b_L_eqStringS_4
      rw [decide_eq_false (Int.lt_irrefl _), cond_false])]
  rfl

theorem p_L_eqStringSS (t0 : PV S_S_string) (hs : tot S_S_string t0 ≤ 4611686018427387904) : f_L_eqStringSS t0 t0 = some ((true, ()), ()) := by
  unfold f_L_eqStringSS
  have hl : List.length t0 ≤ 4611686018427387904 := Nat.le_trans (Nat.le_add_right _ _) (tot_slice ▸ hs)
  rw [beq_self_eq_true, Bool.not_true, cond_false]
  rw [show w_L_eqStringSS_4 (t0, t0, 0, ()) = _ from eq_loop (xs := t0) (B := fun d => b_L_eqStringSS_4 d.1 d.2.1 d.2.2.1) (fun i hi => by
      show b_L_eqStringSS_4 t0 t0 i = _
      unfold b_L_eqStringSS_4
      have hi' : (i : Int) < (t0.length : Int) := by omega
      rw [decide_eq_true hi', cond_true, inB_lt hi, cond_true, cond_true, toNat_cast, getD_of hi]
      rw [p_L_eqStringS _ (Nat.le_trans (tot_mem hi) hs), Option.bind_some, Bool.not_true, cond_false, wrap64 (by omega) (by omega)]) (by
      show b_L_eqStringSS_4 t0 t0 t0.length = _
      unfold b_L_eqStringSS_4
      rw [decide_eq_false (Int.lt_irrefl _), cond_false])]
  rfl

noncomputable def tx (k : Int) : List UInt8 := match f_L_markText k with
  | some r => r.1.1
  | none => []

theorem markText_loop : ∀ (d : Nat) (n : Int) (acc : List UInt8), 0 ≤ n → n < (10 : Int) ^ d → n ≤ 4611686018427387904 → acc.length + d ≤ 1000 → ∃ r : List UInt8, w_L_markText_4 (n, acc, ()) = some (r, ()) ∧ r.length ≤ acc.length + d
  | 0, n, acc, h0, h1, hb, h2 => by
    have : n = 0 := by simp at h1; omega
    subst this
    refine ⟨acc, ?_, by omega⟩
    exact fix_end (B := fun d => b_L_markText_4 d.1 d.2.1) (s := (0, acc, ())) rfl
  | d + 1, n, acc, h0, h1, hb, h2 => by
    by_cases hn : n > 0
    · have hq : n.tdiv 10 = n / 10 := Int.tdiv_eq_ediv_of_nonneg h0
      have hlt : n / 10 < (10 : Int) ^ d := by
        rw [Int.pow_succ] at h1
        omega
      have hs : b_L_markText_4 n acc = some (.inl (n / 10, (bytesOfInts [(IntKind.wrap .u8 (IntKind.wrap .i64 (48 + (n.tmod 10))))]) ++ acc, ())) := by
        unfold b_L_markText_4
        rw [decide_eq_true hn, cond_true, show ((10 : Nat) == 0) = false from rfl, cond_false, bytes_one, decide_eq_true (by omega), cond_true, cond_false, hq, wrap64 (by omega) (by omega)]
      obtain ⟨r, h3, h4⟩ := markText_loop d (n / 10) ((bytesOfInts [(IntKind.wrap .u8 (IntKind.wrap .i64 (48 + (n.tmod 10))))]) ++ acc) (by omega) hlt (by omega) (by rw [List.length_append, bytes_one]; omega)
      rw [List.length_append, bytes_one] at h4
      refine ⟨r, ?_, by omega⟩
      exact (fix_go (B := fun d => b_L_markText_4 d.1 d.2.1) (s := (n, acc, ())) hs).trans h3
    · have : n = 0 := by omega
      subst this
      refine ⟨acc, ?_, by omega⟩
      exact fix_end (B := fun d => b_L_markText_4 d.1 d.2.1) (s := (0, acc, ())) rfl

theorem p_L_markText (k : Int) (h0 : 0 ≤ k) (h1 : k ≤ 4611686018427387904) : f_L_markText k = some ((tx k, ()), ()) := by
  have : ∃ r : List UInt8, f_L_markText k = some ((r, ()), ()) := by
    unfold f_L_markText
    by_cases hk : k ≤ 0
    · rw [decide_eq_true hk]; exact ⟨_, rfl⟩
    · rw [decide_eq_false hk, cond_false]
      obtain ⟨r, h3, h4⟩ := markText_loop 19 k [] h0 (by omega) h1 (by simp)
      rw [h3, Option.bind_some]
      dsimp only
      rw [decide_eq_true (by simp at h4 ⊢; omega), cond_true]
      exact ⟨_, rfl⟩
  obtain ⟨r, h⟩ := this
  unfold tx
  rw [h]

theorem p_L_markStringS (t0 : PV S_string) (k : Int) (h0 : 0 ≤ k) (h1 : k + (cn S_string t0 : Nat) ≤ 4611686018427387904) (hs : tot S_string t0 ≤ 4611686018427387904) : f_L_markStringS t0 k = some (((mk tx S_string t0 k).2, ()), ((mk tx S_string t0 k).1, ())) := by
  have hl : List.length t0 ≤ 4611686018427387904 := Nat.le_trans (Nat.le_add_right _ _) (tot_slice ▸ hs)
  unfold f_L_markStringS
  rw [show w_L_markStringS_2 (t0, k, 0, ()) = _ from mark_loop (tx := tx) (T := .str) (Q := fun x => tot .str x ≤ 4611686018427387904) (B := fun d => b_L_markStringS_2 d.1 d.2.1 d.2.2.1) (fun i ys k hi hl hQ h0 h1 => by
      show b_L_markStringS_2 ys k i = _
      have hi' : (i : Int) < (ys.length : Int) := by omega
      have wi : IntKind.wrap .i64 ((i : Int) + 1) = (i : Int) + 1 := wrap64 (by omega) (by omega)
      have c1 : cn .str ys[i] = 1 := rfl
      have m1 := p_L_markText (k) (by omega) (by omega)
      have u1 : IntKind.wrap .i64 (k + 1) = k + 1 := wrap64 (by omega) (by omega)
      unfold b_L_markStringS_2
      simp only [decide_eq_true hi', cond_true, List.length_set, inB_lt hi, toNat_cast, List.set_set, getD_set_self hi, getD_of hi, Option.bind_some, wi, m1, u1, mk_pair, mk_int, mk_str, mk_unit]) (fun ys k hl => by
      show b_L_markStringS_2 ys k t0.length = _
      unfold b_L_markStringS_2
      rw [hl, decide_eq_false (Int.lt_irrefl _), cond_false]) (tot_all hs) h0 h1]
  rfl

theorem p_L_markStringSS (t0 : PV S_S_string) (k : Int) (h0 : 0 ≤ k) (h1 : k + (cn S_S_string t0 : Nat) ≤ 4611686018427387904) (hs : tot S_S_string t0 ≤ 4611686018427387904) : f_L_markStringSS t0 k = some (((mk tx S_S_string t0 k).2, ()), ((mk tx S_S_string t0 k).1, ())) := by
  have hl : List.length t0 ≤ 4611686018427387904 := Nat.le_trans (Nat.le_add_right _ _) (tot_slice ▸ hs)
  unfold f_L_markStringSS
  rw [show w_L_markStringSS_2 (t0, k, 0, ()) = _ from mark_loop (tx := tx) (T := S_string) (Q := fun x => tot S_string x ≤ 4611686018427387904) (B := fun d => b_L_markStringSS_2 d.1 d.2.1 d.2.2.1) (fun i ys k hi hl hQ h0 h1 => by
      show b_L_markStringSS_2 ys k i = _
      have hi' : (i : Int) < (ys.length : Int) := by omega
      have wi : IntKind.wrap .i64 ((i : Int) + 1) = (i : Int) + 1 := wrap64 (by omega) (by omega)
      have m1 := p_L_markStringS ys[i] (k) (by omega) (by omega) (by omega)
      have c1 := mk_cn tx S_string ys[i] (k)
      unfold b_L_markStringSS_2
      simp only [decide_eq_true hi', cond_true, List.length_set, inB_lt hi, toNat_cast, List.set_set, getD_set_self hi, getD_of hi, Option.bind_some, wi, m1, mk_pair, mk_int, mk_str, mk_unit]) (fun ys k hl => by
      show b_L_markStringSS_2 ys k t0.length = _
      unfold b_L_markStringSS_2
      rw [hl, decide_eq_false (Int.lt_irrefl _), cond_false]) (tot_all hs) h0 h1]
  rfl

theorem p_L_markIntS (t0 : PV S_int) (k : Int) (h0 : 0 ≤ k) (h1 : k + (cn S_int t0 : Nat) ≤ 4611686018427387904) (hs : tot S_int t0 ≤ 4611686018427387904) : f_L_markIntS t0 k = some (((mk tx S_int t0 k).2, ()), ((mk tx S_int t0 k).1, ())) := by
  have hl : List.length t0 ≤ 4611686018427387904 := Nat.le_trans (Nat.le_add_right _ _) (tot_slice ▸ hs)
  unfold f_L_markIntS
  rw [show w_L_markIntS_2 (t0, k, 0, ()) = _ from mark_loop (tx := tx) (T := (.int .i64)) (Q := fun x => tot (.int .i64) x ≤ 4611686018427387904) (B := fun d => b_L_markIntS_2 d.1 d.2.1 d.2.2.1) (fun i ys k hi hl hQ h0 h1 => by
      show b_L_markIntS_2 ys k i = _
      have hi' : (i : Int) < (ys.length : Int) := by omega
      have wi : IntKind.wrap .i64 ((i : Int) + 1) = (i : Int) + 1 := wrap64 (by omega) (by omega)
      have c1 : cn (.int .i64) ys[i] = 1 := rfl
      have u1 : IntKind.wrap .i64 (k + 1) = k + 1 := wrap64 (by omega) (by omega)
      unfold b_L_markIntS_2
      simp only [decide_eq_true hi', cond_true, List.length_set, inB_lt hi, toNat_cast, List.set_set, getD_set_self hi, getD_of hi, Option.bind_some, wi, u1, mk_pair, mk_int, mk_str, mk_unit]) (fun ys k hl => by
      show b_L_markIntS_2 ys k t0.length = _
      unfold b_L_markIntS_2
      rw [hl, decide_eq_false (Int.lt_irrefl _), cond_false]) (tot_all hs) h0 h1]
  rfl

theorem p_L_markIntSS (t0 : PV S_S_int) (k : Int) (h0 : 0 ≤ k) (h1 : k + (cn S_S_int t0 : Nat) ≤ 4611686018427387904) (hs : tot S_S_int t0 ≤ 4611686018427387904) : f_L_markIntSS t0 k = some (((mk tx S_S_int t0 k).2, ()), ((mk tx S_S_int t0 k).1, ())) := by
  have hl : List.length t0 ≤ 4611686018427387904 := Nat.le_trans (Nat.le_add_right _ _) (tot_slice ▸ hs)
  unfold f_L_markIntSS
  rw [show w_L_markIntSS_2 (t0, k, 0, ()) = _ from mark_loop (tx := tx) (T := S_int) (Q := fun x => tot S_int x ≤ 4611686018427387904) (B := fun d => b_L_markIntSS_2 d.1 d.2.1 d.2.2.1) (fun i ys k hi hl hQ h0 h1 => by
      show b_L_markIntSS_2 ys k i = _
      have hi' : (i : Int) < (ys.length : Int) := by omega
      have wi : IntKind.wrap .i64 ((i : Int) + 1) = (i : Int) + 1 := wrap64 (by omega) (by omega)
      have m1 := p_L_markIntS ys[i] (k) (by omega) (by omega) (by omega)
      have c1 := mk_cn tx S_int ys[i] (k)
      unfold b_L_markIntSS_2
      simp only [decide_eq_true hi', cond_true, List.length_set, inB_lt hi, toNat_cast, List.set_set, getD_set_self hi, getD_of hi, Option.bind_some, wi, m1, mk_pair, mk_int, mk_str, mk_unit]) (fun ys k hl => by
      show b_L_markIntSS_2 ys k t0.length = _
      unfold b_L_markIntSS_2
      rw [hl, decide_eq_false (Int.lt_irrefl _), cond_false]) (tot_all hs) h0 h1]
  rfl

theorem p_L_heldIntS (t0 : PV S_int) (k : Int) (h0 : 0 ≤ k) (h1 : k + (cn S_int t0 : Nat) ≤ 4611686018427387904) (hs : tot S_int t0 ≤ 4611686018427387904) : f_L_heldIntS (mk tx S_int t0 k).1 k = some (((mk tx S_int t0 k).2, ()), ()) := by
  have hl : List.length t0 ≤ 4611686018427387904 := Nat.le_trans (Nat.le_add_right _ _) (tot_slice ▸ hs)
  unfold f_L_heldIntS
  rw [show w_L_heldIntS_2 ((mk tx S_int t0 k).1, k, 0, ()) = _ from held_loop (tx := tx) (T := (.int .i64)) (Q := fun x => tot (.int .i64) x ≤ 4611686018427387904) (B := fun d => b_L_heldIntS_2 d.1 d.2.1 d.2.2.1) (fun i ys x k hi hl hy hQ h0 h1 => by
      show b_L_heldIntS_2 ys k i = _
      have hi' : (i : Int) < (ys.length : Int) := by omega
      have wi : IntKind.wrap .i64 ((i : Int) + 1) = (i : Int) + 1 := wrap64 (by omega) (by omega)
      have c1 : cn (.int .i64) x = 1 := rfl
      have u1 : IntKind.wrap .i64 (k + 1) = k + 1 := wrap64 (by omega) (by omega)
      unfold b_L_heldIntS_2
      simp only [decide_eq_true hi', cond_true, inB_lt hi, toNat_cast, getD_of hi, hy, Option.bind_some, wi, beq_self_eq_true, Bool.not_true, cond_false, u1, mk_pair, mk_int, mk_str, mk_unit]) (fun ys k hl => by
      show b_L_heldIntS_2 ys k t0.length = _
      unfold b_L_heldIntS_2
      rw [hl, decide_eq_false (Int.lt_irrefl _), cond_false]) (tot_all hs) h0 h1]
  rfl

theorem p_L_heldIntSS (t0 : PV S_S_int) (k : Int) (h0 : 0 ≤ k) (h1 : k + (cn S_S_int t0 : Nat) ≤ 4611686018427387904) (hs : tot S_S_int t0 ≤ 4611686018427387904) : f_L_heldIntSS (mk tx S_S_int t0 k).1 k = some (((mk tx S_S_int t0 k).2, ()), ()) := by
  have hl : List.length t0 ≤ 4611686018427387904 := Nat.le_trans (Nat.le_add_right _ _) (tot_slice ▸ hs)
  unfold f_L_heldIntSS
  rw [show w_L_heldIntSS_2 ((mk tx S_S_int t0 k).1, k, 0, ()) = _ from held_loop (tx := tx) (T := S_int) (Q := fun x => tot S_int x ≤ 4611686018427387904) (B := fun d => b_L_heldIntSS_2 d.1 d.2.1 d.2.2.1) (fun i ys x k hi hl hy hQ h0 h1 => by
      show b_L_heldIntSS_2 ys k i = _
      have hi' : (i : Int) < (ys.length : Int) := by omega
      have wi : IntKind.wrap .i64 ((i : Int) + 1) = (i : Int) + 1 := wrap64 (by omega) (by omega)
      have m1 := p_L_heldIntS x (k) (by omega) (by omega) (by omega)
      have c1 := mk_cn tx S_int x (k)
      have d1 : decide ((mk tx S_int x (k)).2 < 0) = false := decide_eq_false (by omega)
      unfold b_L_heldIntSS_2
      simp only [decide_eq_true hi', cond_true, inB_lt hi, toNat_cast, getD_of hi, hy, Option.bind_some, wi, beq_self_eq_true, Bool.not_true, cond_false, m1, d1, mk_pair, mk_int, mk_str, mk_unit]) (fun ys k hl => by
      show b_L_heldIntSS_2 ys k t0.length = _
      unfold b_L_heldIntSS_2
      rw [hl, decide_eq_false (Int.lt_irrefl _), cond_false]) (tot_all hs) h0 h1]
  rfl
end R
