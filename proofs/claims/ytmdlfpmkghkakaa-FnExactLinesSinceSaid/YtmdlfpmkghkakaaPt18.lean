/- The lines that are there since a version: both sides. -/
import Derived.Test.YtmdlfpmkghkakaaPt16
open Go Go.Dn
namespace R
set_option linter.unusedVariables false
set_option linter.unusedSectionVars false

def pickL (x : Int) (s : List Int) (l : TXT) (o : TXT) (k : Nat) : TXT := bif s.getD k 0 == x then o ++ [l.getD k []] else o
def pickF (x : Int) (s : List Int) (l : TXT) : TXT := (List.range l.length).foldl (pickL x s l) []

theorem pickF_bd (x : Int) (s : List Int) (l : TXT) : ∀ (n : Nat), n ≤ l.length → ((List.range n).foldl (pickL x s l) []).length ≤ n ∧ ∀ y ∈ (List.range n).foldl (pickL x s l) [], y ∈ l
  | 0, _ => ⟨Nat.le_refl _, fun y hy => by simp at hy⟩
  | n + 1, hn => by
    obtain ⟨h1, h2⟩ := pickF_bd x s l n (by omega)
    rw [List.range_succ, List.foldl_append, List.foldl_cons, List.foldl_nil]
    generalize (List.range n).foldl (pickL x s l) [] = o at h1 h2 ⊢
    unfold pickL
    cases s.getD n 0 == x with
    | false => exact ⟨by rw [cond_false]; omega, h2⟩
    | true =>
      rw [cond_true]
      refine ⟨by simp; omega, fun y hy => ?_⟩
      rcases List.mem_append.1 hy with hy | hy
      · exact h2 y hy
      · rw [List.mem_singleton.1 hy, getD_of (by omega : n < l.length)]
        exact List.getElem_mem _

def okL (v : List TXT) (x : Int) : Bool := versP v && inI x 0 ((v.length : Int) - 1)
def linesR (v : List TXT) (x : Int) : TXT := bif okL v x then pickF x (sinceP v (v.length - 1)) (v.getD (v.length - 1) []) else []

theorem pickL_len {x : Int} {s : List Int} {l o : TXT} {i : Nat} (h : o.length ≤ i) : (pickL x s l o i).length ≤ i + 1 := by
  unfold pickL
  cases s.getD i 0 == x with
  | false => rw [cond_false]; omega
  | true => rw [cond_true]; simp; omega

theorem pick_I {x : Int} {s : List Int} {l : TXT} (hs : s.length = l.length) (hl : l.length ≤ 40) : w_I_LinesSince_6 (x, s, ([] : TXT), l, (l.length : Int), 0, ()) = some (pickF x s l, ()) := by
  have hloop := (fix_fold (B := fun d => b_I_LinesSince_6 d.1 d.2.1 d.2.2.1 d.2.2.2.1 d.2.2.2.2.1 d.2.2.2.2.2.1) (List.range l.length) (pickL x s l) (fun o i => (x, s, o, l, (l.length : Int), (i : Int), ())) (fun o => (o, ())) (fun i o => o.length ≤ i)
    (fun i hi o ho => by
      rw [List.length_range] at hi
      rw [List.getElem_range]
      refine ⟨pickL_len ho, ?_⟩
      show b_I_LinesSince_6 x s o l (l.length : Int) (i : Int) = _
      unfold b_I_LinesSince_6
      have w2 : IntKind.wrap .i64 ((i : Int) + 1) = ((i + 1 : Nat) : Int) := by rw [wrap64 (by omega) (by omega)]; omega
      rw [decide_eq_true (by omega : (i : Int) < (l.length : Int)), cond_true, inB_lt hi, cond_true, inB_lt (by omega : i < s.length), cond_true, toNat_cast, roomB_ok (by simp; omega)]
      unfold pickL
      cases hd : s.getD i 0 == x with
      | false => simp only [cond_false, Option.bind_some, w2]
      | true => simp only [cond_true, Option.bind_some, w2])
    (fun o ho => by
      rw [List.length_range]
      show b_I_LinesSince_6 x s o l (l.length : Int) (l.length : Int) = _
      unfold b_I_LinesSince_6
      rw [decide_eq_false (by omega : ¬ ((l.length : Int) < (l.length : Int))), cond_false]) [] (Nat.le_refl _)).1
  exact hloop

theorem pick_S {v : List TXT} (h : versP v = true) {x : Int} {s : List Int} (hs : s.length = (v.getD (v.length - 1) []).length) : w_S_LinesSince_5 (v, x, [], s, (s.length : Int), 0, ()) = some (pickF x s (v.getD (v.length - 1) []), ()) := by
  obtain ⟨v1, v2, v3⟩ := vers_at h
  have hl := v3 (v.length - 1) (by omega)
  have w1 : IntKind.wrap .i64 ((v.length : Int) - 1) = ((v.length - 1 : Nat) : Int) := by rw [wrap64 (by omega) (by omega)]; omega
  generalize hL : v.getD (v.length - 1) [] = l at hs hl ⊢
  rw [hs]
  have hloop := (fix_fold (B := fun d => b_S_LinesSince_5 d.1 d.2.1 d.2.2.1 d.2.2.2.1 d.2.2.2.2.1 d.2.2.2.2.2.1) (List.range l.length) (pickL x s l) (fun o i => (v, x, o, s, (l.length : Int), (i : Int), ())) (fun o => (o, ())) (fun i o => o.length ≤ i)
    (fun i hi o ho => by
      rw [List.length_range] at hi
      rw [List.getElem_range]
      refine ⟨pickL_len ho, ?_⟩
      show b_S_LinesSince_5 v x o s (l.length : Int) (i : Int) = _
      unfold b_S_LinesSince_5
      have w2 : IntKind.wrap .i64 ((i : Int) + 1) = ((i + 1 : Nat) : Int) := by rw [wrap64 (by omega) (by omega)]; omega
      rw [decide_eq_true (by omega : (i : Int) < (l.length : Int)), cond_true, inB_lt (by omega : i < s.length), cond_true, toNat_cast, w1, inB_lt (by omega), cond_true, toNat_cast, hL, inB_lt hi, cond_true, roomB_ok (by simp; omega)]
      unfold pickL
      cases hd : s.getD i 0 == x with
      | false => simp only [cond_false, Option.bind_some, w2]
      | true => simp only [cond_true, Option.bind_some, w2])
    (fun o ho => by
      rw [List.length_range]
      show b_S_LinesSince_5 v x o s (l.length : Int) (l.length : Int) = _
      unfold b_S_LinesSince_5
      rw [decide_eq_false (by omega : ¬ ((l.length : Int) < (l.length : Int))), cond_false]) [] (Nat.le_refl _)).1
  exact hloop

theorem lines_I {v : List TXT} (hs : SmV v) (x : Int) : f_I_LinesSince v x = some ((linesR v x, okL v x, ()), ()) := by
  unfold f_I_LinesSince linesR okL
  rw [sinceOf_I hs, Option.bind_some]
  dsimp only
  cases hv : versP v with
  | false => rfl
  | true =>
    obtain ⟨v1, v2, v3⟩ := vers_at hv
    have hl := v3 (v.length - 1) (by omega)
    have w1 : IntKind.wrap .i64 ((v.length : Int) - 1) = ((v.length - 1 : Nat) : Int) := by rw [wrap64 (by omega) (by omega)]; omega
    have w0 : ((v.length - 1 : Nat) : Int) = (v.length : Int) - 1 := by omega
    simp only [Bool.not_true, cond_false]
    rw [in_I, Option.bind_some, Option.bind_some, w1]
    dsimp only
    rw [w0]
    change (bif !inI x 0 ((v.length : Int) - 1) then _ else _) = _
    cases hx : inI x 0 ((v.length : Int) - 1) with
    | false => rfl
    | true =>
      simp only [Bool.not_true, cond_false, Bool.and_self, cond_true]
      rw [← w0, inB_lt (by omega), cond_true, toNat_cast, show sinceR v = sinceP v (v.length - 1) from by unfold sinceR; rw [hv]; rfl, pick_I (by rw [sinceP_len]) hl]
      rfl

theorem lines_S {v : List TXT} (hs : SmV v) (x : Int) : f_S_LinesSince v x = some ((linesR v x, okL v x, ()), ()) := by
  unfold f_S_LinesSince linesR okL
  rw [vers_S hs, Option.bind_some]
  dsimp only
  cases hv : versP v with
  | false => rfl
  | true =>
    obtain ⟨v1, v2, v3⟩ := vers_at hv
    have w1 : IntKind.wrap .i64 ((v.length : Int) - 1) = (v.length : Int) - 1 := by rw [wrap64 (by omega) (by omega)]
    simp only [Bool.not_true, cond_false]
    rw [in_S, Option.bind_some, Option.bind_some, w1]
    dsimp only
    change (bif !inI x 0 ((v.length : Int) - 1) then _ else _) = _
    cases hx : inI x 0 ((v.length : Int) - 1) with
    | false => rfl
    | true =>
      simp only [Bool.not_true, cond_false, Bool.and_self, cond_true]
      rw [since_S hv, Option.bind_some]
      dsimp only
      rw [pick_S hv (by rw [sinceP_len])]
      rfl

theorem goodP_lines {l : TXT} (h : goodP l = true) : ∀ s ∈ l, s.length ≤ 30 := fun s hs => by
  unfold goodP linesP at h
  simp only [Bool.and_eq_true, Bool.not_eq_true'] at h
  have := List.any_eq_false.1 h.1.2 s hs
  exact (line_len (by simpa using this)).2

theorem lines_tot (v : List TXT) (x : Int) : tot S_string (linesR v x) ≤ 2000 := by
  unfold linesR
  cases h : okL v x with
  | false => exact Nat.zero_le _
  | true =>
    have hv : versP v = true := by unfold okL at h; simp only [Bool.and_eq_true] at h; exact h.1
    obtain ⟨v1, v2, v3⟩ := vers_at hv
    have hl := v3 (v.length - 1) (by omega)
    have hg : goodP (v.getD (v.length - 1) []) = true := by
      unfold versP at hv
      simp only [Bool.and_eq_true, Bool.not_eq_true'] at hv
      rw [getD_of (by omega : v.length - 1 < v.length)]
      have := List.any_eq_false.1 hv.2 _ (List.getElem_mem (by omega : v.length - 1 < v.length))
      simpa using this
    rw [cond_true]
    obtain ⟨b1, b2⟩ := pickF_bd x (sinceP v (v.length - 1)) (v.getD (v.length - 1) []) _ (Nat.le_refl _)
    rw [show tot S_string (pickF x (sinceP v (v.length - 1)) (v.getD (v.length - 1) [])) = (pickF x (sinceP v (v.length - 1)) (v.getD (v.length - 1) [])).length + ((pickF x (sinceP v (v.length - 1)) (v.getD (v.length - 1) [])).map (tot .str)).sum from tot_slice]
    have := sum_const (l := pickF x (sinceP v (v.length - 1)) (v.getD (v.length - 1) [])) (f := tot .str) (c := 30) (fun y hy => by
      rw [tot_str]
      exact goodP_lines hg y (b2 y hy))
    have : (pickF x (sinceP v (v.length - 1)) (v.getD (v.length - 1) [])).length ≤ 40 := Nat.le_trans b1 hl
    omega

theorem law_LinesSince (t0 : PV S_S_string) (t1 : PV (.int .i64)) (hw : WfV S_S_string t0) (_ : WfV (.int .i64) t1) : f_L_FnExactLinesSince t0 t1 = some ((true, ()), ()) := by
  unfold f_L_FnExactLinesSince
  rw [p_L_szStringSS t0 1048576 (by omega) (by omega) hw, Option.bind_some]
  by_cases hs : ((tot S_S_string t0 : Nat) : Int) ≤ 1048576
  · rw [szR_pos hs]
    dsimp only
    have hs' : tot S_S_string t0 ≤ 1048576 := by omega
    have hS := SmV.of (v := t0) hs' (by omega)
    have hR := lines_tot t0 t1
    have c1 : cn S_S_string t0 ≤ 0 + 1 * tot S_S_string t0 := cn_tot_le (by decide) (by decide)
    have c2 : cn S_string (linesR t0 t1) ≤ 0 + 1 * tot S_string (linesR t0 t1) := cn_tot_le (by decide) (by decide)
    have m1 := mk_cn tx S_S_string t0 1
    have m2 := mk_cn tx S_string (linesR t0 t1) 1
    rw [decide_eq_false (by omega : ¬ ((1048576 : Int) - ((tot S_S_string t0 : Nat) : Int) < 0)), cond_false]
    simp only [p_L_toStringSS t0 hs', lines_S hS, lines_I hS, Option.bind_some, p_L_eqStringS (linesR t0 t1) (by omega), p_L_eqStringSS t0 (by omega), p_L_markStringSS t0 1 (by omega) (by omega) (by omega), p_L_markStringS (linesR t0 t1) 1 (by omega) (by omega) (by omega),
      p_L_heldStringS (linesR t0 t1) 1 (by omega) (by omega) (by omega), decide_eq_false (by omega : ¬ (mk tx S_S_string t0 1).2 < 0), decide_eq_false (by omega : ¬ (mk tx S_string (linesR t0 t1) 1).2 < 0), beq_self_eq_true, Bool.not_true, cond_false]
  · rw [szR_neg hs]; rfl
end R
