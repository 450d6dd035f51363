/- Up to which version each line stays: both sides. -/
import Derived.Test.YthcnbokoghjkjaaPv14
open Go Go.Dn
namespace R
set_option linter.unusedVariables false
set_option linter.unusedSectionVars false

def tillV (v : List TXT) : Nat → Nat → Nat → Int
  | 0, n, _ => (n : Int)
  | f + 1, n, k => bif decide ((matesP (v.getD n []) (v.getD (n + 1) [])).getD k 0 < 0) then (n : Int) else tillV v f (n + 1) ((matesP (v.getD n []) (v.getD (n + 1) [])).getD k 0).toNat

theorem trF_till (v : List TXT) : ∀ (f n k : Nat) (out : List Int), ((trF v f n (k : Int) out).length : Int) + n = out.length + tillV v f n k
  | 0, n, k, out => by simp [trF, tillV]
  | f + 1, n, k, out => by
    unfold trF tillV
    rw [toNat_cast]
    cases hd : decide ((matesP (v.getD n []) (v.getD (n + 1) [])).getD k 0 < 0) with
    | true => rfl
    | false =>
      have hd := of_decide_eq_false hd
      obtain ⟨q, hq⟩ := Int.eq_ofNat_of_zero_le (by omega : 0 ≤ (matesP (v.getD n []) (v.getD (n + 1) [])).getD k 0)
      rw [hq, cond_false, cond_false, toNat_cast]
      have := trF_till v f (n + 1) q (out ++ [(q : Int)])
      rw [List.length_append, List.length_singleton] at this
      omega

theorem tillV_bd (v : List TXT) : ∀ (f n k : Nat), (n : Int) ≤ tillV v f n k ∧ tillV v f n k ≤ (n + f : Nat)
  | 0, n, k => by simp [tillV]
  | f + 1, n, k => by
    unfold tillV
    cases hd : decide ((matesP (v.getD n []) (v.getD (n + 1) [])).getD k 0 < 0) with
    | true => rw [cond_true]; omega
    | false =>
      rw [cond_false]
      have := tillV_bd v f (n + 1) ((matesP (v.getD n []) (v.getD (n + 1) [])).getD k 0).toNat
      omega

def tillP (v : List TXT) (n : Nat) : List Int := mkT (v.getD n []).length fun k => tillV v (v.length - 1 - n) n k
def tillsP (v : List TXT) : List (List Int) := mkT v.length (tillP v)
theorem tillP_len (v : List TXT) (n : Nat) : (tillP v n).length = (v.getD n []).length := mkT_len

theorem mkT_succ {α : Type} (n : Nat) (f : Nat → α) : mkT (n + 1) f = mkT n f ++ [f n] := by simp [mkT, List.range_succ]

def tabR (v : List TXT) (m : Nat) (row : List Int) : List (List Int) := mkT v.length fun r => if r = m then row else if m < r then tillP v r else []
def tabQ (v : List TXT) (n : Nat) : List (List Int) := mkT v.length fun r => if n ≤ r then tillP v r else []
theorem tabR_len {v : List TXT} {m : Nat} {row : List Int} : (tabR v m row).length = v.length := mkT_len
theorem tabQ_len {v : List TXT} {m : Nat} : (tabQ v m).length = v.length := mkT_len
theorem tabR_at {v : List TXT} {m : Nat} {row d : List Int} (h : m < v.length) : (tabR v m row).getD m d = row := by
  unfold tabR
  rw [mkT_get h, if_pos rfl]
theorem tabR_next {v : List TXT} {m : Nat} {row d : List Int} (h : m + 1 < v.length) : (tabR v m row).getD (m + 1) d = tillP v (m + 1) := by
  unfold tabR
  rw [mkT_get h, if_neg (by omega), if_pos (by omega)]
theorem tabR_set {v : List TXT} {m : Nat} {row row' : List Int} : (tabR v m row).set m row' = tabR v m row' := by
  unfold tabR
  rw [mkT_set]
  refine mkT_ext fun r hr => ?_
  by_cases h : r = m
  · rw [if_pos h, if_pos h]
  · rw [if_neg h, if_neg h, if_neg h]
theorem tabQ_set {v : List TXT} {m : Nat} {row : List Int} : (tabQ v (m + 1)).set m row = tabR v m row := by
  unfold tabR tabQ
  rw [mkT_set]
  refine mkT_ext fun r hr => ?_
  by_cases h : r = m
  · rw [if_pos h, if_pos h]
  · rw [if_neg h, if_neg h]
    by_cases h2 : m < r
    · rw [if_pos (by omega), if_pos h2]
    · rw [if_neg (by omega), if_neg h2]
theorem tabR_done {v : List TXT} {m : Nat} : tabR v m (tillP v m) = tabQ v m := by
  unfold tabR tabQ
  refine mkT_ext fun r hr => ?_
  by_cases h : r = m
  · subst h; rw [if_pos rfl, if_pos (Nat.le_refl _)]
  · rw [if_neg h]
    by_cases h2 : m < r
    · rw [if_pos h2, if_pos (by omega)]
    · rw [if_neg h2, if_neg (by omega)]

section
variable {v : List TXT} (h : versP v = true)
include h

theorem own_I {n : Nat} (hn : n < v.length) (out : List (List Int)) :
    w_I_TillOf_9 (v, out, (n : Int), ([] : List Int), v, (v.length : Int), (n : Int), ((v.getD n []).length : Int), 0, ()) = some (v, out, tillP v n, v, (v.length : Int), (n : Int), ()) := by
  obtain ⟨v1, v2, v3⟩ := vers_at h
  have ha := v3 n hn
  have hloop := fix_all (B := fun d => b_I_TillOf_9 d.1 d.2.1 d.2.2.1 d.2.2.2.1 d.2.2.2.2.1 d.2.2.2.2.2.1 d.2.2.2.2.2.2.1 d.2.2.2.2.2.2.2.1 d.2.2.2.2.2.2.2.2.1)
    (fun i => (v, out, (n : Int), mkT i (fun k => tillV v (v.length - 1 - n) n k), v, (v.length : Int), (n : Int), ((v.getD n []).length : Int), (i : Int), ())) (v.getD n []).length (r := (v, out, tillP v n, v, (v.length : Int), (n : Int), ()))
    (fun i hi => by
      show b_I_TillOf_9 v out (n : Int) (mkT i (fun k => tillV v (v.length - 1 - n) n k)) v (v.length : Int) (n : Int) ((v.getD n []).length : Int) (i : Int) = _
      unfold b_I_TillOf_9 f_I_trace
      have hl := trF_len v (v.length - 1 - n) n (i : Int) [(i : Int)]
      have ht := trF_till v (v.length - 1 - n) n i [(i : Int)]
      rw [List.length_singleton] at hl ht
      rw [decide_eq_true (by omega : (i : Int) < ((v.getD n []).length : Int)), cond_true, tr_I h (v.length - 1 - n) n (i : Int) [(i : Int)] (by omega) (by omega) (by omega) (by simp; omega), Option.bind_some, Option.bind_some]
      dsimp only
      have w1 : IntKind.wrap .i64 ((n : Int) + ((trF v (v.length - 1 - n) n (i : Int) [(i : Int)]).length : Int)) = (n : Int) + ((trF v (v.length - 1 - n) n (i : Int) [(i : Int)]).length : Int) := wrap64 (by omega) (by omega)
      have w2 : IntKind.wrap .i64 ((n : Int) + ((trF v (v.length - 1 - n) n (i : Int) [(i : Int)]).length : Int) - 1) = (n : Int) + ((trF v (v.length - 1 - n) n (i : Int) [(i : Int)]).length : Int) - 1 := wrap64 (by omega) (by omega)
      have w3 : IntKind.wrap .i64 ((i : Int) + 1) = (i : Int) + 1 := wrap64 (by omega) (by omega)
      rw [roomB_ok (by rw [mkT_len]; simp; omega), cond_true, w1, w2, w3, mkT_succ,
        show (n : Int) + ((trF v (v.length - 1 - n) n (i : Int) [(i : Int)]).length : Int) - 1 = tillV v (v.length - 1 - n) n i from by omega]
      rfl)
    (by
      show b_I_TillOf_9 v out (n : Int) _ v (v.length : Int) (n : Int) ((v.getD n []).length : Int) ((v.getD n []).length : Int) = _
      unfold b_I_TillOf_9
      rw [decide_eq_false (by omega : ¬ (((v.getD n []).length : Int) < ((v.getD n []).length : Int))), cond_false]
      rfl)
  exact hloop

theorem tills_I : w_I_TillOf_5 (v, ([] : List (List Int)), v, (v.length : Int), 0, ()) = some (tillsP v, ()) := by
  obtain ⟨v1, v2, v3⟩ := vers_at h
  have hloop := fix_all (B := fun d => b_I_TillOf_5 d.1 d.2.1 d.2.2.1 d.2.2.2.1 d.2.2.2.2.1) (fun i => (v, mkT i (tillP v), v, (v.length : Int), (i : Int), ())) v.length (r := (tillsP v, ()))
    (fun i hi => by
      show b_I_TillOf_5 v (mkT i (tillP v)) v (v.length : Int) (i : Int) = _
      unfold b_I_TillOf_5
      rw [decide_eq_true (by omega : (i : Int) < (v.length : Int)), cond_true, inB_lt hi, cond_true, toNat_cast, own_I h hi, Option.bind_some]
      dsimp only
      rw [roomB_ok (by rw [mkT_len]; simp; omega), cond_true, wrap64 (by omega) (by omega), mkT_succ]
      rfl)
    (by
      show b_I_TillOf_5 v (mkT v.length (tillP v)) v (v.length : Int) (v.length : Int) = _
      unfold b_I_TillOf_5
      rw [decide_eq_false (by omega : ¬ ((v.length : Int) < (v.length : Int))), cond_false]
      rfl)
  exact hloop

theorem fill_S {m : Nat} (hm : m < v.length) :
    w_S_TillOf_9 (v, tabR v m (List.replicate (v.getD m []).length (0 : Int)), (m : Int), ((v.getD m []).length : Int), 0, ()) = some (v, tabR v m (mkT (v.getD m []).length fun _ => (m : Int)), (m : Int), ()) := by
  obtain ⟨v1, v2, v3⟩ := vers_at h
  have ha := v3 m hm
  generalize (v.getD m []).length = c at ha ⊢
  have hloop := fix_all (B := fun d => b_S_TillOf_9 d.1 d.2.1 d.2.2.1 d.2.2.2.1 d.2.2.2.2.1) (fun i => (v, tabR v m (mkT c fun k => if k < i then (m : Int) else 0), (m : Int), (c : Int), (i : Int), ())) c (r := (v, tabR v m (mkT c fun _ => (m : Int)), (m : Int), ()))
    (fun i hi => by
      show b_S_TillOf_9 v (tabR v m (mkT c fun k => if k < i then (m : Int) else 0)) (m : Int) (c : Int) (i : Int) = _
      unfold b_S_TillOf_9
      rw [decide_eq_true (by omega : (i : Int) < (c : Int)), cond_true, inB_lt (by rw [tabR_len]; exact hm), cond_true, toNat_cast, tabR_at hm, inB_lt (by rw [mkT_len]; exact hi), cond_true, tabR_set, toNat_cast, wrap64 (by omega) (by omega), mkT_set]
      rw [show (mkT c fun r => if r = i then (m : Int) else if r < i then (m : Int) else 0) = mkT c fun r => if r < i + 1 then (m : Int) else 0 from mkT_ext fun r _ => by
        by_cases h1 : r = i
        · rw [if_pos h1, if_pos (by omega)]
        · rw [if_neg h1]
          by_cases h2 : r < i
          · rw [if_pos h2, if_pos (by omega)]
          · rw [if_neg h2, if_neg (by omega)]]
      rfl)
    (by
      show b_S_TillOf_9 v (tabR v m (mkT c fun k => if k < c then (m : Int) else 0)) (m : Int) (c : Int) (c : Int) = _
      unfold b_S_TillOf_9
      rw [decide_eq_false (by omega : ¬ ((c : Int) < (c : Int))), cond_false, show (mkT c fun k => if k < c then (m : Int) else 0) = mkT c fun _ => (m : Int) from mkT_ext fun r hr => if_pos hr])
  refine Eq.trans ?_ hloop
  rw [mkT_rep]
  rfl

theorem upd_S {m : Nat} (hm : m + 1 < v.length) :
    w_S_TillOf_15 (v, tabR v m (mkT (v.getD m []).length fun _ => (m : Int)), (m : Int), matesP (v.getD m []) (v.getD (m + 1) []), ((matesP (v.getD m []) (v.getD (m + 1) [])).length : Int), 0, ()) = some (v, tabR v m (tillP v m), (m : Int), ()) := by
  obtain ⟨v1, v2, v3⟩ := vers_at h
  have ha := v3 m (by omega)
  have hb := v3 (m + 1) hm
  have hml := matesP_len (v.getD m []) (v.getD (m + 1) [])
  have hat : ∀ k, k < (v.getD m []).length → _ := fun k hk => matesP_at (b := v.getD (m + 1) []) hk (d := 0)
  have hF : v.length - 1 - m = (v.length - 1 - (m + 1)) + 1 := by omega
  have htill : ∀ k, tillV v (v.length - 1 - m) m k = bif decide ((matesP (v.getD m []) (v.getD (m + 1) [])).getD k 0 < 0) then (m : Int) else tillV v (v.length - 1 - (m + 1)) (m + 1) ((matesP (v.getD m []) (v.getD (m + 1) [])).getD k 0).toNat := fun k => by rw [hF]; rfl
  generalize matesP (v.getD m []) (v.getD (m + 1) []) = mt at hml hat htill ⊢
  rw [hml]
  have hloop := fix_all (B := fun d => b_S_TillOf_15 d.1 d.2.1 d.2.2.1 d.2.2.2.1 d.2.2.2.2.1 d.2.2.2.2.2.1) (fun i => (v, tabR v m (mkT (v.getD m []).length fun k => if k < i then tillV v (v.length - 1 - m) m k else (m : Int)), (m : Int), mt, ((v.getD m []).length : Int), (i : Int), ())) (v.getD m []).length
    (r := (v, tabR v m (tillP v m), (m : Int), ()))
    (fun i hi => by
      show b_S_TillOf_15 v (tabR v m (mkT (v.getD m []).length fun k => if k < i then tillV v (v.length - 1 - m) m k else (m : Int))) (m : Int) mt ((v.getD m []).length : Int) (i : Int) = _
      unfold b_S_TillOf_15
      have w1 : IntKind.wrap .i64 ((m : Int) + 1) = ((m + 1 : Nat) : Int) := by rw [wrap64 (by omega) (by omega)]; omega
      have w2 : IntKind.wrap .i64 ((i : Int) + 1) = ((i + 1 : Nat) : Int) := by rw [wrap64 (by omega) (by omega)]; omega
      have hai := hat i hi
      have hti := htill i
      have hone : ∀ x : Int, x = tillV v (v.length - 1 - m) m i → (mkT (v.getD m []).length fun r => if r = i then x else if r < i then tillV v (v.length - 1 - m) m r else (m : Int)) = mkT (v.getD m []).length fun r => if r < i + 1 then tillV v (v.length - 1 - m) m r else (m : Int) := fun x hx => mkT_ext fun r _ => by
        by_cases h1 : r = i
        · rw [if_pos h1, if_pos (by omega), hx, h1]
        · rw [if_neg h1]
          by_cases h2 : r < i
          · rw [if_pos h2, if_pos (by omega)]
          · rw [if_neg h2, if_neg (by omega)]
      rw [decide_eq_true (by omega : (i : Int) < ((v.getD m []).length : Int)), cond_true, inB_lt (by omega : i < mt.length), cond_true, toNat_cast, w1, inB_lt (by rw [tabR_len]; omega), cond_true, inB_lt (by rw [tabR_len]; omega), cond_true, toNat_cast, toNat_cast, tabR_at (by omega), tabR_next hm, tillP_len, inB_lt (by rw [mkT_len]; exact hi), tabR_set, mkT_set]
      by_cases hd : mt.getD i 0 ≥ 0
      · obtain ⟨q, hq⟩ := Int.eq_ofNat_of_zero_le hd
        rw [hq] at hai hti ⊢
        rw [decide_eq_false (by omega : ¬ ((q : Int) < 0)), cond_false, toNat_cast] at hti
        rw [decide_eq_true (by omega : (q : Int) ≥ 0), cond_true, inB_lt (by omega), cond_true, cond_true, Option.bind_some, toNat_cast, hone _ (by rw [hti]; unfold tillP; rw [mkT_get (by omega)])]
        simp only [w2]
      · rw [decide_eq_true (by omega : mt.getD i 0 < 0), cond_true] at hti
        rw [decide_eq_false hd, cond_false, Option.bind_some]
        simp only [w2]
        rw [show (mkT (v.getD m []).length fun k => if k < i then tillV v (v.length - 1 - m) m k else (m : Int)) = mkT (v.getD m []).length fun r => if r < i + 1 then tillV v (v.length - 1 - m) m r else (m : Int) from mkT_ext fun r _ => by
          by_cases h1 : r = i
          · rw [if_neg (by omega), if_pos (by omega), h1, hti]
          · by_cases h2 : r < i
            · rw [if_pos h2, if_pos (by omega)]
            · rw [if_neg h2, if_neg (by omega)]])
    (by
      show b_S_TillOf_15 v (tabR v m (mkT (v.getD m []).length fun k => if k < (v.getD m []).length then tillV v (v.length - 1 - m) m k else (m : Int))) (m : Int) mt ((v.getD m []).length : Int) ((v.getD m []).length : Int) = _
      unfold b_S_TillOf_15
      rw [decide_eq_false (by omega : ¬ (((v.getD m []).length : Int) < ((v.getD m []).length : Int))), cond_false, show (mkT (v.getD m []).length fun k => if k < (v.getD m []).length then tillV v (v.length - 1 - m) m k else (m : Int)) = tillP v m from mkT_ext fun r hr => if_pos hr])
  exact hloop

theorem tills_S : w_S_TillOf_5 (v, List.replicate v.length ([] : List Int), (v.length : Int) - 1, ()) = some (tillsP v, ()) := by
  obtain ⟨v1, v2, v3⟩ := vers_at h
  have := fix_down (B := fun d => b_S_TillOf_5 d.1 d.2.1 d.2.2.1) (fun m => (v, tabQ v m, (m : Int) - 1, ())) (r := (tillsP v, ()))
    (by
      show b_S_TillOf_5 v (tabQ v 0) (((0 : Nat) : Int) - 1) = _
      unfold b_S_TillOf_5
      rw [decide_eq_false (by omega : ¬ ((((0 : Nat) : Int) - 1) ≥ 0)), cond_false, show tabQ v 0 = tillsP v from mkT_ext fun r _ => if_pos (Nat.zero_le r)]) v.length
    (fun m hm => by
      show b_S_TillOf_5 v (tabQ v (m + 1)) (((m + 1 : Nat) : Int) - 1) = _
      rw [show ((m + 1 : Nat) : Int) - 1 = (m : Int) from by omega]
      unfold b_S_TillOf_5
      have ha := v3 m hm
      have w1 : IntKind.wrap .i64 ((m : Int) + 1) = ((m + 1 : Nat) : Int) := by rw [wrap64 (by omega) (by omega)]; omega
      have w2 : IntKind.wrap .i64 ((v.length : Int) - 1) = (v.length : Int) - 1 := wrap64 (by omega) (by omega)
      have w3 : IntKind.wrap .i64 ((m : Int) - 1) = (m : Int) - 1 := wrap64 (by omega) (by omega)
      rw [decide_eq_true (by omega : (m : Int) ≥ 0), cond_true, inB_lt hm, cond_true, toNat_cast, room_len (by omega), cond_true, inB_lt (by rw [tabQ_len]; exact hm), cond_true, toNat_cast, tabQ_set, inB_lt (by rw [tabR_len]; exact hm), cond_true, tabR_at hm, List.length_replicate, fill_S h hm, Option.bind_some]
      dsimp only
      rw [w1, w2, toNat_cast, toNat_cast]
      by_cases hl : m + 1 < v.length
      · rw [decide_eq_true (by omega : (m : Int) < (v.length : Int) - 1), cond_true, inB_lt hm, cond_true, inB_lt hl, cond_true, next_S (by omega) (by have := v3 (m + 1) hl; omega), Option.bind_some]
        dsimp only
        rw [upd_S h hl, Option.bind_some, Option.bind_some]
        dsimp only
        rw [tabR_done, w3]
      · rw [decide_eq_false (by omega : ¬ ((m : Int) < (v.length : Int) - 1)), cond_false, Option.bind_some]
        dsimp only
        rw [show (mkT (v.getD m []).length fun _ => (m : Int)) = tillP v m from mkT_ext fun k _ => by rw [show v.length - 1 - m = 0 from by omega]; rfl, tabR_done, w3])
  refine Eq.trans ?_ this
  rw [mkT_rep, show (mkT v.length fun _ => ([] : List Int)) = tabQ v v.length from mkT_ext fun r hr => (if_neg (by omega)).symm]
  rfl
end

def tillR (v : List TXT) : List (List Int) := bif versP v then tillsP v else []

theorem till_I {v : List TXT} (hs : SmV v) : f_I_TillOf v = some ((tillR v, versP v, ()), ()) := by
  unfold f_I_TillOf tillR
  rw [vers_I hs, Option.bind_some]
  dsimp only
  cases hv : versP v with
  | false => rfl
  | true =>
    simp only [Bool.not_true, cond_false, cond_true]
    rw [tills_I hv]
    rfl
theorem till_S {v : List TXT} (hs : SmV v) : f_S_TillOf v = some ((tillR v, versP v, ()), ()) := by
  unfold f_S_TillOf tillR
  rw [vers_S hs, Option.bind_some]
  dsimp only
  cases hv : versP v with
  | false => rfl
  | true =>
    obtain ⟨v1, v2, v3⟩ := vers_at hv
    simp only [Bool.not_true, cond_false, cond_true]
    rw [room_len (by omega), cond_true, toNat_cast, wrap64 (by omega) (by omega), tills_S hv]
    rfl

theorem tot_ints (l : List Int) : tot S_int l = l.length := by
  rw [show tot S_int l = l.length + (l.map (tot (.int .i64))).sum from tot_slice]
  have : (l.map (tot (.int .i64))).sum = 0 := sum_zero (fun x => by simp only [tot])
  omega

theorem till_tot (v : List TXT) : tot S_S_int (tillR v) ≤ 2000 := by
  unfold tillR
  cases h : versP v with
  | false => exact Nat.zero_le _
  | true =>
    obtain ⟨v1, v2, v3⟩ := vers_at h
    rw [cond_true, show tot S_S_int (tillsP v) = (tillsP v).length + ((tillsP v).map (tot S_int)).sum from tot_slice]
    have hl : (tillsP v).length = v.length := mkT_len
    have := sum_const (l := tillsP v) (f := tot S_int) (c := 40) (fun x hx => by
      obtain ⟨m, hm, rfl⟩ := List.mem_map.1 hx
      rw [tot_ints, tillP_len]
      exact v3 m (List.mem_range.1 hm))
    omega

theorem law_TillOf (t0 : PV S_S_string) (hw : WfV S_S_string t0) : f_L_FnExactTillOf t0 = some ((true, ()), ()) := by
  unfold f_L_FnExactTillOf
  rw [p_L_szStringSS t0 1048576 (by omega) (by omega) hw, Option.bind_some]
  by_cases hs : ((tot S_S_string t0 : Nat) : Int) ≤ 1048576
  · rw [szR_pos hs]
    dsimp only
    have hs' : tot S_S_string t0 ≤ 1048576 := by omega
    have hS := SmV.of (v := t0) hs' (by omega)
    have hR := till_tot t0
    have c1 : cn S_S_string t0 ≤ 0 + 1 * tot S_S_string t0 := cn_tot_le (by decide) (by decide)
    have c2 : cn S_S_int (tillR t0) ≤ 0 + 1 * tot S_S_int (tillR t0) := cn_tot_le (by decide) (by decide)
    have m1 := mk_cn tx S_S_string t0 1
    have m2 := mk_cn tx S_S_int (tillR t0) 1
    rw [decide_eq_false (by omega : ¬ ((1048576 : Int) - ((tot S_S_string t0 : Nat) : Int) < 0)), cond_false]
    simp only [p_L_toStringSS t0 hs', till_S hS, till_I hS, Option.bind_some, p_L_eqIntSS (tillR t0) (by omega), p_L_eqStringSS t0 (by omega), p_L_markStringSS t0 1 (by omega) (by omega) (by omega), p_L_markIntSS (tillR t0) 1 (by omega) (by omega) (by omega),
      p_L_heldIntSS (tillR t0) 1 (by omega) (by omega) (by omega), decide_eq_false (by omega : ¬ (mk tx S_S_string t0 1).2 < 0), decide_eq_false (by omega : ¬ (mk tx S_S_int (tillR t0) 1).2 < 0), beq_self_eq_true, Bool.not_true, cond_false]
  · rw [szR_neg hs]; rfl
end R
