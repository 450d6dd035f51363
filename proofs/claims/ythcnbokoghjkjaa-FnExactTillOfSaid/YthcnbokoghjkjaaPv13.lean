/- For each line its place in the next version: both sides. -/
import Derived.Test.YthcnbokoghjkjaaPv12
open Go Go.Dn
namespace R
set_option linter.unusedVariables false
set_option linter.unusedSectionVars false

def setP (o : List Int) (p : Nat × Nat) : List Int := o.set p.1 (p.2 : Int)
def matesP (a b : TXT) : List Int := (pairsP a b).foldl setP (List.replicate a.length (-1))

theorem pairs_in {a b : TXT} : ∀ (n i j : Nat), i ≤ a.length → j ≤ b.length → T a b i j = n → ∀ p ∈ pairsF a b n i j, p.1 < a.length ∧ p.2 < b.length
  | 0, i, j, hi, hj, hT, p, hp => by simp [pairsF] at hp
  | n + 1, i, j, hi, hj, hT, p, hp => by
    obtain ⟨s1, s2, s3, s4, s5, s6, s7⟩ := next_spec hi hj (by omega : 0 < T a b i j)
    simp only [pairsF, List.mem_cons] at hp
    rcases hp with rfl | hp
    · exact ⟨s2, s4⟩
    · exact pairs_in n _ _ (by omega) (by omega) (next_T hi hj hT) p hp
theorem pairsP_in {a b : TXT} {p : Nat × Nat} (h : p ∈ pairsP a b) : p.1 < a.length ∧ p.2 < b.length := pairs_in _ 0 0 (Nat.zero_le _) (Nat.zero_le _) rfl p h
theorem pairsP_len (a b : TXT) : (pairsP a b).length = T a b 0 0 := pairs_len a b _ 0 0

theorem foldl_setP {xs : List (Nat × Nat)} : ∀ {o : List Int}, (xs.foldl setP o).length = o.length := by
  induction xs with
  | nil => intro o; rfl
  | cons x xs ih => intro o; rw [List.foldl_cons, ih]; simp [setP]
theorem matesP_len (a b : TXT) : (matesP a b).length = a.length := by unfold matesP; rw [foldl_setP, List.length_replicate]
theorem foldl_mem {n : Nat} : ∀ {xs : List (Nat × Nat)} {o : List Int}, (∀ p ∈ xs, p.2 < n) → (∀ x ∈ o, x = -1 ∨ (0 ≤ x ∧ x < n)) → ∀ x ∈ xs.foldl setP o, x = -1 ∨ (0 ≤ x ∧ x < (n : Int)) := by
  intro xs
  induction xs with
  | nil => intro o _ h; exact h
  | cons p xs ih =>
    intro o hp h
    rw [List.foldl_cons]
    refine ih (fun q hq => hp q (List.mem_cons_of_mem _ hq)) (fun x hx => ?_)
    rcases List.mem_or_eq_of_mem_set hx with hx | rfl
    · exact h x hx
    · exact .inr ⟨by omega, by have := hp p (List.mem_cons_self); omega⟩
theorem matesP_val {a b : TXT} {x : Int} (h : x ∈ matesP a b) : x = -1 ∨ (0 ≤ x ∧ x < (b.length : Int)) :=
  foldl_mem (n := b.length) (fun p hp => (pairsP_in hp).2) (fun y hy => .inl (List.eq_of_mem_replicate hy)) x h
theorem matesP_at {a b : TXT} {k : Nat} (hk : k < a.length) {d : Int} : (matesP a b).getD k d = -1 ∨ (0 ≤ (matesP a b).getD k d ∧ (matesP a b).getD k d < (b.length : Int)) := by
  rw [getD_of (by rw [matesP_len]; exact hk)]
  exact matesP_val (List.getElem_mem _)

section
variable {a b : TXT} (ha : a.length ≤ 1048576) (hb : b.length ≤ 1048576)
include ha hb

theorem mates_I : f_I_mates a b = some ((matesP a b, ()), ()) := by
  unfold f_I_mates
  have hrep : f_slices_Repeat_int [(-1)] (a.length : Int) = some ((List.replicate a.length (-1), ()), ()) := by
    unfold f_slices_Repeat_int repF
    dsimp only
    rw [decide_eq_true (by omega : (0 : Int) ≤ (a.length : Int)), decide_eq_true (show (a.length : Int) ≤ 1099511627776 by omega)]
    rfl
  rw [hrep, Option.bind_some, clines_I ha hb, Option.bind_some]
  dsimp only
  have hsm := T_small (b := b) ha 0 0
  have hl := pairsP_len a b
  have hloop := (fix_fold (B := fun d => b_I_mates_3 d.1 d.2.1 d.2.2.1 d.2.2.2.1) (pairsP a b) setP (fun o i => (o, (pairsP a b).map encL, (((pairsP a b).map encL).length : Int), (i : Int), ())) (fun o => (o, ())) (fun _ o => o.length = a.length)
    (fun i hi o ho => by
      refine ⟨by simp [setP, ho], ?_⟩
      show b_I_mates_3 o ((pairsP a b).map encL) (((pairsP a b).map encL).length : Int) i = _
      unfold b_I_mates_3
      have hin := pairsP_in (List.getElem_mem hi)
      have hget : ((pairsP a b).map encL).getD i [] = encL (pairsP a b)[i] := by rw [getD_of (by simpa using hi)]; simp
      rw [List.length_map, decide_eq_true (by omega : (i : Int) < ((pairsP a b).length : Int)), cond_true, inB_lt hi, cond_true, toNat_cast, hget]
      show (bif inB ((0 : Nat) : Int) 2 then (bif inB ((1 : Nat) : Int) 2 then (bif inB (((pairsP a b)[i].1 : Nat) : Int) o.length then _ else _) else _) else _) = _
      rw [inB_lt (by omega), cond_true, inB_lt (by omega), cond_true, inB_lt (by rw [ho]; exact hin.1), cond_true, wrap64 (by omega) (by omega)]
      rfl)
    (fun o ho => by
      show b_I_mates_3 o ((pairsP a b).map encL) (((pairsP a b).map encL).length : Int) ((pairsP a b).length : Int) = _
      unfold b_I_mates_3
      rw [List.length_map, decide_eq_false (by omega : ¬ (((pairsP a b).length : Int) < ((pairsP a b).length : Int))), cond_false]) (List.replicate a.length (-1)) (by simp)).1
  rw [show w_I_mates_3 (List.replicate a.length (-1), (pairsP a b).map encL, (((pairsP a b).map encL).length : Int), 0, ()) = _ from hloop, Option.bind_some]
  rfl

theorem next_S : f_S_l12Next a b = some ((matesP a b, ()), ()) := by
  unfold f_S_l12Next
  rw [room_len (by omega), cond_true, toNat_cast, List.length_replicate]
  have hsm := T_small (b := b) ha 0 0
  have hl := pairsP_len a b
  have hfill := fix_all (B := fun d => b_S_l12Next_3 d.1 d.2.1 d.2.2.1 d.2.2.2.1 d.2.2.2.2.1) (fun i => (a, b, (List.replicate a.length (-1 : Int)).take i ++ List.replicate ((List.replicate a.length (-1 : Int)).length - i) (0 : Int), (a.length : Int), (i : Int), ())) a.length
    (r := (a, b, List.replicate a.length (-1 : Int), ()))
    (fun i hi => by
      show b_S_l12Next_3 a b ((List.replicate a.length (-1 : Int)).take i ++ List.replicate ((List.replicate a.length (-1 : Int)).length - i) (0 : Int)) a.length i = _
      unfold b_S_l12Next_3
      have hi' : i < (List.replicate a.length (-1 : Int)).length := by rw [List.length_replicate]; exact hi
      have hs := set_fill (d := (0 : Int)) hi'
      rw [List.getElem_replicate] at hs
      rw [decide_eq_true (by omega : (i : Int) < (a.length : Int)), cond_true, inB_lt (by simp; omega), cond_true, toNat_cast, hs, wrap64 (by omega) (by omega)]
      rfl)
    (by
      show b_S_l12Next_3 a b _ a.length (a.length : Int) = _
      unfold b_S_l12Next_3
      rw [decide_eq_false (by omega : ¬ ((a.length : Int) < (a.length : Int))), cond_false]
      simp)
  rw [show w_S_l12Next_3 (a, b, List.replicate a.length (0 : Int), (a.length : Int), 0, ()) = _ from by
    refine Eq.trans ?_ hfill
    unfold w_S_l12Next_3
    congr 1
    simp, Option.bind_some]
  dsimp only
  rw [pairs_S ha hb, Option.bind_some]
  dsimp only
  have hloop := (fix_fold (B := fun d => b_S_l12Next_8 d.1 d.2.1 d.2.2.1 d.2.2.2.1) (pairsP a b) setP (fun o i => (o, (pairsP a b).map encP, (((pairsP a b).map encP).length : Int), (i : Int), ())) (fun o => (o, ())) (fun _ o => o.length = a.length)
    (fun i hi o ho => by
      refine ⟨by simp [setP, ho], ?_⟩
      show b_S_l12Next_8 o ((pairsP a b).map encP) (((pairsP a b).map encP).length : Int) i = _
      unfold b_S_l12Next_8
      have hin := pairsP_in (List.getElem_mem hi)
      have hget : ∀ d, ((pairsP a b).map encP).getD i d = encP (pairsP a b)[i] := fun d => by rw [getD_of (by simpa using hi)]; simp
      rw [List.length_map, decide_eq_true (by omega : (i : Int) < ((pairsP a b).length : Int)), cond_true, inB_lt hi, cond_true, toNat_cast]
      erw [hget]
      show (bif inB (((pairsP a b)[i].1 : Nat) : Int) o.length then _ else _) = _
      rw [inB_lt (by rw [ho]; exact hin.1), cond_true, wrap64 (by omega) (by omega)]
      rfl)
    (fun o ho => by
      show b_S_l12Next_8 o ((pairsP a b).map encP) (((pairsP a b).map encP).length : Int) ((pairsP a b).length : Int) = _
      unfold b_S_l12Next_8
      rw [List.length_map, decide_eq_false (by omega : ¬ (((pairsP a b).length : Int) < ((pairsP a b).length : Int))), cond_false]) (List.replicate a.length (-1)) (by simp)).1
  rw [show w_S_l12Next_8 (List.replicate a.length (-1), (pairsP a b).map encP, (((pairsP a b).map encP).length : Int), 0, ()) = _ from hloop, Option.bind_some]
  rfl
end
end R
