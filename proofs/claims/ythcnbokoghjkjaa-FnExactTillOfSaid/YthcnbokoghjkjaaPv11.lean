/- Versions, and how much turns from each to the next: both sides answer the same. -/
import Derived.Test.YthcnbokoghjkjaaPv10
open Go Go.Dn
namespace R
set_option linter.unusedVariables false

theorem sum_const {α : Type} {f : α → Nat} {c : Nat} : ∀ {l : List α}, (∀ x ∈ l, f x ≤ c) → (l.map f).sum ≤ c * l.length
  | [], _ => by simp
  | x :: l, h => by
    simp only [List.map_cons, List.sum_cons, List.length_cons]
    have h1 := h x (List.mem_cons_self ..)
    have h2 := sum_const (l := l) fun y hy => h y (List.mem_cons_of_mem _ hy)
    rw [Nat.mul_add]
    omega

def versP (v : List TXT) : Bool := inI (v.length : Int) 1 8 && !(v.any fun l => !goodP l)
def SmV (v : List TXT) : Prop := v.length ≤ 4611686018427387904 ∧ ∀ l ∈ v, Sm l

theorem SmV.of {e : TypeId} {v : List TXT} {n : Nat} (h : tot (.slice e S_string) v ≤ n) (hn : n ≤ 4611686018427387904) : SmV v := by
  refine ⟨?_, fun l hl => Sm.of (n := n) (tot_all h l hl) hn⟩
  have h' := h
  rw [tot_slice] at h'
  omega

theorem vers_I {v : List TXT} (hs : SmV v) : f_I_areVersions v = some ((versP v, ()), ()) := by
  unfold f_I_areVersions versP
  rw [in_I, Option.bind_some]
  dsimp only
  unfold inI
  generalize hb : (decide ((v.length : Int) ≥ 1) && decide ((v.length : Int) ≤ 8)) = b
  cases b
  · rfl
  · have hl := hs.1
    rw [cond_true, show w_I_areVersions_203_2 (v, false, v, (v.length : Int), true, true, v, v, false, v, v, (v.length : Int), 0, ()) = _ from
      fix_any (B := fun d => b_I_areVersions_203_2 d.1 d.2.1 d.2.2.1 d.2.2.2.1 d.2.2.2.2.1 d.2.2.2.2.2.1 d.2.2.2.2.2.2.1 d.2.2.2.2.2.2.2.1 d.2.2.2.2.2.2.2.2.1 d.2.2.2.2.2.2.2.2.2.1 d.2.2.2.2.2.2.2.2.2.2.1 d.2.2.2.2.2.2.2.2.2.2.2.1 d.2.2.2.2.2.2.2.2.2.2.2.2.1) v (fun l => !goodP l)
      (fun i => (v, false, v, (v.length : Int), true, true, v, v, false, v, v, (v.length : Int), (i : Int), ())) (fun i => .inr (v, false, v, (v.length : Int), true, true, v, v, false, v, (i : Int), ())) (.inl (v, false, v, (v.length : Int), true, true, v, v, false, v, ()))
      (fun i hi hq => by
        show b_I_areVersions_203_2 _ _ _ _ _ _ _ _ _ _ v v.length i = _
        unfold b_I_areVersions_203_2 f_I_areVersions_1
        rw [decide_eq_true (by omega : (i : Int) < (v.length : Int)), cond_true, inB_lt hi, cond_true, toNat_cast, getD_of hi, goodLines_I _ (hs.2 _ (List.getElem_mem hi)), Option.bind_some, Option.bind_some]
        dsimp only
        rw [hq, cond_false, wrap64 (by omega) (by omega)]; rfl)
      (fun i hi hq => by
        show b_I_areVersions_203_2 _ _ _ _ _ _ _ _ _ _ v v.length i = _
        unfold b_I_areVersions_203_2 f_I_areVersions_1
        rw [decide_eq_true (by omega : (i : Int) < (v.length : Int)), cond_true, inB_lt hi, cond_true, toNat_cast, getD_of hi, goodLines_I _ (hs.2 _ (List.getElem_mem hi)), Option.bind_some, Option.bind_some]
        dsimp only
        rw [hq, cond_true])
      (by
        show b_I_areVersions_203_2 _ _ _ _ _ _ _ _ _ _ v v.length v.length = _
        unfold b_I_areVersions_203_2
        rw [decide_eq_false (Int.lt_irrefl _), cond_false])]
    cases v.any fun l => !goodP l
    · rfl
    · simp

theorem vers_S {v : List TXT} (hs : SmV v) : f_S_l12Good v = some ((versP v, ()), ()) := by
  have hl := hs.1
  unfold f_S_l12Good versP
  rw [show w_S_l12Good_2 (v, v, (v.length : Int), 0, ()) = _ from fix_any (B := fun d => b_S_l12Good_2 d.1 d.2.1 d.2.2.1 d.2.2.2.1) v (fun l => !goodP l) (fun i => (v, v, (v.length : Int), (i : Int), ())) (fun _ => .inr (false, ())) (.inl (v, ()))
    (fun i hi hq => by
      show b_S_l12Good_2 v v v.length i = _
      unfold b_S_l12Good_2
      rw [decide_eq_true (by omega : (i : Int) < (v.length : Int)), cond_true, inB_lt hi, cond_true, toNat_cast, getD_of hi, l1Good_S _ (hs.2 _ (List.getElem_mem hi)), Option.bind_some]
      dsimp only
      rw [hq, cond_false, wrap64 (by omega) (by omega)]; rfl)
    (fun i hi hq => by
      show b_S_l12Good_2 v v v.length i = _
      unfold b_S_l12Good_2
      rw [decide_eq_true (by omega : (i : Int) < (v.length : Int)), cond_true, inB_lt hi, cond_true, toNat_cast, getD_of hi, l1Good_S _ (hs.2 _ (List.getElem_mem hi)), Option.bind_some]
      dsimp only
      rw [hq, cond_true])
    (by
      show b_S_l12Good_2 v v v.length v.length = _
      unfold b_S_l12Good_2
      rw [decide_eq_false (Int.lt_irrefl _), cond_false])]
  unfold inI
  cases v.any fun l => !goodP l
  · rw [if_neg (by simp), Option.bind_some]
    dsimp only
    rw [in_S, Option.bind_some, Bool.not_false, Bool.and_true]
  · rw [if_pos rfl]
    simp

theorem goodP_small {l : TXT} (h : goodP l = true) : l.length ≤ 40 := by
  unfold goodP linesP at h
  simp only [Bool.and_eq_true, decide_eq_true_eq] at h
  exact h.1.1

theorem vers_at {v : List TXT} (h : versP v = true) : 1 ≤ v.length ∧ v.length ≤ 8 ∧ ∀ i, i < v.length → (v.getD i []).length ≤ 40 := by
  unfold versP inI at h
  simp only [Bool.and_eq_true, decide_eq_true_eq, Bool.not_eq_true'] at h
  refine ⟨by omega, by omega, fun i hi => ?_⟩
  have := List.any_eq_false.1 h.2 _ (List.getElem_mem hi)
  rw [getD_of hi]
  exact goodP_small (by simpa using this)
end R
