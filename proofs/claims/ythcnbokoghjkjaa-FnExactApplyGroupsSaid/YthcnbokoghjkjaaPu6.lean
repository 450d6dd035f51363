/- Lines behind hunks: both sides make the same. -/
import Derived.Test.YthcnbokoghjkjaaPu5
open Go Go.Dn
namespace R
set_option linter.unusedVariables false

def stepP (l : List (List UInt8)) (a : List (List UInt8) × Int) (x : PV Y_impl_Hunk) : List (List UInt8) × Int := ((a.1 ++ cutL a.2 x.1 l) ++ x.2.2.1, x.1 + x.2.1)
def foldP (l : List (List UInt8)) (h : List (PV Y_impl_Hunk)) : List (List UInt8) × Int := h.foldl (stepP l) ([], 0)
def patchL (l : List (List UInt8)) (h : List (PV Y_impl_Hunk)) : List (List UInt8) := (foldP l h).1 ++ cutL (foldP l h).2 (l.length : Int) l

theorem linesP_len {l : List (List UInt8)} (h : linesP l = true) : l.length ≤ 40 := by
  unfold linesP at h
  simp only [Bool.and_eq_true, decide_eq_true_eq] at h
  exact h.1
theorem goodP_len {l : List (List UInt8)} (h : goodP l = true) : l.length ≤ 40 := by
  unfold goodP at h
  simp only [Bool.and_eq_true] at h
  exact linesP_len h.1

/-- What a good hunk tells. -/
theorem hunk_facts {many : Int} {h : List (PV Y_impl_Hunk)} (hh : hunksP many h = true) : 0 ≤ many ∧ many ≤ 40 ∧ h.length ≤ 20 ∧ ∀ i, i < h.length →
    0 ≤ (h.getD i H0).1 ∧ (h.getD i H0).1 ≤ many ∧ 0 ≤ (h.getD i H0).2.1 ∧ (h.getD i H0).1 + (h.getD i H0).2.1 ≤ many ∧ List.length (h.getD i H0).2.2.1 ≤ 40 ∧ linesP (h.getD i H0).2.2.1 = true ∧
      (0 < i → (h.getD (i - 1) H0).1 + (h.getD (i - 1) H0).2.1 < (h.getD i H0).1) := by
  unfold hunksP inI at hh
  simp only [Bool.and_eq_true, decide_eq_true_eq, Bool.not_eq_true'] at hh
  obtain ⟨⟨h0, h1⟩, h2, h3⟩ := hh
  have hq : ∀ i, i < h.length → badK many h i = false := fun i hi => by
    cases hb : badK many h i with
    | false => rfl
    | true => rw [anyN_iff.2 ⟨i, hi, hb⟩] at h3; cases h3
  have h4 : ∀ i, i < h.length → (0 : Int) ≤ (h.getD i H0).1 ∧ ((h.getD i H0).1 : Int) ≤ many ∧ (0 : Int) ≤ (h.getD i H0).2.1 ∧ ((h.getD i H0).1 : Int) + (h.getD i H0).2.1 ≤ many ∧ linesP (h.getD i H0).2.2.1 = true := by
    intro i hi
    have hb := hq i hi
    unfold badK badH inI at hb
    generalize h.getD i H0 = x at *
    obtain ⟨A, G, N, u⟩ := x
    have e : ∀ (A G : Int), (decide (A ≥ 0) && decide (A ≤ many)) = true → (decide (G ≥ 0) && decide (G ≤ IntKind.wrap .i64 (many - A))) = true → 0 ≤ A ∧ A ≤ many ∧ 0 ≤ G ∧ A + G ≤ many := by
      intro A G p q
      simp only [Bool.and_eq_true, decide_eq_true_eq] at p q
      rw [wrap64 (by omega) (by omega)] at q
      omega
    dsimp only at hb ⊢
    simp only [Bool.or_eq_false_iff, Bool.not_eq_false'] at hb
    obtain ⟨⟨b1, b2, b3, _⟩, _⟩ := hb
    obtain ⟨c1, c2, c3, c4⟩ := e A G b1 b2
    exact ⟨c1, c2, c3, c4, b3⟩
  refine ⟨h0, h1, h2, fun i hi => ?_⟩
  obtain ⟨a1, a2, a3, a4, a5⟩ := h4 i hi
  refine ⟨a1, a2, a3, a4, linesP_len a5, a5, fun hpos => ?_⟩
  have hb := hq i hi
  unfold badK badP at hb
  simp only [Bool.or_eq_false_iff] at hb
  have hb := hb.2
  rw [decide_eq_true (by omega : (i : Int) > 0), Bool.true_and, decide_eq_false_iff_not] at hb
  obtain ⟨b1, b2, b3, b4, _⟩ := h4 (i - 1) (by omega)
  have e : ∀ (A P G : Int), 0 ≤ P → 0 ≤ G → P + G ≤ many → many ≤ 40 → ¬ A ≤ IntKind.wrap .i64 (P + G) → P + G < A := by
    intro A P G p1 p2 p3 p4 q
    rw [wrap64 (by omega) (by omega)] at q
    omega
  exact e _ _ _ b1 b3 b4 h1 hb

theorem cut_len {l : List (List UInt8)} {a b : Int} : (cutL a b l).length ≤ l.length := by
  unfold cutL
  simp
  omega
theorem cut_mem {l : List (List UInt8)} {a b : Int} {s : List UInt8} (h : s ∈ cutL a b l) : s ∈ l := List.mem_of_mem_take (List.mem_of_mem_drop h)

def InvP (l : List (List UInt8)) (h : List (PV Y_impl_Hunk)) (i : Nat) (a : List (List UInt8) × Int) : Prop :=
  a.1.length ≤ 80 * i ∧ 0 ≤ a.2 ∧ a.2 ≤ (l.length : Int) ∧ (i = 0 → a.2 = 0) ∧ (0 < i → a.2 = (h.getD (i - 1) H0).1 + (h.getD (i - 1) H0).2.1) ∧ ∀ s ∈ a.1, s.length ≤ 4611686018427387904

theorem inv_next {l : List (List UInt8)} {h : List (PV Y_impl_Hunk)} (hl : Sm l) (hh : SmH h) (hg : hunksP (l.length : Int) h = true) {i : Nat} (hi : i < h.length) {a : List (List UInt8) × Int} (hI : InvP l h i a) :
    InvP l h (i + 1) (stepP l a h[i]) ∧ 0 ≤ a.2 ∧ a.2 ≤ (h[i].1 : Int) ∧ (h[i].1 : Int) ≤ l.length ∧ 0 ≤ (h[i].2.1 : Int) ∧ (h[i].1 : Int) + h[i].2.1 ≤ l.length ∧ List.length h[i].2.2.1 ≤ 40 ∧ a.1.length ≤ 1600 ∧ l.length ≤ 40 := by
  obtain ⟨f1, f2, f3, f4⟩ := hunk_facts hg
  have f5 := f4 i hi
  rw [getD_of hi] at f5
  obtain ⟨g1, g2, g3, g4, g5, g6, g7⟩ := f5
  obtain ⟨i1, i2, i3, i4, i5, i6⟩ := hI
  have hat : ∀ A : Int, A = h[i].1 → a.2 ≤ A := by
    intro A hA
    rcases Nat.eq_zero_or_pos i with h0 | hp
    · rw [i4 h0, hA]; exact g1
    · rw [i5 hp, hA]; exact Int.le_of_lt (g7 hp)
  have hat := hat _ rfl
  have hc : (cutL a.2 h[i].1 l).length ≤ 40 := Nat.le_trans cut_len (by omega)
  refine ⟨⟨?_, ?_, ?_, fun h => by omega, fun _ => ?_, ?_⟩, i2, hat, g2, g3, g4, g5, by omega, by omega⟩
  · show ((a.1 ++ cutL a.2 h[i].1 l) ++ h[i].2.2.1).length ≤ 80 * (i + 1)
    rw [List.length_append, List.length_append]
    omega
  · exact Int.add_nonneg g1 g3
  · exact g4
  · rw [Nat.add_sub_cancel, getD_of hi]; rfl
  · intro s hs
    rcases List.mem_append.1 hs with hs | hs
    · rcases List.mem_append.1 hs with hs | hs
      · exact i6 s hs
      · exact hl.2 s (cut_mem hs)
    · exact (hh.2 _ (List.getElem_mem hi)).2 s hs

theorem cutB_ok {a b : Int} {n : Nat} (h0 : 0 ≤ a) (h1 : a ≤ b) (h2 : b ≤ (n : Int)) : cutB a b n = true := by
  unfold cutB
  rw [decide_eq_true h0, decide_eq_true h1, decide_eq_true h2]
  rfl

theorem patch_loop_I {l : List (List UInt8)} {h : List (PV Y_impl_Hunk)} (hl : Sm l) (hh : SmH h) (hg : hunksP (l.length : Int) h = true) :
    w_I_patched_3 (l, ([] : List (List UInt8)), 0, h, (h.length : Int), 0, ()) = some (l, (foldP l h).1, (foldP l h).2, ()) ∧ InvP l h h.length (foldP l h) := by
  have := fix_fold (B := fun d => b_I_patched_3 d.1 d.2.1 d.2.2.1 d.2.2.2.1 d.2.2.2.2.1 d.2.2.2.2.2.1) h (stepP l) (fun a i => (l, a.1, a.2, h, (h.length : Int), (i : Int), ())) (fun a => (l, a.1, a.2, ())) (InvP l h)
    (fun i hi a hI => by
      obtain ⟨q0, q1, q2, q3, q4, q5, q6, q7, q8⟩ := inv_next hl hh hg hi hI
      refine ⟨q0, ?_⟩
      show b_I_patched_3 l a.1 a.2 h h.length i = _
      have hlen := hh.len
      unfold b_I_patched_3
      rw [decide_eq_true (by omega : (i : Int) < (h.length : Int)), cond_true, inB_lt hi, cond_true, toNat_cast, getD_of hi]
      have hc : (cutL a.2 h[i].1 l).length ≤ 40 := Nat.le_trans cut_len q8
      rw [cutB_ok q1 q2 q3, cond_true, roomB_ok (by omega), cond_true, roomB_ok (by rw [List.length_append]; omega), cond_true]
      have e : ∀ A G : Int, 0 ≤ A → 0 ≤ G → A + G ≤ (l.length : Int) → IntKind.wrap .i64 (A + G) = A + G := fun A G p1 p2 p3 => wrap64 (by omega) (by omega)
      rw [e _ _ (Int.le_trans q1 q2) q4 q5, wrap64 (by omega) (by omega)]
      simp [stepP])
    (fun a _ => by
      show b_I_patched_3 l a.1 a.2 h h.length h.length = _
      unfold b_I_patched_3
      rw [decide_eq_false (Int.lt_irrefl _), cond_false]) ([], 0) ⟨by simp, Int.le_refl _, by simp, fun _ => rfl, fun h => by omega, fun s hs => by cases hs⟩
  exact this

theorem patch_loop_S {l : List (List UInt8)} {h : List (PV Y_impl_Hunk)} (hl : Sm l) (hh : SmH h) (hg : hunksP (l.length : Int) h = true) :
    w_S_l2Patch_4 (l, ([] : List (List UInt8)), 0, h, (h.length : Int), 0, ()) = some (l, (foldP l h).1, (foldP l h).2, ()) := by
  have := fix_fold (B := fun d => b_S_l2Patch_4 d.1 d.2.1 d.2.2.1 d.2.2.2.1 d.2.2.2.2.1 d.2.2.2.2.2.1) h (stepP l) (fun a i => (l, a.1, a.2, h, (h.length : Int), (i : Int), ())) (fun a => (l, a.1, a.2, ())) (InvP l h)
    (fun i hi a hI => by
      obtain ⟨q0, q1, q2, q3, q4, q5, q6, q7, q8⟩ := inv_next hl hh hg hi hI
      refine ⟨q0, ?_⟩
      show b_S_l2Patch_4 l a.1 a.2 h h.length i = _
      have hlen := hh.len
      unfold b_S_l2Patch_4
      rw [decide_eq_true (by omega : (i : Int) < (h.length : Int)), cond_true, inB_lt hi, cond_true, toNat_cast, getD_of hi]
      have hc : (cutL a.2 h[i].1 l).length ≤ 40 := Nat.le_trans cut_len q8
      rw [cutB_ok q1 q2 q3, cond_true, roomB_ok (by omega), cond_true, roomB_ok (by rw [List.length_append]; omega), cond_true]
      have e : ∀ A G : Int, 0 ≤ A → 0 ≤ G → A + G ≤ (l.length : Int) → IntKind.wrap .i64 (A + G) = A + G := fun A G p1 p2 p3 => wrap64 (by omega) (by omega)
      rw [e _ _ (Int.le_trans q1 q2) q4 q5, wrap64 (by omega) (by omega)]
      simp [stepP])
    (fun a _ => by
      show b_S_l2Patch_4 l a.1 a.2 h h.length h.length = _
      unfold b_S_l2Patch_4
      rw [decide_eq_false (Int.lt_irrefl _), cond_false]) ([], 0) ⟨by simp, Int.le_refl _, by simp, fun _ => rfl, fun h => by omega, fun s hs => by cases hs⟩
  exact this.1

theorem patched_I {l : List (List UInt8)} {h : List (PV Y_impl_Hunk)} (hl : Sm l) (hh : SmH h) (hg : hunksP (l.length : Int) h = true) :
    f_I_patched l h = some ((patchL l h, ()), ()) ∧ Sm (patchL l h) ∧ (patchL l h).length ≤ 1640 := by
  obtain ⟨h1, h2⟩ := patch_loop_I hl hh hg
  obtain ⟨f1, f2, f3, _⟩ := hunk_facts hg
  obtain ⟨i1, i2, i3, _, _, i6⟩ := h2
  have hc : (cutL (foldP l h).2 (l.length : Int) l).length ≤ 40 := Nat.le_trans cut_len (by omega)
  refine ⟨?_, ⟨?_, fun s hs => ?_⟩, ?_⟩
  · unfold f_I_patched
    rw [h1, Option.bind_some]
    dsimp only
    rw [cutB_ok i2 i3 (Int.le_refl _), cond_true, roomB_ok (by omega), cond_true]
    rfl
  · unfold patchL; rw [List.length_append]; omega
  · rcases List.mem_append.1 hs with hs | hs
    · exact i6 s hs
    · exact hl.2 s (cut_mem hs)
  · unfold patchL; rw [List.length_append]; omega

theorem patched_S {l : List (List UInt8)} {h : List (PV Y_impl_Hunk)} (hl : Sm l) (hh : SmH h) (hg : hunksP (l.length : Int) h = true) : f_S_l2Patch l h = some ((patchL l h, ()), ()) := by
  obtain ⟨_, h2⟩ := patch_loop_I hl hh hg
  obtain ⟨f1, f2, f3, _⟩ := hunk_facts hg
  obtain ⟨i1, i2, i3, _, _, i6⟩ := h2
  have hc : (cutL (foldP l h).2 (l.length : Int) l).length ≤ 40 := Nat.le_trans cut_len (by omega)
  unfold f_S_l2Patch
  rw [show w_S_l2Patch_4 (l, [], 0, h, (h.length : Int), 0, ()) = _ from patch_loop_S hl hh hg, Option.bind_some]
  dsimp only
  rw [cutB_ok i2 i3 (Int.le_refl _), cond_true, roomB_ok (by omega), cond_true]
  rfl

/-- What comes of hunks: the lines, if all is good. -/
def patchOk (l : List (List UInt8)) (h : List (PV Y_impl_Hunk)) : Bool := goodP l && (hunksP (l.length : Int) h && goodP (patchL l h))
def patchR (l : List (List UInt8)) (h : List (PV Y_impl_Hunk)) : List (List UInt8) := bif patchOk l h then patchL l h else []

theorem patch_I {l : List (List UInt8)} {h : List (PV Y_impl_Hunk)} (hl : Sm l) (hh : SmH h) : f_I_Patch l h = some ((patchR l h, patchOk l h, ()), ()) := by
  unfold f_I_Patch patchR patchOk
  rw [goodLines_I l hl, Option.bind_some, hunks_I _ h hh]
  dsimp only
  cases goodP l
  · rfl
  · cases hg : hunksP (l.length : Int) h
    · rfl
    · obtain ⟨p1, p2, _⟩ := patched_I hl hh hg
      simp only [Bool.not_true, cond_false, Option.bind_some, p1, goodLines_I _ p2]
      cases goodP (patchL l h) <;> rfl

theorem patch_S {l : List (List UInt8)} {h : List (PV Y_impl_Hunk)} (hl : Sm l) (hh : SmH h) : f_S_Patch l h = some ((patchR l h, patchOk l h, ()), ()) := by
  have hlen := hl.len
  unfold f_S_Patch f_S_l2Asked patchR patchOk
  rw [l1Good_S l hl, Option.bind_some]
  dsimp only
  cases hgl : goodP l
  · rfl
  · have := goodP_len hgl
    rw [cond_true, hunks_S _ h hh (by omega) (by omega), Option.bind_some, Option.bind_some]
    dsimp only
    cases hg : hunksP (l.length : Int) h
    · rfl
    · obtain ⟨_, p2, _⟩ := patched_I hl hh hg
      rw [patched_S hl hh hg, Option.bind_some, l1Good_S _ p2, Option.bind_some]
      simp only [Bool.not_true, cond_false]
      cases goodP (patchL l h) <;> rfl
end R
