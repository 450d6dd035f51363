/- Longest common lists, in plain words. -/
import Derived.Test.YtegfhigkmghmjaaDoorGd
namespace Go.Dn

section
variable {α : Type} [DecidableEq α]

def lcs : List α → List α → Nat
  | [], _ => 0
  | _ :: _, [] => 0
  | x :: a, y :: b => if x = y then lcs a b + 1 else max (lcs a (y :: b)) (lcs (x :: a) b)
  termination_by a b => a.length + b.length

theorem lcs_nil_l (b : List α) : lcs [] b = 0 := by unfold lcs; rfl
theorem lcs_nil_r (a : List α) : lcs a [] = 0 := by cases a <;> (unfold lcs; rfl)
theorem lcs_cons (x y : α) (a b : List α) : lcs (x :: a) (y :: b) = if x = y then lcs a b + 1 else max (lcs a (y :: b)) (lcs (x :: a) b) := by
  conv => lhs; unfold lcs

theorem lcs_mono : ∀ (n : Nat) (a b : List α), a.length + b.length ≤ n →
    (∀ x, lcs a b ≤ lcs (x :: a) b) ∧ (∀ y, lcs a b ≤ lcs a (y :: b)) ∧ (∀ x, lcs (x :: a) b ≤ lcs a b + 1) ∧ (∀ y, lcs a (y :: b) ≤ lcs a b + 1) := by
  intro n
  induction n with
  | zero =>
    intro a b h
    have ha : a = [] := List.eq_nil_of_length_eq_zero (by omega)
    have hb : b = [] := List.eq_nil_of_length_eq_zero (by omega)
    subst ha; subst hb
    refine ⟨fun x => ?_, fun y => ?_, fun x => ?_, fun y => ?_⟩ <;> simp [lcs_nil_l, lcs_nil_r]
  | succ n ih =>
    intro a b h
    refine ⟨fun x => ?_, fun y => ?_, fun x => ?_, fun y => ?_⟩
    · cases b with
      | nil => simp [lcs_nil_r]
      | cons y b =>
        rw [lcs_cons]
        have := (ih a b (by simp at h; omega)).2.2.2 y
        split <;> omega
    · cases a with
      | nil => simp [lcs_nil_l]
      | cons x a =>
        rw [lcs_cons]
        have := (ih a b (by simp at h; omega)).2.2.1 x
        split <;> omega
    · cases b with
      | nil => simp [lcs_nil_r]
      | cons y b =>
        rw [lcs_cons]
        obtain ⟨_, h2, h3, _⟩ := ih a b (by simp at h; omega)
        have h2 := h2 y
        have h3 := h3 x
        split <;> omega
    · cases a with
      | nil => simp [lcs_nil_l]
      | cons x a =>
        rw [lcs_cons]
        obtain ⟨h1, _, _, h4⟩ := ih a b (by simp at h; omega)
        have h1 := h1 x
        have h4 := h4 y
        split <;> omega

/-- From two places on. -/
def T (a b : List α) (i j : Nat) : Nat := lcs (a.drop i) (b.drop j)

theorem T_end_l {a b : List α} {i j : Nat} (h : a.length ≤ i) : T a b i j = 0 := by
  unfold T
  rw [List.drop_eq_nil_of_le h, lcs_nil_l]
theorem T_end_r {a b : List α} {i j : Nat} (h : b.length ≤ j) : T a b i j = 0 := by
  unfold T
  rw [List.drop_eq_nil_of_le h, lcs_nil_r]
theorem T_step {a b : List α} {i j : Nat} (hi : i < a.length) (hj : j < b.length) : T a b i j = if a[i] = b[j] then T a b (i + 1) (j + 1) + 1 else max (T a b (i + 1) j) (T a b i (j + 1)) := by
  unfold T
  rw [List.drop_eq_getElem_cons hi, List.drop_eq_getElem_cons hj, lcs_cons]
theorem T_l {a b : List α} {i j : Nat} (hi : i < a.length) : T a b (i + 1) j ≤ T a b i j ∧ T a b i j ≤ T a b (i + 1) j + 1 := by
  unfold T
  rw [List.drop_eq_getElem_cons hi]
  have := lcs_mono _ (a.drop (i + 1)) (b.drop j) (Nat.le_refl _)
  exact ⟨this.1 _, this.2.2.1 _⟩
theorem T_r {a b : List α} {i j : Nat} (hj : j < b.length) : T a b i (j + 1) ≤ T a b i j ∧ T a b i j ≤ T a b i (j + 1) + 1 := by
  unfold T
  rw [List.drop_eq_getElem_cons hj]
  have := lcs_mono _ (a.drop i) (b.drop (j + 1)) (Nat.le_refl _)
  exact ⟨this.2.1 _, this.2.2.2 _⟩
theorem T_max {a b : List α} {i j : Nat} (hi : i < a.length) (hj : j < b.length) : T a b i j = max (max (T a b (i + 1) j) (T a b i (j + 1))) (if a[i] = b[j] then T a b (i + 1) (j + 1) + 1 else 0) := by
  have h1 := (T_l (b := b) (j := j) hi).1
  have h2 := (T_r (a := a) (i := i) hj).1
  have h3 := T_step hi hj
  split at h3 <;> rename_i hc
  · rw [if_pos hc]; omega
  · rw [if_neg hc]; omega
theorem T_le {a b : List α} : ∀ {i j : Nat}, T a b i j ≤ a.length - i := by
  intro i j
  generalize hn : a.length - i = n
  induction n generalizing i with
  | zero => rw [T_end_l (by omega)]; exact Nat.le_refl _
  | succ n ih =>
    have := (T_l (a := a) (b := b) (i := i) (j := j) (by omega)).2
    have := ih (i := i + 1) (by omega)
    omega

/-- There is a next pair. -/
theorem T_pair {a b : List α} : ∀ (n i j : Nat), a.length - i + (b.length - j) ≤ n → 0 < T a b i j → ∃ p q, i ≤ p ∧ j ≤ q ∧ ∃ (hp : p < a.length) (hq : q < b.length), a[p] = b[q] ∧ T a b (p + 1) (q + 1) + 1 = T a b i j := by
  intro n
  induction n with
  | zero =>
    intro i j hn h0
    rw [T_end_l (by omega)] at h0
    omega
  | succ n ih =>
    intro i j hn h0
    have hi : i < a.length := by
      rcases Nat.lt_or_ge i a.length with h | h
      · exact h
      · rw [T_end_l h] at h0; omega
    have hj : j < b.length := by
      rcases Nat.lt_or_ge j b.length with h | h
      · exact h
      · rw [T_end_r h] at h0; omega
    have hs := T_step hi hj
    split at hs <;> rename_i hc
    · exact ⟨i, j, Nat.le_refl _, Nat.le_refl _, hi, hj, hc, hs.symm⟩
    · rcases Nat.le_total (T a b (i + 1) j) (T a b i (j + 1)) with hle | hle
      · have e : T a b i j = T a b i (j + 1) := by omega
        obtain ⟨p, q, h1, h2, hp, hq, h3, h4⟩ := ih i (j + 1) (by omega) (by omega)
        exact ⟨p, q, h1, by omega, hp, hq, h3, by omega⟩
      · have e : T a b i j = T a b (i + 1) j := by omega
        obtain ⟨p, q, h1, h2, hp, hq, h3, h4⟩ := ih (i + 1) j (by omega) (by omega)
        exact ⟨p, q, by omega, h2, hp, hq, h3, by omega⟩
end
end Go.Dn

namespace Go.Dn
theorem fix_down {S R : Type} {B : S → Option (S ⊕ R)} (st : Nat → S) {r : R} (h0 : B (st 0) = some (.inr r)) : ∀ (n : Nat), (∀ m, m < n → B (st (m + 1)) = some (.inl (st m))) → fix B (st n) = some r
  | 0, _ => fix_end h0
  | n + 1, h => by rw [fix_go (h n (by omega)), fix_down st h0 n fun m hm => h m (by omega)]

/-- A list told by its places. -/
def mkT {α : Type} (n : Nat) (f : Nat → α) : List α := (List.range n).map f
theorem mkT_len {α : Type} {n : Nat} {f : Nat → α} : (mkT n f).length = n := by simp [mkT]
theorem mkT_get {α : Type} {n : Nat} {f : Nat → α} {r : Nat} {d : α} (h : r < n) : (mkT n f).getD r d = f r := by
  rw [getD_of (by rw [mkT_len]; exact h)]
  simp [mkT]
theorem mkT_ext {α : Type} {n : Nat} {f g : Nat → α} (h : ∀ r, r < n → f r = g r) : mkT n f = mkT n g := by
  unfold mkT
  exact List.map_congr_left fun r hr => h r (List.mem_range.1 hr)
theorem mkT_set {α : Type} {n : Nat} {f : Nat → α} {i : Nat} {v : α} : (mkT n f).set i v = mkT n fun r => if r = i then v else f r := by
  apply List.ext_getElem
  · simp [mkT]
  · intro k h1 h2
    simp only [mkT, List.getElem_set, List.getElem_map, List.getElem_range]
    by_cases h : i = k
    · subst h; simp
    · rw [if_neg h, if_neg (by omega)]
theorem mkT_rep {α : Type} {n : Nat} {v : α} : List.replicate n v = mkT n fun _ => v := by
  apply List.ext_getElem
  · simp [mkT]
  · intro k h1 h2
    simp [mkT]
end Go.Dn
