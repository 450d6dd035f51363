/- Plain facts on lists: any over places, equality by places, bytes. -/
import Derived.Test.YtegfhigkmghmjaaDoorGb
namespace Go.Dn

theorem any_or {α : Type} (p q : α → Bool) : ∀ l : List α, (l.any fun x => p x || q x) = (l.any p || l.any q)
  | [] => rfl
  | x :: l => by
    simp only [List.any_cons, any_or p q l]
    cases p x <;> cases q x <;> cases l.any p <;> rfl

theorem any_congr {α : Type} {p q : α → Bool} : ∀ {l : List α}, (∀ x ∈ l, p x = q x) → l.any p = l.any q
  | [], _ => rfl
  | x :: l, h => by rw [List.any_cons, List.any_cons, h x (List.mem_cons_self ..), any_congr fun y hy => h y (List.mem_cons_of_mem _ hy)]

/-- Over the places of a list. -/
def anyN (n : Nat) (q : Nat → Bool) : Bool := (List.range n).any q

theorem anyN_iff {n : Nat} {q : Nat → Bool} : anyN n q = true ↔ ∃ i, i < n ∧ q i = true := by
  unfold anyN
  rw [List.any_eq_true]
  simp

theorem anyN_or {n : Nat} {p q : Nat → Bool} : anyN n (fun i => p i || q i) = (anyN n p || anyN n q) := any_or p q _

theorem anyN_congr {n : Nat} {p q : Nat → Bool} (h : ∀ i, i < n → p i = q i) : anyN n p = anyN n q :=
  any_congr fun i hi => h i (List.mem_range.1 hi)

theorem anyN_list {α : Type} {xs : List α} {f : α → Bool} {d : α} : anyN xs.length (fun i => f (xs.getD i d)) = xs.any f := by
  rw [Bool.eq_iff_iff, anyN_iff, List.any_eq_true]
  constructor
  · rintro ⟨i, hi, h⟩
    rw [getD_of hi] at h
    exact ⟨_, List.getElem_mem hi, h⟩
  · rintro ⟨x, hx, h⟩
    obtain ⟨i, hi, rfl⟩ := List.mem_iff_getElem.1 hx
    exact ⟨i, hi, by rw [getD_of hi]; exact h⟩

section
variable {S R : Type}
/-- A loop that ends at the first place of a kind. -/
theorem fix_anyN {B : S → Option (S ⊕ R)} (n : Nat) (q : Nat → Bool) (st : Nat → S) (yes : Nat → R) (no : R)
    (hgo : ∀ i, i < n → q i = false → B (st i) = some (.inl (st (i + 1)))) (hex : ∀ i, i < n → q i = true → B (st i) = some (.inr (yes i)))
    (hend : B (st n) = some (.inr no)) : fix B (st 0) = some (if anyN n q then yes ((List.range n).findIdx q) else no) := by
  unfold anyN
  refine fix_any (List.range n) q st yes no (fun i hi h => hgo i (by simpa using hi) (by simpa using h)) (fun i hi h => hex i (by simpa using hi) (by simpa using h)) (by simpa using hend)
end

theorem beq_places {α : Type} [DecidableEq α] {xs ys : List α} {d : α} (h : xs.length = ys.length) : (xs == ys) = !(anyN xs.length fun i => !(xs.getD i d == ys.getD i d)) := by
  rw [Bool.eq_iff_iff]
  simp only [beq_iff_eq, Bool.not_eq_true', Bool.eq_false_iff, ne_eq, anyN_iff]
  constructor
  · rintro rfl
    rintro ⟨i, _, hi⟩
    simp at hi
  · intro hn
    apply List.ext_getElem h
    intro i h1 h2
    have := fun hh => hn ⟨i, h1, hh⟩
    rw [getD_of h1, getD_of h2] at this
    simpa using this

theorem byte_eq {c : UInt8} {n : Nat} (hn : n < 256) : ((c.toNat : Int) == (n : Int)) = (c == UInt8.ofNat n) := by
  rw [Bool.eq_iff_iff, beq_iff_eq, beq_iff_eq]
  constructor
  · intro h
    have : c.toNat = n := by omega
    rw [← this, UInt8.ofNat_toNat]
  · rintro rfl
    simp
    omega

theorem contains_take {s : List UInt8} {n : Nat} {c : UInt8} (h : n ≤ s.length) : anyN n (fun i => s.getD i 0 == c) = (s.take n).contains c := by
  rw [Bool.eq_iff_iff, anyN_iff, List.contains_iff_mem]
  simp only [beq_iff_eq]
  constructor
  · rintro ⟨i, hi, rfl⟩
    rw [getD_of (by omega), ← List.getElem_take (j := n) (h := by simp; omega)]
    exact List.getElem_mem _
  · intro hm
    obtain ⟨i, hi, rfl⟩ := List.mem_iff_getElem.1 hm
    simp only [List.length_take] at hi
    exact ⟨i, by omega, by rw [getD_of (by omega), List.getElem_take]⟩
end Go.Dn
