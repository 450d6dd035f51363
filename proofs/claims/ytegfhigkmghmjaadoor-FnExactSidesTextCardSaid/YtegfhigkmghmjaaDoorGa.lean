/- Loops of pure functions, in plain words: a run over a list. -/
import Derived.Test.YtegfhigkmghmjaaDoorFb
namespace Go.Dn

section
variable {α σ ρ S R : Type}

theorem fix_go {B : S → Option (S ⊕ R)} {s t : S} (h : B s = some (.inl t)) : fix B s = fix B t := by rw [fix_step, h]
theorem fix_end {B : S → Option (S ⊕ R)} {s : S} {r : R} (h : B s = some (.inr r)) : fix B s = some r := by rw [fix_step, h]

/-- A run over a list that may end early. -/
def run (g : σ → α → σ ⊕ ρ) : σ → List α → σ ⊕ ρ
  | a, [] => .inl a
  | a, x :: xs => match g a x with
    | .inl b => run g b xs
    | .inr r => .inr r

theorem fix_run_at {B : S → Option (S ⊕ R)} (xs : List α) (g : σ → α → σ ⊕ ρ) (mk : σ → Nat → S) (fin : σ → R) (ex : ρ → R) (I : Nat → σ → Prop)
    (hgo : ∀ i (hi : i < xs.length) a b, I i a → g a xs[i] = .inl b → I (i + 1) b ∧ B (mk a i) = some (.inl (mk b (i + 1))))
    (hex : ∀ i (hi : i < xs.length) a r, I i a → g a xs[i] = .inr r → B (mk a i) = some (.inr (ex r)))
    (hend : ∀ a, I xs.length a → B (mk a xs.length) = some (.inr (fin a))) :
    ∀ (n i : Nat) (a : σ), i + n = xs.length → I i a → fix B (mk a i) = some (match run g a (xs.drop i) with | .inl b => fin b | .inr r => ex r) ∧ (∀ b, run g a (xs.drop i) = .inl b → I xs.length b)
  | 0, i, a, hn, hI => by
    have : i = xs.length := by omega
    subst this
    rw [List.drop_length]
    exact ⟨fix_end (hend a hI), fun b hb => by simp only [run, Sum.inl.injEq] at hb; exact hb ▸ hI⟩
  | n + 1, i, a, hn, hI => by
    have hi : i < xs.length := by omega
    rw [List.drop_eq_getElem_cons hi]
    simp only [run]
    cases hg : g a xs[i] with
    | inl b =>
      obtain ⟨h1, h2⟩ := hgo i hi a b hI hg
      have := fix_run_at xs g mk fin ex I hgo hex hend n (i + 1) b (by omega) h1
      rw [fix_go h2]
      exact this
    | inr r => exact ⟨fix_end (hex i hi a r hI hg), fun b hb => by cases hb⟩

theorem fix_run {B : S → Option (S ⊕ R)} (xs : List α) (g : σ → α → σ ⊕ ρ) (mk : σ → Nat → S) (fin : σ → R) (ex : ρ → R) (I : Nat → σ → Prop)
    (hgo : ∀ i (hi : i < xs.length) a b, I i a → g a xs[i] = .inl b → I (i + 1) b ∧ B (mk a i) = some (.inl (mk b (i + 1))))
    (hex : ∀ i (hi : i < xs.length) a r, I i a → g a xs[i] = .inr r → B (mk a i) = some (.inr (ex r)))
    (hend : ∀ a, I xs.length a → B (mk a xs.length) = some (.inr (fin a))) (a : σ) (h0 : I 0 a) :
    fix B (mk a 0) = some (match run g a xs with | .inl b => fin b | .inr r => ex r) ∧ (∀ b, run g a xs = .inl b → I xs.length b) := by
  simpa using fix_run_at xs g mk fin ex I hgo hex hend xs.length 0 a (by omega) h0

/-- A loop that goes through a number of known states. -/
theorem fix_iter {B : S → Option (S ⊕ R)} (st : Nat → S) : ∀ (n i : Nat), (∀ j, i ≤ j → j < i + n → B (st j) = some (.inl (st (j + 1)))) → fix B (st i) = fix B (st (i + n))
  | 0, _, _ => rfl
  | n + 1, i, h => by
    rw [fix_go (h i (by omega) (by omega)), fix_iter st n (i + 1) (fun j h1 h2 => h j (by omega) (by omega))]
    congr 2; omega

theorem fix_all {B : S → Option (S ⊕ R)} (st : Nat → S) (n : Nat) {r : R} (h : ∀ j, j < n → B (st j) = some (.inl (st (j + 1)))) (he : B (st n) = some (.inr r)) : fix B (st 0) = some r := by
  rw [fix_iter st n 0 (fun j _ h2 => h j (by omega)), Nat.zero_add]
  exact fix_end he
end

/-! ### small -/
theorem wrap64 {x : Int} (h1 : -9223372036854775808 ≤ x) (h2 : x ≤ 9223372036854775807) : IntKind.wrap .i64 x = x := by
  simp [IntKind.wrap, IntKind.min, IntKind.max, IntKind.signed, IntKind.bits]
  omega

theorem inB_lt {i n : Nat} (h : i < n) : inB (i : Int) n = true := by
  unfold inB
  simp
  omega

theorem roomB_ok {n : Nat} (h : n ≤ 1099511627776) : roomB n = true := decide_eq_true h

theorem set_fill {α : Type} {xs : List α} {d : α} {i : Nat} (hi : i < xs.length) : (xs.take i ++ List.replicate (xs.length - i) d).set i xs[i] = xs.take (i + 1) ++ List.replicate (xs.length - (i + 1)) d := by
  have e : xs.length - i = (xs.length - (i + 1)) + 1 := by omega
  rw [e, List.replicate_succ, List.set_append_right _ _ (by simp; omega)]
  simp only [List.length_take, Nat.min_eq_left (Nat.le_of_lt hi), Nat.sub_self, List.set_cons_zero]
  rw [← List.take_append_getElem hi, List.append_assoc]
  rfl

/-- How much there is in all. -/
def tot : (t : Ty) → PV t → Nat
  | .int _, _ => 0
  | .bool, _ => 0
  | .str, s => List.length s
  | .unit, _ => 0
  | .pair a b, x => tot a x.1 + tot b x.2
  | .slice _ t, xs => List.length (α := PV t) xs + ((xs : List (PV t)).map (tot t)).sum

theorem tot_slice {e : TypeId} {t : Ty} {xs : List (PV t)} : tot (.slice e t) xs = xs.length + (xs.map (tot t)).sum := by simp only [tot]
theorem tot_str {s : List UInt8} : tot .str s = s.length := by simp only [tot]

theorem sum_take_succ {l : List Nat} {i : Nat} (h : i < l.length) : (l.take (i + 1)).sum = (l.take i).sum + l[i] := by
  rw [← List.take_append_getElem h, List.sum_append]
  simp
theorem sum_take_le (l : List Nat) (i : Nat) : (l.take i).sum ≤ l.sum := by
  conv => rhs; rw [← List.take_append_drop i l, List.sum_append]
  omega
theorem le_sum {l : List Nat} {i : Nat} (h : i < l.length) : l[i] ≤ l.sum := by
  have := sum_take_succ h
  have := sum_take_le l (i + 1)
  omega
end Go.Dn

namespace Go.Dn
section
variable {α σ S R : Type}

/-- A loop that ends at the first element of a kind. -/
theorem fix_any {B : S → Option (S ⊕ R)} (xs : List α) (q : α → Bool) (st : Nat → S) (yes : Nat → R) (no : R)
    (hgo : ∀ i (hi : i < xs.length), q xs[i] = false → B (st i) = some (.inl (st (i + 1)))) (hex : ∀ i (hi : i < xs.length), q xs[i] = true → B (st i) = some (.inr (yes i)))
    (hend : B (st xs.length) = some (.inr no)) : fix B (st 0) = some (if xs.any q then yes (xs.findIdx q) else no) := by
  by_cases ha : xs.any q = true
  · rw [if_pos ha]
    have hlt : xs.findIdx q < xs.length := List.findIdx_lt_length.2 (by simpa using ha)
    rw [fix_iter st (xs.findIdx q) 0 (fun j _ h2 => hgo j (by omega) (by
      have := List.not_of_lt_findIdx (xs := xs) (p := q) (i := j) (by omega)
      simpa using this)), Nat.zero_add]
    exact fix_end (hex _ hlt List.findIdx_getElem)
  · rw [if_neg ha]
    refine fix_all st xs.length (fun j hj => hgo j hj ?_) hend
    have := List.any_eq_false.1 (by simpa using ha) xs[j] (List.getElem_mem hj)
    simpa using this

/-- A loop that goes through all elements. -/
theorem fix_fold {B : S → Option (S ⊕ R)} (xs : List α) (g : σ → α → σ) (mk : σ → Nat → S) (fin : σ → R) (I : Nat → σ → Prop)
    (hgo : ∀ i (hi : i < xs.length) a, I i a → I (i + 1) (g a xs[i]) ∧ B (mk a i) = some (.inl (mk (g a xs[i]) (i + 1))))
    (hend : ∀ a, I xs.length a → B (mk a xs.length) = some (.inr (fin a))) (a : σ) (h0 : I 0 a) :
    fix B (mk a 0) = some (fin (xs.foldl g a)) ∧ I xs.length (xs.foldl g a) := by
  have := fix_run (B := B) (ρ := Empty) xs (fun a x => .inl (g a x)) mk fin (fun e => nomatch e) I
    (fun i hi a b hI hg => by
      simp only [Sum.inl.injEq] at hg
      subst hg
      exact hgo i hi a hI)
    (fun i hi a r => nomatch r) hend a h0
  have hr : ∀ (ys : List α) (a : σ), run (ρ := Empty) (fun a x => .inl (g a x)) a ys = .inl (ys.foldl g a) := by
    intro ys
    induction ys with
    | nil => intro a; rfl
    | cons y ys ih => intro a; simp only [run, List.foldl_cons]; exact ih _
  rw [hr] at this
  exact ⟨this.1, this.2 _ rfl⟩
end
end Go.Dn
