/- Marking all of a value, and looking whether the marks stand. -/
import Derived.Test.YtegfhigkmghmjaaDoorGc
namespace Go.Dn

def markL {α : Type} (m : α → Int → α × Int) : List α → Int → List α × Int
  | [], k => ([], k)
  | x :: xs, k => ((m x k).1 :: (markL m xs (m x k).2).1, (markL m xs (m x k).2).2)

/-- Every number and text in a value replaced by the next mark. -/
def mk (tx : Int → List UInt8) : (t : Ty) → PV t → Int → PV t × Int
  | .int _, _, k => (k, k + 1)
  | .bool, b, k => (b, k)
  | .str, _, k => (tx k, k + 1)
  | .unit, _, k => ((), k)
  | .pair a b, x, k => (((mk tx a x.1 k).1, (mk tx b x.2 (mk tx a x.1 k).2).1), (mk tx b x.2 (mk tx a x.1 k).2).2)
  | .slice _ t, xs, k => markL (mk tx t) xs k

/-- How many marks. -/
def cn : (t : Ty) → PV t → Nat
  | .int _, _ => 1
  | .bool, _ => 0
  | .str, _ => 1
  | .unit, _ => 0
  | .pair a b, x => cn a x.1 + cn b x.2
  | .slice _ t, xs => ((xs : List (PV t)).map (cn t)).sum

theorem markL_cn {α : Type} {m : α → Int → α × Int} {c : α → Nat} : ∀ {xs : List α}, (∀ x ∈ xs, ∀ k, (m x k).2 = k + c x) → ∀ k, (markL m xs k).2 = k + ((xs.map c).sum : Nat)
  | [], _, k => by simp [markL]
  | x :: xs, h, k => by
    simp only [markL, List.map_cons, List.sum_cons]
    rw [markL_cn (fun y hy => h y (List.mem_cons_of_mem _ hy)), h x (List.mem_cons_self ..)]
    omega

theorem mk_cn (tx : Int → List UInt8) : ∀ (t : Ty) (x : PV t) (k : Int), (mk tx t x k).2 = k + (cn t x : Nat)
  | .int _, _, k => by simp [mk, cn]
  | .bool, _, k => by simp [mk, cn]
  | .str, _, k => by simp [mk, cn]
  | .unit, _, k => by simp [mk, cn]
  | .pair a b, x, k => by
    simp only [mk, cn]
    rw [mk_cn tx b, mk_cn tx a]
    omega
  | .slice _ t, xs, k => by
    simp only [mk, cn]
    exact markL_cn (fun x _ k => mk_cn tx t x k) k

theorem mk_pair (tx : Int → List UInt8) (a b : Ty) (x : PV a × PV b) (k : Int) : mk tx (.pair a b) x k = (((mk tx a x.1 k).1, (mk tx b x.2 (mk tx a x.1 k).2).1), (mk tx b x.2 (mk tx a x.1 k).2).2) := by simp only [mk]
theorem mk_int (tx : Int → List UInt8) (q : IntKind) (x k : Int) : mk tx (.int q) x k = (k, k + 1) := by simp only [mk]
theorem mk_str (tx : Int → List UInt8) (x : List UInt8) (k : Int) : mk tx .str x k = (tx k, k + 1) := by simp only [mk]
theorem mk_unit (tx : Int → List UInt8) (x : Unit) (k : Int) : mk tx .unit x k = ((), k) := by simp only [mk]

section
variable {T : Ty} {e : TypeId} {tx : Int → List UInt8} {Q : PV T → Prop}

theorem mark_at {B : List (PV T) × Int × Int × Unit → Option ((List (PV T) × Int × Int × Unit) ⊕ (List (PV T) × Int × Unit))} {N : Nat}
    (hstep : ∀ (i : Nat) (ys : List (PV T)) (k : Int) (hi : i < ys.length), ys.length = N → Q ys[i] → 0 ≤ k → k + (cn T ys[i] : Nat) ≤ 4611686018427387904 → B (ys, k, (i : Int), ()) = some (.inl (ys.set i (mk tx T ys[i] k).1, (mk tx T ys[i] k).2, (i : Int) + 1, ())))
    (hend : ∀ (ys : List (PV T)) (k : Int), ys.length = N → B (ys, k, (N : Int), ()) = some (.inr (ys, k, ()))) :
    ∀ (rest done : List (PV T)) (k : Int), done.length + rest.length = N → (∀ x ∈ rest, Q x) → 0 ≤ k → k + ((rest.map (cn T)).sum : Nat) ≤ 4611686018427387904 →
      fix B (done ++ rest, k, (done.length : Int), ()) = some (done ++ (markL (mk tx T) rest k).1, (markL (mk tx T) rest k).2, ())
  | [], done, k, hl, hQ, h0, h1 => by
    rw [List.append_nil]
    have hl' : done.length = N := by simpa using hl
    rw [hl', fix_end (hend done k hl')]
    simp [markL]
  | x :: rest, done, k, hl, hQ, h0, h1 => by
    simp only [List.map_cons, List.sum_cons, List.length_cons] at h1 hl
    have hi : done.length < (done ++ x :: rest).length := by simp
    have hx : (done ++ x :: rest)[done.length] = x := by simp
    have hs := hstep done.length (done ++ x :: rest) k hi (by simp; omega) (by rw [hx]; exact hQ x (List.mem_cons_self ..)) h0 (by rw [hx]; omega)
    rw [fix_go hs, hx]
    have e1 : (done ++ x :: rest).set done.length (mk tx T x k).1 = (done ++ [(mk tx T x k).1]) ++ rest := by
      rw [List.set_append_right _ _ (Nat.le_refl _), Nat.sub_self]
      simp
    have e2 : ((done.length : Int) + 1) = (((done ++ [(mk tx T x k).1]).length : Nat) : Int) := by simp
    have e3 := mk_cn tx T x k
    rw [e1, e2, mark_at hstep hend rest (done ++ [(mk tx T x k).1]) (mk tx T x k).2 (by simp; omega) (fun y hy => hQ y (List.mem_cons_of_mem _ hy)) (by omega) (by omega)]
    simp [markL]

theorem mark_loop {B : List (PV T) × Int × Int × Unit → Option ((List (PV T) × Int × Int × Unit) ⊕ (List (PV T) × Int × Unit))} {xs : List (PV T)} {k : Int}
    (hstep : ∀ (i : Nat) (ys : List (PV T)) (k : Int) (hi : i < ys.length), ys.length = xs.length → Q ys[i] → 0 ≤ k → k + (cn T ys[i] : Nat) ≤ 4611686018427387904 → B (ys, k, (i : Int), ()) = some (.inl (ys.set i (mk tx T ys[i] k).1, (mk tx T ys[i] k).2, (i : Int) + 1, ())))
    (hend : ∀ (ys : List (PV T)) (k : Int), ys.length = xs.length → B (ys, k, (xs.length : Int), ()) = some (.inr (ys, k, ()))) (hQ : ∀ x ∈ xs, Q x) (h0 : 0 ≤ k) (h1 : k + (cn (.slice e T) xs : Nat) ≤ 4611686018427387904) :
    fix B (xs, k, 0, ()) = some ((mk tx (.slice e T) xs k).1, (mk tx (.slice e T) xs k).2, ()) := by
  simp only [cn] at h1
  have := mark_at (tx := tx) hstep hend xs [] k (by simp) hQ h0 h1
  simpa [mk] using this

theorem held_at {B : List (PV T) × Int × Int × Unit → Option ((List (PV T) × Int × Int × Unit) ⊕ ((Int × Unit) ⊕ (Int × Unit)))} {N : Nat}
    (hstep : ∀ (i : Nat) (ys : List (PV T)) (x : PV T) (k : Int) (hi : i < ys.length), ys.length = N → ys[i] = (mk tx T x k).1 → Q x → 0 ≤ k → k + (cn T x : Nat) ≤ 4611686018427387904 → B (ys, k, (i : Int), ()) = some (.inl (ys, (mk tx T x k).2, (i : Int) + 1, ())))
    (hend : ∀ (ys : List (PV T)) (k : Int), ys.length = N → B (ys, k, (N : Int), ()) = some (.inr (.inl (k, ())))) :
    ∀ (rest done : List (PV T)) (k : Int), done.length + rest.length = N → (∀ x ∈ rest, Q x) → 0 ≤ k → k + ((rest.map (cn T)).sum : Nat) ≤ 4611686018427387904 →
      fix B (done ++ (markL (mk tx T) rest k).1, k, (done.length : Int), ()) = some (.inl ((markL (mk tx T) rest k).2, ()))
  | [], done, k, hl, hQ, h0, h1 => by
    simp only [markL, List.append_nil]
    have hl' : done.length = N := by simpa using hl
    rw [hl', fix_end (hend done k hl')]
  | x :: rest, done, k, hl, hQ, h0, h1 => by
    simp only [List.map_cons, List.sum_cons, List.length_cons] at h1 hl
    have hml : ∀ (l : List (PV T)) (k : Int), (markL (mk tx T) l k).1.length = l.length := by
      intro l
      induction l with
      | nil => intro k; rfl
      | cons a l ih => intro k; simp [markL, ih]
    simp only [markL]
    have hi : done.length < (done ++ (mk tx T x k).1 :: (markL (mk tx T) rest (mk tx T x k).2).1).length := by simp
    have hx : (done ++ (mk tx T x k).1 :: (markL (mk tx T) rest (mk tx T x k).2).1)[done.length] = (mk tx T x k).1 := by simp
    rw [fix_go (hstep done.length _ x k hi (by simp [hml]; omega) hx (hQ x (List.mem_cons_self ..)) h0 (by omega))]
    have e2 : ((done.length : Int) + 1) = (((done ++ [(mk tx T x k).1]).length : Nat) : Int) := by simp
    have e3 := mk_cn tx T x k
    have e1 : done ++ (mk tx T x k).1 :: (markL (mk tx T) rest (mk tx T x k).2).1 = (done ++ [(mk tx T x k).1]) ++ (markL (mk tx T) rest (mk tx T x k).2).1 := by simp
    rw [e1, e2, held_at hstep hend rest (done ++ [(mk tx T x k).1]) (mk tx T x k).2 (by simp; omega) (fun y hy => hQ y (List.mem_cons_of_mem _ hy)) (by omega) (by omega)]

theorem mk_len (xs : List (PV T)) (k : Int) : List.length (α := PV T) (mk tx (.slice e T) xs k).1 = xs.length := by
  simp only [mk]
  induction xs generalizing k with
  | nil => rfl
  | cons a l ih => simp [markL, ih]

theorem held_loop {B : List (PV T) × Int × Int × Unit → Option ((List (PV T) × Int × Int × Unit) ⊕ ((Int × Unit) ⊕ (Int × Unit)))} {xs : List (PV T)} {k : Int}
    (hstep : ∀ (i : Nat) (ys : List (PV T)) (x : PV T) (k : Int) (hi : i < ys.length), ys.length = xs.length → ys[i] = (mk tx T x k).1 → Q x → 0 ≤ k → k + (cn T x : Nat) ≤ 4611686018427387904 → B (ys, k, (i : Int), ()) = some (.inl (ys, (mk tx T x k).2, (i : Int) + 1, ())))
    (hend : ∀ (ys : List (PV T)) (k : Int), ys.length = xs.length → B (ys, k, (xs.length : Int), ()) = some (.inr (.inl (k, ())))) (hQ : ∀ x ∈ xs, Q x) (h0 : 0 ≤ k) (h1 : k + (cn (.slice e T) xs : Nat) ≤ 4611686018427387904) :
    fix B ((mk tx (.slice e T) xs k).1, k, 0, ()) = some (.inl ((mk tx (.slice e T) xs k).2, ())) := by
  simp only [cn] at h1
  have := held_at (tx := tx) hstep hend xs [] k (by simp) hQ h0 h1
  simpa [mk] using this

theorem getD_set_self {α : Type} {ys : List α} {i : Nat} {a d : α} (h : i < ys.length) : (ys.set i a).getD i d = a := by
  simp [List.getD, h]

theorem tot_all {t : Ty} {xs : List (PV t)} {n : Nat} (h : tot (.slice e t) xs ≤ n) : ∀ x ∈ xs, tot t x ≤ n := by
  intro x hx
  obtain ⟨i, hi, rfl⟩ := List.mem_iff_getElem.1 hx
  exact Nat.le_trans (tot_mem (e := e) hi) h

theorem bytes_one (n : Int) : (bytesOfInts [n]).length = 1 := rfl

theorem cn_le {t : Ty} {xs : List (PV t)} {i : Nat} (hi : i < xs.length) : cn t xs[i] ≤ (xs.map (cn t)).sum := by
  have := le_sum (l := xs.map (cn t)) (i := i) (by simpa using hi)
  rwa [List.getElem_map] at this
end
end Go.Dn

namespace Go.Dn
def wd : Ty → Nat
  | .int _ => 1
  | .bool => 0
  | .str => 1
  | .unit => 0
  | .pair a b => wd a + wd b
  | .slice _ _ => 0
def mx : Ty → Nat
  | .pair a b => max (mx a) (mx b)
  | .slice _ t => max (wd t) (mx t)
  | _ => 0

theorem cn_tot : ∀ (t : Ty) (x : PV t), cn t x ≤ wd t + mx t * tot t x
  | .int _, _ => by simp [cn, wd]
  | .bool, _ => by simp [cn]
  | .str, _ => by simp [cn, wd]
  | .unit, _ => by simp [cn]
  | .pair a b, x => by
    have h1 := cn_tot a x.1
    have h2 := cn_tot b x.2
    simp only [cn, wd, mx, tot]
    have h3 : mx a * tot a x.1 ≤ max (mx a) (mx b) * tot a x.1 := Nat.mul_le_mul_right _ (Nat.le_max_left ..)
    have h4 : mx b * tot b x.2 ≤ max (mx a) (mx b) * tot b x.2 := Nat.mul_le_mul_right _ (Nat.le_max_right ..)
    rw [Nat.mul_add]
    omega
  | .slice _ t, xs => by
    simp only [cn, wd, mx, tot]
    have h : ∀ l : List (PV t), (l.map (cn t)).sum ≤ max (wd t) (mx t) * (l.length + (l.map (tot t)).sum) := by
      intro l
      induction l with
      | nil => simp
      | cons x l ih =>
        have h1 := cn_tot t x
        have h2 : mx t * tot t x ≤ max (wd t) (mx t) * tot t x := Nat.mul_le_mul_right _ (Nat.le_max_right ..)
        have h3 : wd t ≤ max (wd t) (mx t) := Nat.le_max_left ..
        simp only [List.map_cons, List.sum_cons, List.length_cons]
        generalize max (wd t) (mx t) = M at *
        have e : M * (l.length + 1 + (tot t x + (l.map (tot t)).sum)) = M * (l.length + (l.map (tot t)).sum) + M * tot t x + M := by
          rw [show l.length + 1 + (tot t x + (l.map (tot t)).sum) = (l.length + (l.map (tot t)).sum) + tot t x + 1 from by omega, Nat.mul_add, Nat.mul_add, Nat.mul_one]
        omega
    have := h xs
    omega

theorem cn_tot_le {t : Ty} {x : PV t} {a b : Nat} (ha : wd t ≤ a) (hb : mx t ≤ b) : cn t x ≤ a + b * tot t x := by
  have h1 := cn_tot t x
  have h2 : mx t * tot t x ≤ b * tot t x := Nat.mul_le_mul_right _ hb
  omega
end Go.Dn
