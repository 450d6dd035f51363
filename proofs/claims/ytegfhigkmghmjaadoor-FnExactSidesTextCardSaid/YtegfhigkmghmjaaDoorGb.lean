/- Loops of the laws' own helpers: counting, copying, comparing, marking. -/
import Derived.Test.YtegfhigkmghmjaaDoorGa
namespace Go.Dn

theorem run_sz {α : Type} (f : α → Nat) : ∀ (xs : List α) (l : Int), 0 ≤ l →
    run (ρ := Unit) (fun (l : Int) x => if (f x : Int) ≤ l then .inl (l - f x) else .inr ()) l xs = if ((xs.map f).sum : Int) ≤ l then .inl (l - (xs.map f).sum) else .inr ()
  | [], l, h => by simp [run, h]
  | x :: xs, l, h => by
    simp only [run, List.map_cons, List.sum_cons]
    by_cases hx : (f x : Int) ≤ l
    · rw [if_pos hx]
      dsimp only
      rw [run_sz f xs (l - f x) (by omega)]
      by_cases hs : ((xs.map f).sum : Int) ≤ l - f x
      · rw [if_pos hs, if_pos (by omega)]; congr 1; omega
      · rw [if_neg hs, if_neg (by omega)]
    · rw [if_neg hx]
      dsimp only
      rw [if_neg (by omega)]

theorem sz_loop {T : Ty} {xs : List (PV T)} {B : List (PV T) × Int × Int × Unit → Option ((List (PV T) × Int × Int × Unit) ⊕ ((Int × Unit) ⊕ (Int × Unit)))}
    (hstep : ∀ (i : Nat) (hi : i < xs.length) (l : Int), 0 ≤ l → l ≤ 1048576 → B (xs, l, (i : Int), ()) = some (if (tot T xs[i] : Int) ≤ l then .inl (xs, l - tot T xs[i], (i : Int) + 1, ()) else .inr (.inr (-1, ()))))
    (hend : ∀ l, B (xs, l, (xs.length : Int), ()) = some (.inr (.inl (l, ())))) {L : Int} (h0 : 0 ≤ L) (h1 : L ≤ 1048576) :
    fix B (xs, L, 0, ()) = some (if ((xs.map (tot T)).sum : Int) ≤ L then .inl (L - (xs.map (tot T)).sum, ()) else .inr (-1, ())) := by
  have := (fix_run (B := B) xs (ρ := Unit) (fun (l : Int) x => if (tot T x : Int) ≤ l then .inl (l - tot T x) else .inr ()) (fun l i => (xs, l, (i : Int), ())) (fun l => .inl (l, ())) (fun _ => .inr (-1, ())) (fun _ l => 0 ≤ l ∧ l ≤ 1048576)
    (fun i hi a b hI hg => by
      split at hg
      · rename_i hc
        simp only [Sum.inl.injEq] at hg
        subst hg
        refine ⟨by omega, ?_⟩
        rw [hstep i hi a hI.1 hI.2, if_pos hc]
        simp
      · cases hg)
    (fun i hi a r hI hg => by
      split at hg
      · cases hg
      · rename_i hc
        rw [hstep i hi a hI.1 hI.2, if_neg hc])
    (fun a _ => hend a) L ⟨h0, h1⟩).1
  rw [run_sz _ _ _ h0] at this
  rw [show ((0 : Nat) : Int) = 0 from rfl] at this
  rw [this]
  by_cases hs : ((xs.map (tot T)).sum : Int) ≤ L
  · rw [if_pos hs, if_pos hs]
  · rw [if_neg hs, if_neg hs]

theorem to_loop {α β : Type} {xs : List α} (ys : List β) {d : β} {B : List α × List β × Int × Unit → Option ((List α × List β × Int × Unit) ⊕ (List β × Unit))} (hy : ys.length = xs.length)
    (hstep : ∀ (i : Nat) (hi : i < xs.length) (acc : List β), acc.length = xs.length → B (xs, acc, (i : Int), ()) = some (.inl (xs, acc.set i (ys[i]'(hy ▸ hi)), (i : Int) + 1, ())))
    (hend : ∀ acc, B (xs, acc, (xs.length : Int), ()) = some (.inr (acc, ()))) : fix B (xs, List.replicate xs.length d, 0, ()) = some (ys, ()) := by
  have := fix_all (B := B) (fun i => (xs, ys.take i ++ List.replicate (ys.length - i) d, (i : Int), ())) xs.length (r := (ys, ()))
    (fun i hi => by
      have hi' : i < ys.length := by omega
      rw [hstep i hi _ (by simp; omega), set_fill hi']
      simp)
    (by rw [hend]; simp [← hy])
  simpa [hy] using this

theorem eq_loop {α : Type} {xs : List α} {B : List α × List α × Int × Unit → Option ((List α × List α × Int × Unit) ⊕ (Unit ⊕ (Bool × Unit)))}
    (hstep : ∀ (i : Nat), i < xs.length → B (xs, xs, (i : Int), ()) = some (.inl (xs, xs, (i : Int) + 1, ()))) (hend : B (xs, xs, (xs.length : Int), ()) = some (.inr (.inl ()))) :
    fix B (xs, xs, 0, ()) = some (.inl ()) := by
  exact fix_all (B := B) (fun i => (xs, xs, (i : Int), ())) xs.length (fun i hi => by rw [hstep i hi]; simp) hend

/-- What is left when n are taken from L, -1 if there are not so many. -/
def szR (n : Nat) (L : Int) : Int := if (n : Int) ≤ L then L - n else -1
theorem szR_pos {n : Nat} {L : Int} (h : (n : Int) ≤ L) : szR n L = L - n := if_pos h
theorem szR_neg {n : Nat} {L : Int} (h : ¬ (n : Int) ≤ L) : szR n L = -1 := if_neg h
theorem sz_out {m n b : Nat} {L : Int} (hc : (n : Int) ≤ L) (hm : m = n + b) :
    ((some (if (b : Int) ≤ L - n then Sum.inl (L - n - b, ()) else Sum.inr (-1, ())) : Option ((Int × Unit) ⊕ (Int × Unit))).bind fun x => match x with
      | .inl l => some ((l.1, ()), ())
      | .inr l => some ((l.1, ()), ())) = some ((szR m L, ()), ()) := by
  subst hm
  by_cases hb : (b : Int) ≤ L - n
  · rw [if_pos hb, szR_pos (by omega)]
    simp only [Option.bind_some]
    congr 3; omega
  · rw [if_neg hb, szR_neg (by omega)]; rfl
theorem sum_zero {α : Type} {f : α → Nat} (h : ∀ x, f x = 0) : ∀ {xs : List α}, (xs.map f).sum = 0
  | [] => rfl
  | x :: xs => by rw [List.map_cons, List.sum_cons, h, sum_zero h]
theorem tot_mem {e : TypeId} {t : Ty} {xs : List (PV t)} {i : Nat} (hi : i < xs.length) : tot t xs[i] ≤ tot (.slice e t) xs := by
  have := le_sum (l := xs.map (tot t)) (i := i) (by simpa using hi)
  rw [List.getElem_map] at this
  rw [tot_slice]
  omega
theorem room_len {n : Nat} (h : n ≤ 1099511627776) : (decide (0 ≤ (n : Int)) && (decide ((n : Int) ≤ (n : Int)) && roomB (n : Int).toNat)) = true := by
  simp [roomB]
  omega

theorem getD_of {α : Type} {xs : List α} {d : α} {i : Nat} (h : i < xs.length) : xs.getD i d = xs[i] := by
  simp [List.getD, h]

theorem toNat_cast (i : Nat) : ((i : Int)).toNat = i := by simp
end Go.Dn
