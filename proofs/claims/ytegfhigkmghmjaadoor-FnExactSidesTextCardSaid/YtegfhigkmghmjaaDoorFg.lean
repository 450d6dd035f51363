/- slices.Repeat over one number: what is known of its walk, as a contract of this text's form. -/
import Derived.Test.YtegfhigkmghmjaaDoorEd
import Derived.Test.YtegfhigkmghmjaaDoorFd
import Derived.Test.YtegfhigkmghmjaaDoorGa
import Derived.Shelf.Bits.Mul64
import Derived.Laws.CopyOwn
import Derived.Laws.MakeOwn
import Derived.Lib.BufferWrite
import Derived.Deep.LoopGhost
import Derived.Deep.RegionLaw
import Derived.Deep.DeepCutAuto
import Derived.Deep.DeepFit
import Derived.WalkKit
namespace Go.Dn
open Go.Shelf Go.Proofs Go.RowKit

/-- What is in the row after k of c copies. -/
def rowK (x : Value) (k c : Nat) : List Value := List.replicate k x ++ List.replicate (c - k) (.int .i64 0)
theorem rowK_len (x : Value) {k c : Nat} (h : k ≤ c) : (rowK x k c).length = c := by simp [rowK]; omega
theorem rowK_splice (x : Value) {k c m : Nat} (h : k + m ≤ c) : splice (rowK x k c) k (List.replicate m x) = rowK x (k + m) c := by
  simp only [splice, rowK, List.length_replicate, List.take_append, List.take_replicate, List.drop_append, List.drop_replicate]
  rw [show c - k - (k + m - k) = c - (k + m) by omega]
  simp
  rw [← List.append_assoc, List.replicate_append_replicate]
theorem rowK_zero (x : Value) {c : Nat} : rowK x 0 c = List.replicate c (.int .i64 0) := by simp [rowK]
theorem rowK_all (x : Value) {c : Nat} : rowK x c c = List.replicate c x := by simp [rowK]
theorem rowK_at (x : Value) {k c j : Nat} (h : j < k) : (rowK x k c)[j]? = some x := by
  rw [rowK, List.getElem?_append_left (by simpa using h)]; simp [h]

theorem cell_row {w : World} {g : Nat} {cur : Array Value} {t : TypeId} (hg : w.heap[g]? = some (.cells cur t (0, 0))) (j : Nat) : w.cell? (({ block := g, off := 0, spot := none } : Addr).add j) = cur[j]? := by
  by_cases h : j = 0
  · subst h; simp [World.cell?, Addr.add, hg]
  · simp [World.cell?, Addr.add, hg, h]


section
variable {P : Program} {g : Glob}

/-- A number as often as it is asked for. -/
def repF (te : TypeId) (x : PV (.slice te (.int .i64))) (c : PV (.int .i64)) : Option (PVs [.slice te (.int .i64)] × PVs []) :=
  match (x : List Int) with
  | [a] => bif (decide ((0 : Int) ≤ c) && decide ((c : Int) ≤ 1099511627776)) then some (((List.replicate (Int.toNat c) a : List Int), ()), ()) else none
  | _ => none

theorem repL_rep {w : World} {Pr : Nat → Prop} {oe : Ow} (a : Int) : ∀ n : Nat, RepL (Rep w Pr (.int .i64) oe) (List.replicate n (Value.int .i64 a)) (List.replicate n a : List Int) []
  | 0 => ⟨rfl, rfl⟩
  | n + 1 => ⟨[.int .i64 a], List.replicate n (.int .i64 a), [], [], rfl, List.Perm.refl _, ⟨rfl, rfl⟩, repL_rep a n⟩

theorem fnOk_repeat {k : FuncId} {te : TypeId} (hfn : ∃ fn, P.funcs[k]? = some fn ∧ fn.body.isSome = true ∧ (fn.name == "runtime.NumGoroutine") = false)
    (h : ∀ (x : Int) (A : Addr) (cap c : Nat) (w : World), w.cell? A = some (.int .i64 x) → A.block < w.heap.size → c ≤ 1099511627776 → 1 ≤ cap →
      Calls P k #[.slice (some A) 1 cap, .int .i64 c] w fun e w' => e = .returned (.slice (some ⟨w.heap.size, 0, none⟩) c c) ∧ w'.heap[w.heap.size]? = some (.cells (List.replicate c (.int .i64 x)).toArray te (0, 0)) ∧ Below w.heap.size w w') :
    FnOk g P k ⟨[(.bor, .slice te (.int .i64)), (.bor, .int .i64)], [(.slice te (.int .i64), true)], fun x => repF te x.1 x.2.1⟩ := by
  refine ⟨rfl, fun w Pr vs xs bss r hpl hargs hnd hfr _ _ hr => ⟨hfn, ?_⟩⟩
  obtain ⟨v1, v2, rfl, rfl, h1, h2⟩ := bor2 hargs
  obtain ⟨x, c, u⟩ := xs
  dsimp only at hr
  unfold repF at hr
  split at hr
  · rename_i a
    simp only [Bool.cond_eq_ite, Bool.and_eq_true, decide_eq_true_eq] at hr
    split at hr
    · rename_i hc
      obtain rfl := Option.some.inj hr
      obtain ⟨cs, rfl, hrep⟩ := h1
      obtain ⟨_, A, cap, rfl, hle, hor⟩ := rep_bor.1 hrep
      obtain ⟨cs2, rfl, hrep2⟩ := h2
      obtain ⟨n, rfl⟩ := Int.eq_ofNat_of_zero_le hc.1
      rcases hor with hor | ⟨ad, ys, rfl, hpr, hcl, hrl⟩
      · cases hor
      · have hys : ys = [.int .i64 a] := by
          obtain ⟨c1, c2, b1, b2, e1, e2, k1, k2⟩ := hrl
          obtain ⟨rfl, _⟩ := k2
          have := k1.1
          rw [e1, this]; rfl
        subst hys
        have hcell : w.cell? ad = some (.int .i64 a) := hcl 0 _ rfl
        have hcs2 : cs2 = [.int .i64 (n : Int)] := hrep2.1
        subst hcs2
        refine (h a ad cap n w hcell (hpl _ hpr) (by have h2 : (n : Int) ≤ 1099511627776 := hc.2; omega) hle).mono fun e w' ⟨e1, e2, e3⟩ => ?_
        refine ⟨[.slice (some ⟨w.heap.size, 0, none⟩) n n], Pr, [w.heap.size], [[], []], e1, ⟨[w.heap.size], [], by simp, .inr ?_, rfl⟩, ⟨rfl, rfl, trivial⟩, by simp, fun b hb => ?_, fun b hb => hb, fun b hb => .inl hb, e3.os, e3.tape, e3.output, e3.size, fun b hb _ => e3.block b hb⟩
        · refine ⟨[.slice (some ⟨w.heap.size, 0, none⟩) n n], rfl, rep_row.2 ⟨_, List.replicate n (.int .i64 a), [], rfl, ?_, by simp [Value.ownBlock], repL_rep _ n⟩⟩
          have hn : (n : Int) ≤ 1099511627776 := hc.2
          have hsz : (Ty.int IntKind.i64).size = 1 := rfl
          refine ⟨by simp [hsz], .inr ⟨w.heap.size, n, _, by simp, Nat.zero_le _, e2, by simp, by simp only [maxLen]; omega, by simp [hsz], by simp [hsz]⟩⟩
        · obtain rfl : b = w.heap.size := by simpa using hb
          exact ⟨.inr (Nat.le_refl _), fun hp => absurd (hpl _ hp) (by omega), (Array.getElem?_eq_some_iff.1 e2).1⟩
    · cases hr
  · cases hr
end
end Go.Dn
