/- The size of a series: both sides count the same. -/
import Derived.Test.YtmdlfpmkghkakaaPl5
open Go Go.Dn
namespace R
set_option linter.unusedVariables false

def newN (x : PV Y_impl_Hunk) : Nat := List.length x.2.2.1
def sumNew (h : HK) : Nat := (h.map newN).sum
def goneS (h : HK) (a : Int) : Int := h.foldl (fun (n : Int) (x : PV Y_impl_Hunk) => IntKind.wrap .i64 (n + x.2.1)) a

theorem take_map_succ {α : Type} (f : α → Nat) {l : List α} {i : Nat} (hi : i < l.length) : ((l.take (i + 1)).map f).sum = ((l.take i).map f).sum + f l[i] := by
  rw [← List.take_append_getElem hi, List.map_append, List.sum_append]
  simp
theorem take_map_le {α : Type} (f : α → Nat) (l : List α) (i : Nat) : ((l.take i).map f).sum ≤ (l.map f).sum := by
  have := sum_take_le (l.map f) i
  rwa [← List.map_take] at this

theorem counts_I {h : HK} (hl : h.length ≤ 4611686018427387904) (hn : sumNew h ≤ 4611686018427387904) : ∃ g : Int, f_I_counts h = some ((g, (sumNew h : Int), ()), ()) := by
  refine ⟨(h.foldl (fun (a : Int × Int) (x : PV Y_impl_Hunk) => (IntKind.wrap .i64 (a.1 + x.2.1), a.2 + (newN x : Int))) (0, 0)).1, ?_⟩
  have := fix_fold (B := fun d => b_I_counts_3 d.1 d.2.1 d.2.2.1 d.2.2.2.1 d.2.2.2.2.1) h (fun (a : Int × Int) (x : PV Y_impl_Hunk) => (IntKind.wrap .i64 (a.1 + x.2.1), a.2 + (newN x : Int))) (fun a i => (a.1, a.2, h, (h.length : Int), (i : Int), ())) (fun a => (a.1, a.2, ()))
    (fun i a => a.2 = (((h.take i).map newN).sum : Int))
    (fun i hi a hI => by
      have e := take_map_succ newN hi
      have e2 := take_map_le newN h (i + 1)
      have e3 : (h.map newN).sum ≤ 4611686018427387904 := hn
      refine ⟨by dsimp only; rw [hI, e]; simp, ?_⟩
      show b_I_counts_3 a.1 a.2 h h.length i = _
      unfold b_I_counts_3
      rw [decide_eq_true (by omega : (i : Int) < (h.length : Int)), cond_true, inB_lt hi, cond_true, toNat_cast, getD_of hi]
      have e4 : (List.length h[i].2.2.1) = newN h[i] := rfl
      rw [e4, wrap64 (x := a.2 + (newN h[i] : Int)) (by omega) (by omega), wrap64 (x := (i : Int) + 1) (by omega) (by omega)]
      simp)
    (fun a _ => by
      show b_I_counts_3 a.1 a.2 h h.length h.length = _
      unfold b_I_counts_3
      rw [decide_eq_false (Int.lt_irrefl _), cond_false]) (0, 0) (by simp)
  unfold f_I_counts
  rw [show w_I_counts_3 (0, 0, h, (h.length : Int), 0, ()) = _ from this.1, Option.bind_some]
  have e := this.2
  rw [List.take_length] at e
  rw [e]
  rfl

theorem inner_S {h : HK} {st : List HK} {n : Nat} {acc k : Int} (hl : h.length ≤ 4611686018427387904) (ha : 0 ≤ acc) (hn : acc + sumNew h ≤ 4611686018427387904) :
    w_S_SizeOf_8 (acc, st, (n : Int), k, h, (h.length : Int), 0, ()) = some (acc + sumNew h, st, (n : Int), k, ()) := by
  have := fix_fold (B := fun d => b_S_SizeOf_8 d.1 d.2.1 d.2.2.1 d.2.2.2.1 d.2.2.2.2.1 d.2.2.2.2.2.1 d.2.2.2.2.2.2.1) h (fun (a : Int) (x : PV Y_impl_Hunk) => a + (newN x : Int)) (fun a i => (a, st, (n : Int), k, h, (h.length : Int), (i : Int), ())) (fun a => (a, st, (n : Int), k, ()))
    (fun i a => a = acc + (((h.take i).map newN).sum : Int))
    (fun i hi a hI => by
      have e := take_map_succ newN hi
      have e2 := take_map_le newN h (i + 1)
      have e3 : (h.map newN).sum = sumNew h := rfl
      refine ⟨by rw [hI, e]; simp; omega, ?_⟩
      show b_S_SizeOf_8 a st n k h h.length i = _
      unfold b_S_SizeOf_8
      rw [decide_eq_true (by omega : (i : Int) < (h.length : Int)), cond_true, inB_lt hi, cond_true, toNat_cast, getD_of hi]
      have e4 : (List.length h[i].2.2.1) = newN h[i] := rfl
      rw [e4, wrap64 (x := a + (newN h[i] : Int)) (by omega) (by omega), wrap64 (x := (i : Int) + 1) (by omega) (by omega)]
      simp)
    (fun a _ => by
      show b_S_SizeOf_8 a st n k h h.length h.length = _
      unfold b_S_SizeOf_8
      rw [decide_eq_false (Int.lt_irrefl _), cond_false]) acc (by simp)
  have e := this.2
  rw [List.take_length] at e
  refine Eq.trans (show w_S_SizeOf_8 (acc, st, (n : Int), k, h, (h.length : Int), 0, ()) = _ from this.1) ?_
  rw [e]; rfl

/-- What is counted in all. -/
def sizeP (s : TX × List HK) : Int := (s.1.length : Int) + (((s.2.map sumNew).sum : Nat) : Int)

theorem size_I {s : PV Y_impl_Series} (hs : SmSer s) (hN : sizeP (s.1, s.2.1) ≤ 4611686018427387904) : w_I_SizeOf_5 ((List.length s.1 : Int), s.2.1, (List.length s.2.1 : Int), 0, ()) = some (sizeP (s.1, s.2.1), ()) := by
  obtain ⟨hf, hh⟩ := hs
  have hlen := hh.1
  have := fix_fold (B := fun d => b_I_SizeOf_5 d.1 d.2.1 d.2.2.1 d.2.2.2.1) s.2.1 (fun (a : Int) (h : HK) => a + (sumNew h : Int)) (fun a i => (a, s.2.1, (List.length s.2.1 : Int), (i : Int), ())) (fun a => (a, ()))
    (fun i a => a = (List.length s.1 : Int) + (((List.take i s.2.1).map sumNew).sum : Int))
    (fun i hi a hI => by
      have e := take_map_succ sumNew hi
      have e2 := take_map_le sumNew s.2.1 (i + 1)
      have e3 : (List.length s.1 : Int) + ((List.map sumNew s.2.1).sum : Int) ≤ 4611686018427387904 := hN
      refine ⟨by rw [hI, e]; simp; omega, ?_⟩
      show b_I_SizeOf_5 a s.2.1 (List.length s.2.1) i = _
      unfold b_I_SizeOf_5
      obtain ⟨g, hc⟩ := counts_I (h := (s.2.1)[i]) (hh.2 _ (List.getElem_mem hi)).1 (by omega)
      rw [decide_eq_true (by omega : (i : Int) < (List.length s.2.1 : Int)), cond_true, inB_lt hi, cond_true, toNat_cast, getD_of hi, hc, Option.bind_some]
      dsimp only
      rw [wrap64 (x := a + (sumNew (s.2.1)[i] : Int)) (by omega) (by omega), wrap64 (x := (i : Int) + 1) (by omega) (by omega)]
      simp)
    (fun a _ => by
      show b_I_SizeOf_5 a s.2.1 (List.length s.2.1) (List.length s.2.1) = _
      unfold b_I_SizeOf_5
      rw [decide_eq_false (Int.lt_irrefl _), cond_false]) (List.length s.1 : Int) (by simp)
  have e := this.2
  rw [List.take_length] at e
  refine Eq.trans (show w_I_SizeOf_5 ((List.length s.1 : Int), s.2.1, (List.length s.2.1 : Int), 0, ()) = _ from this.1) ?_
  rw [e]; rfl

theorem size_S {s : PV Y_impl_Series} (hs : SmSer s) (hN : sizeP (s.1, s.2.1) ≤ 4611686018427387904) : w_S_SizeOf_5 ((List.length s.1 : Int), s.2.1, (List.length s.2.1 : Int), 0, ()) = some (sizeP (s.1, s.2.1), ()) := by
  obtain ⟨hf, hh⟩ := hs
  have hlen := hh.1
  have := fix_fold (B := fun d => b_S_SizeOf_5 d.1 d.2.1 d.2.2.1 d.2.2.2.1) s.2.1 (fun (a : Int) (h : HK) => a + (sumNew h : Int)) (fun a i => (a, s.2.1, (List.length s.2.1 : Int), (i : Int), ())) (fun a => (a, ()))
    (fun i a => a = (List.length s.1 : Int) + (((List.take i s.2.1).map sumNew).sum : Int))
    (fun i hi a hI => by
      have e := take_map_succ sumNew hi
      have e2 := take_map_le sumNew s.2.1 (i + 1)
      have e3 : (List.length s.1 : Int) + ((List.map sumNew s.2.1).sum : Int) ≤ 4611686018427387904 := hN
      refine ⟨by rw [hI, e]; simp; omega, ?_⟩
      show b_S_SizeOf_5 a s.2.1 (List.length s.2.1) i = _
      unfold b_S_SizeOf_5
      have hc := inner_S (h := (s.2.1)[i]) (st := s.2.1) (n := List.length s.2.1) (acc := a) (k := (i : Int)) (hh.2 _ (List.getElem_mem hi)).1 (by omega) (by omega)
      rw [decide_eq_true (by omega : (i : Int) < (List.length s.2.1 : Int)), cond_true, inB_lt hi, cond_true, toNat_cast, getD_of hi, hc, Option.bind_some]
      dsimp only
      rw [wrap64 (x := (i : Int) + 1) (by omega) (by omega)]
      simp)
    (fun a _ => by
      show b_S_SizeOf_5 a s.2.1 (List.length s.2.1) (List.length s.2.1) = _
      unfold b_S_SizeOf_5
      rw [decide_eq_false (Int.lt_irrefl _), cond_false]) (List.length s.1 : Int) (by simp)
  have e := this.2
  rw [List.take_length] at e
  refine Eq.trans (show w_S_SizeOf_5 ((List.length s.1 : Int), s.2.1, (List.length s.2.1 : Int), 0, ()) = _ from this.1) ?_
  rw [e]; rfl

theorem sum_le {α : Type} {f g : α → Nat} : ∀ {l : List α}, (∀ x ∈ l, f x ≤ g x) → (l.map f).sum ≤ (l.map g).sum
  | [], _ => Nat.le_refl _
  | x :: l, h => by
    simp only [List.map_cons, List.sum_cons]
    have := h x (List.mem_cons_self ..)
    have := sum_le (l := l) fun y hy => h y (List.mem_cons_of_mem _ hy)
    omega

theorem size_tot {s : PV Y_impl_Series} : sizeP (s.1, s.2.1) ≤ (tot Y_impl_Series s : Int) := by
  have e0 : tot Y_impl_Series s = tot S_string s.1 + (tot S_S_impl_Hunk s.2.1 + 0) := rfl
  have e1 : tot S_S_impl_Hunk s.2.1 = List.length s.2.1 + (List.map (tot S_impl_Hunk) s.2.1).sum := tot_slice
  have e2 : tot S_string s.1 = List.length s.1 + (List.map (tot .str) s.1).sum := tot_slice
  have e3 : (List.map sumNew s.2.1).sum ≤ (List.map (tot S_impl_Hunk) s.2.1).sum := sum_le fun h _ => by
    have e4 : tot S_impl_Hunk h = h.length + (h.map (tot Y_impl_Hunk)).sum := tot_slice
    have e5 : sumNew h ≤ (h.map (tot Y_impl_Hunk)).sum := sum_le fun x _ => by
      have e6 : tot Y_impl_Hunk x = 0 + (0 + (tot S_string x.2.2.1 + 0)) := rfl
      have e7 : tot S_string x.2.2.1 = List.length x.2.2.1 + (List.map (tot .str) x.2.2.1).sum := tot_slice
      show List.length x.2.2.1 ≤ _
      omega
    omega
  unfold sizeP
  show (List.length s.1 : Int) + (((List.map sumNew s.2.1).sum : Nat) : Int) ≤ _
  omega

theorem law_SizeOf (t0 : PV Y_laws_Series) (hw : WfV Y_laws_Series t0) : f_L_FnExactSizeOf t0 = some ((true, ()), ()) := by
  unfold f_L_FnExactSizeOf
  rw [p_L_szSeries t0 1048576 (by omega) (by omega) hw, Option.bind_some]
  by_cases hs : ((tot Y_laws_Series t0 : Nat) : Int) ≤ 1048576
  · rw [szR_pos hs]
    dsimp only
    have hs' : tot Y_laws_Series t0 ≤ 1048576 := by omega
    have hb : tot Y_impl_Series t0 ≤ 4611686018427387904 := by show tot Y_laws_Series t0 ≤ _; omega
    have hS := SmSer.of (s := t0) hb (Nat.le_refl _)
    have hN : sizeP (t0.1, t0.2.1) ≤ 4611686018427387904 := by have := size_tot (s := t0); omega
    rw [decide_eq_false (by omega : ¬ ((1048576 : Int) - ((tot Y_laws_Series t0 : Nat) : Int) < 0)), cond_false, p_L_toSeries t0 hs', Option.bind_some]
    dsimp only
    have hr : ∃ a b, f_S_SizeOf t0 = some ((a, b, ()), ()) ∧ f_I_SizeOf t0 = some ((a, b, ()), ()) := by
      unfold f_S_SizeOf f_I_SizeOf
      rw [goodSeries_S hS, goodSeries_I hS, size_I hS hN, size_S hS hN, Option.bind_some, Option.bind_some]
      cases seriesP (t0.1, t0.2.1)
      · exact ⟨_, _, rfl, rfl⟩
      · exact ⟨_, _, rfl, rfl⟩
    obtain ⟨a, b, hS', hI'⟩ := hr
    rw [hS', Option.bind_some, Option.bind_some, hI', Option.bind_some]
    dsimp only
    rw [beq_self_eq_true, Bool.not_true, cond_false, Option.bind_some]
    dsimp only
    rw [beq_self_eq_true, Bool.not_true, cond_false, p_L_toSeries t0 hs', Option.bind_some]
    dsimp only
    rw [p_L_eqSeries t0 hb]
    rfl
  · rw [szR_neg hs]; rfl
end R
