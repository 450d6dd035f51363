/- Lists of groups: both sides test them alike; groups that lead back. -/
import Derived.Test.YtegfhigkmghmjaaDoorPg2
open Go Go.Dn
namespace R
set_option linter.unusedVariables false

abbrev GR := List (PV Y_impl_Group)
abbrev G0 : PV Y_impl_Group := dflt Y_impl_Group
def oldE (x : PV Y_impl_Group) : Int := IntKind.wrap .i64 (x.1 + ((sideL x.2.2.1 3).length : Int))
def newE (x : PV Y_impl_Group) : Int := IntKind.wrap .i64 (x.2.1 + ((sideL x.2.2.1 2).length : Int))
def badGr (g : GR) (k : Nat) : Bool :=
  !(goodG (g.getD k G0)) || (decide ((k : Int) > 0) && (decide ((g.getD k G0).1 < oldE (g.getD (k - 1) G0)) || decide ((g.getD k G0).2.1 < newE (g.getD (k - 1) G0))))
def goodGs (g : GR) : Bool := decide (g.length ≤ 20) && !(anyN g.length (badGr g))
def SmG (g : GR) : Prop := g.length ≤ 1048576 ∧ ∀ x ∈ g, SmR (x : PV Y_impl_Group).2.2.1
theorem SmG.mem {g : GR} (h : SmG g) {i : Nat} (hi : i < g.length) : SmR (g.getD i G0).2.2.1 := by
  rw [getD_of hi]
  exact h.2 _ (List.getElem_mem hi)

theorem stepG_I {g : GR} (hs : SmG g) {i : Nat} (hi : i < g.length) :
    b_I_goodGroups_4 g g g.length i = some (if badGr g i then .inr (.inr (false, ())) else .inl (g, g, (g.length : Int), (i : Int) + 1, ())) := by
  have hl := hs.1
  have hm := hs.mem hi
  unfold b_I_goodGroups_4
  rw [decide_eq_true (by omega : (i : Int) < (g.length : Int)), cond_true, inB_lt hi, cond_true, toNat_cast]
  unfold badGr f_I_Group_old f_I_Group_fresh
  generalize hx : g.getD i G0 = x at *
  rw [group_I hm, Option.bind_some]
  dsimp only
  cases goodG x
  · rfl
  · rw [Bool.not_true, cond_false]
    cases i with
    | zero =>
      rw [decide_eq_false (by omega : ¬ (((0 : Nat) : Int) > 0)), cond_false, Option.bind_some]
      dsimp only
      rw [wrap64 (by omega) (by omega)]
      rfl
    | succ j =>
      have hm' := hs.mem (show j < g.length by omega)
      rw [decide_eq_true (by omega : ((j + 1 : Nat) : Int) > 0), cond_true, show IntKind.wrap .i64 (((j + 1 : Nat) : Int) - 1) = (j : Int) from by rw [wrap64 (by omega) (by omega)]; omega, inB_lt (by omega : j < g.length), cond_true, cond_true, toNat_cast, Nat.add_sub_cancel]
      generalize hy : g.getD j G0 = y at *
      rw [sideOf_I hm', Option.bind_some, Option.bind_some, sideOf_I hm', Option.bind_some, Option.bind_some, cond_true, cond_true]
      dsimp only
      unfold oldE newE
      cases decide (x.1 < IntKind.wrap .i64 (y.1 + ((sideL y.2.2.1 3).length : Int)))
      · rw [cond_false, Option.bind_some]
        dsimp only
        cases decide (x.2.1 < IntKind.wrap .i64 (y.2.1 + ((sideL y.2.2.1 2).length : Int)))
        · rw [cond_false, wrap64 (x := ((j + 1 : Nat) : Int) + 1) (by omega) (by omega)]; rfl
        · rfl
      · rfl

theorem stepG_S {g : GR} (hs : SmG g) {i : Nat} (hi : i < g.length) :
    b_S_l6Good_2 g g g.length i = some (if badGr g i then .inr (.inr (false, ())) else .inl (g, g, (g.length : Int), (i : Int) + 1, ())) := by
  have hl := hs.1
  have hm := hs.mem hi
  unfold b_S_l6Good_2
  rw [decide_eq_true (by omega : (i : Int) < (g.length : Int)), cond_true, inB_lt hi, cond_true, toNat_cast]
  unfold badGr
  generalize hx : g.getD i G0 = x at *
  rw [group_S hm, Option.bind_some]
  dsimp only
  cases goodG x
  · rfl
  · rw [Bool.not_true, cond_false]
    cases i with
    | zero =>
      rw [decide_eq_false (by omega : ¬ (((0 : Nat) : Int) > 0)), cond_false, Option.bind_some]
      dsimp only
      rw [wrap64 (by omega) (by omega)]
      rfl
    | succ j =>
      have hm' := hs.mem (show j < g.length by omega)
      rw [decide_eq_true (by omega : ((j + 1 : Nat) : Int) > 0), cond_true, show IntKind.wrap .i64 (((j + 1 : Nat) : Int) - 1) = (j : Int) from by rw [wrap64 (by omega) (by omega)]; omega, inB_lt (by omega : j < g.length), cond_true, cond_true, toNat_cast, Nat.add_sub_cancel]
      generalize hy : g.getD j G0 = y at *
      rw [old_S hm', Option.bind_some, new_S hm', Option.bind_some, cond_true, cond_true]
      dsimp only
      unfold oldE newE
      cases decide (x.1 < IntKind.wrap .i64 (y.1 + ((sideL y.2.2.1 3).length : Int)))
      · rw [cond_false, Option.bind_some]
        dsimp only
        cases decide (x.2.1 < IntKind.wrap .i64 (y.2.1 + ((sideL y.2.2.1 2).length : Int)))
        · rw [cond_false, wrap64 (x := ((j + 1 : Nat) : Int) + 1) (by omega) (by omega)]; rfl
        · rfl
      · rfl

theorem groups_I {g : GR} (hs : SmG g) : f_I_goodGroups g = some ((goodGs g, ()), ()) := by
  have hl := hs.1
  unfold f_I_goodGroups goodGs
  by_cases hn : g.length ≤ 20
  · rw [decide_eq_false (by omega : ¬ ((g.length : Int) > 20)), cond_false, decide_eq_true hn, Bool.true_and]
    rw [show w_I_goodGroups_4 (g, g, (g.length : Int), 0, ()) = _ from fix_anyN (B := fun d => b_I_goodGroups_4 d.1 d.2.1 d.2.2.1 d.2.2.2.1) g.length (badGr g) (fun i => (g, g, (g.length : Int), (i : Int), ())) (fun _ => .inr (false, ())) (.inl ())
      (fun i hi hq => by show b_I_goodGroups_4 g g g.length i = _; rw [stepG_I hs hi, hq]; rfl)
      (fun i hi hq => by show b_I_goodGroups_4 g g g.length i = _; rw [stepG_I hs hi, hq]; rfl)
      (by
        show b_I_goodGroups_4 g g g.length g.length = _
        unfold b_I_goodGroups_4
        rw [decide_eq_false (Int.lt_irrefl _), cond_false])]
    cases anyN g.length (badGr g) <;> rfl
  · rw [decide_eq_true (by omega : (g.length : Int) > 20), cond_true, decide_eq_false hn]; rfl

theorem groups_S {g : GR} (hs : SmG g) : f_S_l6Good g = some ((goodGs g, ()), ()) := by
  have hl := hs.1
  unfold f_S_l6Good goodGs
  rw [show w_S_l6Good_2 (g, g, (g.length : Int), 0, ()) = _ from fix_anyN (B := fun d => b_S_l6Good_2 d.1 d.2.1 d.2.2.1 d.2.2.2.1) g.length (badGr g) (fun i => (g, g, (g.length : Int), (i : Int), ())) (fun _ => .inr (false, ())) (.inl (g, ()))
      (fun i hi hq => by show b_S_l6Good_2 g g g.length i = _; rw [stepG_S hs hi, hq]; rfl)
      (fun i hi hq => by show b_S_l6Good_2 g g g.length i = _; rw [stepG_S hs hi, hq]; rfl)
      (by
        show b_S_l6Good_2 g g g.length g.length = _
        unfold b_S_l6Good_2
        rw [decide_eq_false (Int.lt_irrefl _), cond_false])]
  cases anyN g.length (badGr g)
  · rw [if_neg (by simp), Option.bind_some]
    dsimp only
    by_cases hn : g.length ≤ 20
    · rw [decide_eq_true (by omega : (g.length : Int) ≤ 20), decide_eq_true hn]; rfl
    · rw [decide_eq_false (by omega : ¬ (g.length : Int) ≤ 20), decide_eq_false hn]; rfl
  · rw [if_pos rfl]; simp

theorem SmG.of {e : TypeId} {g : GR} (h : tot (.slice e Y_impl_Group) g ≤ 1048576) : SmG g := by
  refine ⟨?_, fun x hx => ?_⟩
  · have h' := h
    rw [tot_slice] at h'
    omega
  · have := tot_all h x hx
    refine ⟨?_, fun r hr => ?_⟩
    · simp only [tot] at this
      omega
    · have h2 : tot S_impl_Row x.2.2.1 ≤ 1048576 := by
        simp only [tot] at this ⊢
        omega
      have := tot_all (e := _) h2 r hr
      simp only [tot] at this
      omega
end R
