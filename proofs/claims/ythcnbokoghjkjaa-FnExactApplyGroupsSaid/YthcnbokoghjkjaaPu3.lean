/- Lists of groups: both sides test them alike; groups that lead back. -/
import Derived.Test.YthcnbokoghjkjaaPu2
open Go Go.Dn
namespace R
set_option linter.unusedVariables false

abbrev GR := List (PV Y_impl_Group)
abbrev G0 : PV Y_impl_Group := dflt Y_impl_Group
def oldE (x : PV Y_impl_Group) : Int := IntKind.wrap .i64 (x.1 + ((sideL x.2.2.1 3).length : Int))
def newE (x : PV Y_impl_Group) : Int := IntKind.wrap .i64 (x.2.1 + ((sideL x.2.2.1 2).length : Int))
def badGr (g : GR) (k : Nat) : Bool :=
  !(goodG (g.getD k G0)) || (decide ((k : Int) > 0) && (decide ((g.getD k G0).1 < oldE (g.getD (k - 1) G0)) || decide ((g.getD k G0).2.1 < newE (g.getD (k - 1) G0))))
def goodGs (g : GR) : Bool := decide (g.length ≤ 20) && !(anyN g.length (badGr g))
def SmG (g : GR) : Prop := g.length ≤ 1048576 ∧ ∀ x ∈ g, SmR (x : PV Y_impl_Group).2.2.1
theorem SmG.mem {g : GR} (h : SmG g) {i : Nat} (hi : i < g.length) : SmR (g.getD i G0).2.2.1 := by
  rw [getD_of hi]
  exact h.2 _ (List.getElem_mem hi)

theorem stepG_I {g : GR} (hs : SmG g) {i : Nat} (hi : i < g.length) :
    b_I_goodGroups_4 g g g.length i = some (if badGr g i then .inr (.inr (false, ())) else .inl (g, g, (g.length : Int), (i : Int) + 1, ())) := by
  have hl := hs.1
  have hm := hs.mem hi
  unfold b_I_goodGroups_4
  rw [decide_eq_true (by omega : (i : Int) < (g.length : Int)), cond_true, inB_lt hi, cond_true, toNat_cast]
  unfold badGr f_I_Group_old f_I_Group_fresh
  generalize hx : g.getD i G0 = x at *
  rw [group_I hm, Option.bind_some]
  dsimp only
  cases goodG x
  · rfl
  · rw [Bool.not_true, cond_false]
    cases i with
    | zero =>
      rw [decide_eq_false (by omega : ¬ (((0 : Nat) : Int) > 0)), cond_false, Option.bind_some]
      dsimp only
      rw [wrap64 (by omega) (by omega)]
      rfl
    | succ j =>
      have hm' := hs.mem (show j < g.length by omega)
      rw [decide_eq_true (by omega : ((j + 1 : Nat) : Int) > 0), cond_true, show IntKind.wrap .i64 (((j + 1 : Nat) : Int) - 1) = (j : Int) from by rw [wrap64 (by omega) (by omega)]; omega, inB_lt (by omega : j < g.length), cond_true, cond_true, toNat_cast, Nat.add_sub_cancel]
      generalize hy : g.getD j G0 = y at *
      rw [sideOf_I hm', Option.bind_some, Option.bind_some, sideOf_I hm', Option.bind_some, Option.bind_some, cond_true, cond_true]
      dsimp only
      unfold oldE newE
      cases decide (x.1 < IntKind.wrap .i64 (y.1 + ((sideL y.2.2.1 3).length : Int)))
      · rw [cond_false, Option.bind_some]
        dsimp only
        cases decide (x.2.1 < IntKind.wrap .i64 (y.2.1 + ((sideL y.2.2.1 2).length : Int)))
        · rw [cond_false, wrap64 (x := ((j + 1 : Nat) : Int) + 1) (by omega) (by omega)]; rfl
        · rfl
      · rfl

theorem stepG_S {g : GR} (hs : SmG g) {i : Nat} (hi : i < g.length) :
    b_S_l6Good_2 g g g.length i = some (if badGr g i then .inr (.inr (false, ())) else .inl (g, g, (g.length : Int), (i : Int) + 1, ())) := by
  have hl := hs.1
  have hm := hs.mem hi
  unfold b_S_l6Good_2
  rw [decide_eq_true (by omega : (i : Int) < (g.length : Int)), cond_true, inB_lt hi, cond_true, toNat_cast]
  unfold badGr
  generalize hx : g.getD i G0 = x at *
  rw [group_S hm, Option.bind_some]
  dsimp only
  cases goodG x
  · rfl
  · rw [Bool.not_true, cond_false]
    cases i with
    | zero =>
      rw [decide_eq_false (by omega : ¬ (((0 : Nat) : Int) > 0)), cond_false, Option.bind_some]
      dsimp only
      rw [wrap64 (by omega) (by omega)]
      rfl
    | succ j =>
      have hm' := hs.mem (show j < g.length by omega)
      rw [decide_eq_true (by omega : ((j + 1 : Nat) : Int) > 0), cond_true, show IntKind.wrap .i64 (((j + 1 : Nat) : Int) - 1) = (j : Int) from by rw [wrap64 (by omega) (by omega)]; omega, inB_lt (by omega : j < g.length), cond_true, cond_true, toNat_cast, Nat.add_sub_cancel]
      generalize hy : g.getD j G0 = y at *
      rw [old_S hm', Option.bind_some, new_S hm', Option.bind_some, cond_true, cond_true]
      dsimp only
      unfold oldE newE
      cases decide (x.1 < IntKind.wrap .i64 (y.1 + ((sideL y.2.2.1 3).length : Int)))
      · rw [cond_false, Option.bind_some]
        dsimp only
        cases decide (x.2.1 < IntKind.wrap .i64 (y.2.1 + ((sideL y.2.2.1 2).length : Int)))
        · rw [cond_false, wrap64 (x := ((j + 1 : Nat) : Int) + 1) (by omega) (by omega)]; rfl
        · rfl
      · rfl

theorem groups_I {g : GR} (hs : SmG g) : f_I_goodGroups g = some ((goodGs g, ()), ()) := by
  have hl := hs.1
  unfold f_I_goodGroups goodGs
  by_cases hn : g.length ≤ 20
  · rw [decide_eq_false (by omega : ¬ ((g.length : Int) > 20)), cond_false, decide_eq_true hn, Bool.true_and]
    rw [show w_I_goodGroups_4 (g, g, (g.length : Int), 0, ()) = _ from fix_anyN (B := fun d => b_I_goodGroups_4 d.1 d.2.1 d.2.2.1 d.2.2.2.1) g.length (badGr g) (fun i => (g, g, (g.length : Int), (i : Int), ())) (fun _ => .inr (false, ())) (.inl ())
      (fun i hi hq => by show b_I_goodGroups_4 g g g.length i = _; rw [stepG_I hs hi, hq]; rfl)
      (fun i hi hq => by show b_I_goodGroups_4 g g g.length i = _; rw [stepG_I hs hi, hq]; rfl)
      (by
        show b_I_goodGroups_4 g g g.length g.length = _
        unfold b_I_goodGroups_4
        rw [decide_eq_false (Int.lt_irrefl _), cond_false])]
    cases anyN g.length (badGr g) <;> rfl
  · rw [decide_eq_true (by omega : (g.length : Int) > 20), cond_true, decide_eq_false hn]; rfl

theorem groups_S {g : GR} (hs : SmG g) : f_S_l6Good g = some ((goodGs g, ()), ()) := by
  have hl := hs.1
  unfold f_S_l6Good goodGs
  rw [show w_S_l6Good_2 (g, g, (g.length : Int), 0, ()) = _ from fix_anyN (B := fun d => b_S_l6Good_2 d.1 d.2.1 d.2.2.1 d.2.2.2.1) g.length (badGr g) (fun i => (g, g, (g.length : Int), (i : Int), ())) (fun _ => .inr (false, ())) (.inl (g, ()))
      (fun i hi hq => by show b_S_l6Good_2 g g g.length i = _; rw [stepG_S hs hi, hq]; rfl)
      (fun i hi hq => by show b_S_l6Good_2 g g g.length i = _; rw [stepG_S hs hi, hq]; rfl)
      (by
        show b_S_l6Good_2 g g g.length g.length = _
        unfold b_S_l6Good_2
        rw [decide_eq_false (Int.lt_irrefl _), cond_false])]
  cases anyN g.length (badGr g)
  · rw [if_neg (by simp), Option.bind_some]
    dsimp only
    by_cases hn : g.length ≤ 20
    · rw [decide_eq_true (by omega : (g.length : Int) ≤ 20), decide_eq_true hn]; rfl
    · rw [decide_eq_false (by omega : ¬ (g.length : Int) ≤ 20), decide_eq_false hn]; rfl
  · rw [if_pos rfl]; simp

theorem SmG.of {e : TypeId} {g : GR} (h : tot (.slice e Y_impl_Group) g ≤ 1048576) : SmG g := by
  refine ⟨?_, fun x hx => ?_⟩
  · have h' := h
    rw [tot_slice] at h'
    omega
  · have := tot_all h x hx
    refine ⟨?_, fun r hr => ?_⟩
    · simp only [tot] at this
      omega
    · have h2 : tot S_impl_Row x.2.2.1 ≤ 1048576 := by
        simp only [tot] at this ⊢
        omega
      have := tot_all (e := _) h2 r hr
      simp only [tot] at this
      omega

/-- What goes comes, and what comes goes. -/
def bkStep (a : RW × RW) (r : PV Y_impl_Row) : RW × RW :=
  bif r.1 == 2 then (a.1, a.2 ++ [(3, (r.2.1, ()))]) else bif r.1 == 3 then (a.1 ++ [(2, (r.2.1, ()))], a.2) else ((a.1 ++ a.2) ++ [r], [])
def bkL (rows : RW) : RW := (rows.foldl bkStep ([], [])).1 ++ (rows.foldl bkStep ([], [])).2

theorem bkStep_len (a : RW × RW) (r : PV Y_impl_Row) : (bkStep a r).1.length + (bkStep a r).2.length = a.1.length + a.2.length + 1 := by
  unfold bkStep
  cases r.1 == 2 <;> cases r.1 == 3 <;> simp <;> omega

theorem back_I {rows : RW} (h : SmR rows) : f_I_back rows = some ((bkL rows, ()), ()) := by
  have hl := h.1
  have hf := fix_fold (B := fun d => b_I_back_4 d.1 d.2.1 d.2.2.1 d.2.2.2.1 d.2.2.2.2.1) rows bkStep (fun a i => (a.1, a.2, rows, (rows.length : Int), (i : Int), ())) (fun a => (a.1, a.2, ())) (fun i a => a.1.length + a.2.length = i)
    (fun i hi a hI => by
      refine ⟨by rw [bkStep_len, hI], ?_⟩
      show b_I_back_4 a.1 a.2 rows rows.length i = _
      unfold b_I_back_4
      rw [decide_eq_true (by omega : (i : Int) < (rows.length : Int)), cond_true, inB_lt hi, cond_true, toNat_cast, getD_of hi]
      unfold bkStep
      have hI' : a.1.length + a.2.length ≤ 1048576 := by omega
      cases rows[i].1 == 2
      · cases rows[i].1 == 3
        · rw [cond_false, cond_false, roomB_ok (by omega), cond_true, roomB_ok (by simp; omega), cond_true, Option.bind_some]
          dsimp only
          rw [wrap64 (by omega) (by omega)]
          simp
        · rw [cond_false, cond_true, roomB_ok (by simp; omega), cond_true, Option.bind_some]
          dsimp only
          rw [wrap64 (by omega) (by omega)]
          simp
      · rw [cond_true, roomB_ok (by simp; omega), cond_true, Option.bind_some]
        dsimp only
        rw [wrap64 (by omega) (by omega)]
        simp)
    (fun a _ => by
      show b_I_back_4 a.1 a.2 rows rows.length rows.length = _
      unfold b_I_back_4
      rw [decide_eq_false (Int.lt_irrefl _), cond_false]) ([], []) rfl
  unfold f_I_back
  rw [show w_I_back_4 (([] : PV S_impl_Row), ([] : PV S_impl_Row), rows, (rows.length : Int), 0, ()) = _ from hf.1, Option.bind_some]
  dsimp only
  rw [roomB_ok (by have := hf.2; omega), cond_true]
  rfl

theorem back_S {g : PV Y_impl_Group} (h : SmR g.2.2.1) : f_S_l7Back g = some (((g.2.1, (g.1, (bkL g.2.2.1, ()))), ()), ()) := by
  have hl := h.1
  obtain ⟨at0, to0, rows, u⟩ := g
  dsimp only at h hl ⊢
  have hz : List.length (rows ++ [((1, (([] : PV .str), ())) : PV Y_impl_Row)]) = rows.length + 1 := by simp
  generalize hz0 : ((0, (0, (([] : PV S_impl_Row), ()))) : PV Y_impl_Group) = z0
  have hf := fix_fold (B := fun d => b_S_l7Back_4 d.1 d.2.1 d.2.2.1 d.2.2.2.1 d.2.2.2.2.1 d.2.2.2.2.2.1) (rows ++ [((1, (([] : PV .str), ())) : PV Y_impl_Row)]) bkStep
    (fun a i => (z0, (to0, (at0, (a.1, ()))), a.2, rows ++ [((1, (([] : PV .str), ())) : PV Y_impl_Row)], ((rows.length + 1 : Nat) : Int), (i : Int), ())) (fun a => (z0, (to0, (at0, (a.1, ()))), ())) (fun i a => a.1.length + a.2.length = i)
    (fun i hi a hI => by
      refine ⟨by rw [bkStep_len, hI], ?_⟩
      rw [hz] at hi
      show b_S_l7Back_4 z0 (to0, (at0, (a.1, ()))) a.2 (rows ++ [((1, (([] : PV .str), ())) : PV Y_impl_Row)]) ((rows.length + 1 : Nat) : Int) i = _
      unfold b_S_l7Back_4
      rw [decide_eq_true (by omega : (i : Int) < ((rows.length + 1 : Nat) : Int)), cond_true, inB_lt (by rw [hz]; exact hi), cond_true, toNat_cast, getD_of (by rw [hz]; exact hi)]
      unfold bkStep
      generalize (rows ++ [((1, (([] : PV .str), ())) : PV Y_impl_Row)])[i] = r
      have hI' : a.1.length + a.2.length ≤ 1048577 := by omega
      cases r.1 == 2
      · cases r.1 == 3
        · rw [cond_false, cond_false]
          dsimp only
          rw [roomB_ok (by omega), cond_true, roomB_ok (by simp; omega), cond_true, Option.bind_some]
          dsimp only
          rw [wrap64 (by omega) (by omega)]
          simp
        · rw [cond_false, cond_true]
          dsimp only
          rw [roomB_ok (by simp; omega), cond_true, Option.bind_some]
          dsimp only
          rw [wrap64 (by omega) (by omega)]
          simp
      · rw [cond_true, roomB_ok (by simp; omega), cond_true, Option.bind_some]
        dsimp only
        rw [wrap64 (by omega) (by omega)]
        simp)
    (fun a _ => by
      rw [hz]
      show b_S_l7Back_4 z0 (to0, (at0, (a.1, ()))) a.2 (rows ++ [((1, (([] : PV .str), ())) : PV Y_impl_Row)]) ((rows.length + 1 : Nat) : Int) ((rows.length + 1 : Nat) : Int) = _
      unfold b_S_l7Back_4
      rw [decide_eq_false (Int.lt_irrefl _), cond_false]) ([], []) rfl
  unfold f_S_l7Back
  dsimp only
  rw [hz0, List.nil_append, roomB_ok (by simp; omega), cond_true, roomB_ok (by simp; omega), cond_true, hz]
  rw [show w_S_l7Back_4 (z0, (to0, (at0, (([] : PV S_impl_Row), ()))), [], rows ++ [((1, (([] : PV .str), ())) : PV Y_impl_Row)], ((rows.length + 1 : Nat) : Int), 0, ()) = _ from hf.1, Option.bind_some]
  dsimp only
  have hk : (List.foldl bkStep ([], []) (rows ++ [((1, (([] : PV .str), ())) : PV Y_impl_Row)])).1 = bkL rows ++ [((1, (([] : PV .str), ())) : PV Y_impl_Row)] := by
    rw [List.foldl_append]
    rfl
  rw [hk]
  have hlen : (bkL rows ++ [((1, (([] : PV .str), ())) : PV Y_impl_Row)]).length = (bkL rows).length + 1 := by simp
  have hb : (bkL rows).length = rows.length := by
    have : ∀ (l : RW) (a : RW × RW), (l.foldl bkStep a).1.length + (l.foldl bkStep a).2.length = a.1.length + a.2.length + l.length := by
      intro l
      induction l with
      | nil => intro a; rfl
      | cons r l ih => intro a; rw [List.foldl_cons, ih, bkStep_len, List.length_cons]; omega
    have := this rows ([], [])
    unfold bkL
    rw [List.length_append]
    simpa using this
  rw [hlen, show IntKind.wrap .i64 ((((bkL rows).length + 1 : Nat) : Int) - 1) = ((bkL rows).length : Int) from by rw [wrap64 (by omega) (by omega)]; omega]
  rw [show cutB 0 ((bkL rows).length : Int) ((bkL rows).length + 1) = true from by unfold cutB; simp; omega, cond_true, cond_true]
  rw [show cutL 0 ((bkL rows).length : Int) (bkL rows ++ [((1, (([] : PV .str), ())) : PV Y_impl_Row)]) = bkL rows from by unfold cutL; simp]

def bkG (x : PV Y_impl_Group) : PV Y_impl_Group := (x.2.1, (x.1, (bkL x.2.2.1, ())))
def bkR (g : GR) : GR := bif goodGs g then g.map bkG else []

theorem push_loop {α S R : Type} {B : S → Option (S ⊕ R)} {β : Type} (xs : List α) (f : α → β) (mk : List β → Nat → S) (fin : List β → R)
    (hgo : ∀ i (hi : i < xs.length) (acc : List β), acc.length = i → B (mk acc i) = some (.inl (mk (acc ++ [f xs[i]]) (i + 1))))
    (hend : ∀ acc, B (mk acc xs.length) = some (.inr (fin acc))) : fix B (mk [] 0) = some (fin (xs.map f)) := by
  have := fix_fold (B := B) xs (fun (a : List β) x => a ++ [f x]) mk fin (fun i a => a.length = i) (fun i hi a hI => ⟨by simp [hI], hgo i hi a hI⟩) (fun a _ => hend a) [] rfl
  rw [this.1]
  have hm : ∀ (l : List α) (a : List β), l.foldl (fun a x => a ++ [f x]) a = a ++ l.map f := by
    intro l
    induction l with
    | nil => intro a; simp
    | cons x l ih => intro a; rw [List.foldl_cons, ih, List.map_cons, List.append_assoc]; rfl
  rw [hm]; rfl

theorem backGroups_I {g : GR} (hs : SmG g) : f_I_BackGroups g = some ((bkR g, goodGs g, ()), ()) := by
  have hl := hs.1
  unfold f_I_BackGroups bkR
  rw [groups_I hs, Option.bind_some]
  dsimp only
  cases goodGs g
  · rfl
  · rw [Bool.not_true, cond_false, show w_I_BackGroups_5 (([] : PV S_impl_Group), g, (g.length : Int), 0, ()) = _ from push_loop (B := fun d => b_I_BackGroups_5 d.1 d.2.1 d.2.2.1 d.2.2.2.1) g bkG (fun acc i => (acc, g, (g.length : Int), (i : Int), ())) (fun acc => (acc, ()))
      (fun i hi acc ha => by
        show b_I_BackGroups_5 acc g g.length i = _
        unfold b_I_BackGroups_5
        have hm := hs.mem hi
        rw [decide_eq_true (by omega : (i : Int) < (g.length : Int)), cond_true, inB_lt hi, cond_true, toNat_cast, back_I hm, Option.bind_some, roomB_ok (by simp; omega), cond_true, getD_of hi, wrap64 (by omega) (by omega)]
        simp [bkG])
      (fun acc => by
        show b_I_BackGroups_5 acc g g.length g.length = _
        unfold b_I_BackGroups_5
        rw [decide_eq_false (Int.lt_irrefl _), cond_false])]
    rfl

theorem backGroups_S {g : GR} (hs : SmG g) : f_S_BackGroups g = some ((bkR g, goodGs g, ()), ()) := by
  have hl := hs.1
  unfold f_S_BackGroups bkR
  rw [groups_S hs, Option.bind_some]
  dsimp only
  cases goodGs g
  · rfl
  · rw [Bool.not_true, cond_false, show w_S_BackGroups_5 ([], g, (g.length : Int), 0, ()) = _ from push_loop (B := fun d => b_S_BackGroups_5 d.1 d.2.1 d.2.2.1 d.2.2.2.1) g bkG (fun acc i => (acc, g, (g.length : Int), (i : Int), ())) (fun acc => (acc, ()))
      (fun i hi acc ha => by
        show b_S_BackGroups_5 acc g g.length i = _
        unfold b_S_BackGroups_5
        have hm := hs.mem hi
        rw [decide_eq_true (by omega : (i : Int) < (g.length : Int)), cond_true, inB_lt hi, cond_true, toNat_cast, back_S hm, Option.bind_some, roomB_ok (by simp; omega), cond_true, getD_of hi, wrap64 (by omega) (by omega)]
        simp [bkG])
      (fun acc => by
        show b_S_BackGroups_5 acc g g.length g.length = _
        unfold b_S_BackGroups_5
        rw [decide_eq_false (Int.lt_irrefl _), cond_false])]
    rfl
end R
