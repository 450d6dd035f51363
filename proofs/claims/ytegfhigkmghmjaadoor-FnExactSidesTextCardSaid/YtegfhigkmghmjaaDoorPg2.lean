/- Groups: both sides test them alike. -/
import Derived.Test.YtegfhigkmghmjaaDoorPg1
open Go Go.Dn
namespace R
set_option linter.unusedVariables false

abbrev RW := List (PV Y_impl_Row)
abbrev W0 : PV Y_impl_Row := dflt Y_impl_Row
def kd (rows : RW) (k : Nat) : Int := (rows.getD k W0).1
def badRow (rows : RW) (k : Nat) : Bool :=
  !(inI (kd rows k) 1 3) || (!(lineP (rows.getD k W0).2.1) || (decide ((k : Int) > 0) && ((kd rows k == 2) && (kd rows (k - 1) == 3))))
def chg (rows : RW) (k : Nat) : Bool := !(kd rows k == 1)
def sideL (rows : RW) (c : Int) : List (List UInt8) := (rows.filter fun (r : PV Y_impl_Row) => !(r.1 == c)).map fun r => r.2.1

def SmR (rows : RW) : Prop := rows.length ≤ 1048576 ∧ ∀ r ∈ rows, List.length (r : PV Y_impl_Row).2.1 ≤ 1048576
theorem SmR.line {rows : RW} (h : SmR rows) {k : Nat} (hk : k < rows.length) : List.length (rows.getD k W0).2.1 ≤ 4611686018427387904 := by
  rw [getD_of hk]
  have := h.2 _ (List.getElem_mem hk)
  omega

theorem anyN_succ (n : Nat) (q : Nat → Bool) : anyN (n + 1) q = (anyN n q || q n) := by
  unfold anyN
  rw [List.range_succ, List.any_append]
  simp

theorem side_next {rows : RW} {c : Int} {i : Nat} (hi : i < rows.length) : sideL (rows.take (i + 1)) c = bif !(rows[i].1 == c) then sideL (rows.take i) c ++ [rows[i].2.1] else sideL (rows.take i) c := by
  unfold sideL
  rw [← List.take_append_getElem hi, List.filter_append, List.map_append]
  cases h : (rows[i].1 == c)
  · rw [Bool.not_false, cond_true, List.filter_cons_of_pos (by simp [h])]
    rfl
  · rw [Bool.not_true, cond_false, List.filter_cons_of_neg (by simp [h])]
    simp
theorem side_len {rows : RW} {c : Int} : (sideL rows c).length ≤ rows.length := by
  unfold sideL
  rw [List.length_map]
  exact List.length_filter_le _ _
theorem side_sm {rows : RW} {c : Int} (h : SmR rows) : Sm (sideL rows c) := by
  refine ⟨Nat.le_trans side_len (Nat.le_trans h.1 (by omega)), fun s hs => ?_⟩
  unfold sideL at hs
  obtain ⟨r, hr, rfl⟩ := List.mem_map.1 hs
  exact Nat.le_trans (h.2 r ((List.mem_filter.1 hr).1)) (by omega)

theorem sideOf_I {rows : RW} {c : Int} (h : SmR rows) : f_I_sideOf rows c = some ((sideL rows c, ()), ()) := by
  have hl := h.1
  have := fix_all (B := fun d => b_I_sideOf_3 d.1 d.2.1 d.2.2.1 d.2.2.2.1 d.2.2.2.2.1) (fun i => (c, sideL (rows.take i) c, rows, (rows.length : Int), (i : Int), ())) rows.length (r := (sideL rows c, ()))
    (fun i hi => by
      show b_I_sideOf_3 c (sideL (rows.take i) c) rows rows.length i = _
      unfold b_I_sideOf_3
      have hs : (sideL (rows.take i) c).length ≤ 1048576 := Nat.le_trans side_len (by simp; omega)
      rw [decide_eq_true (by omega : (i : Int) < (rows.length : Int)), cond_true, inB_lt hi, cond_true, toNat_cast, getD_of hi, side_next hi]
      cases (rows[i].1 == c)
      · rw [Bool.not_false, cond_true, roomB_ok (by simp; omega), cond_true, Option.bind_some]
        dsimp only
        rw [wrap64 (by omega) (by omega)]
        rfl
      · rw [Bool.not_true, cond_false, Option.bind_some]
        dsimp only
        rw [wrap64 (by omega) (by omega)]
        rfl)
    (by
      show b_I_sideOf_3 c (sideL (rows.take rows.length) c) rows rows.length rows.length = _
      unfold b_I_sideOf_3
      rw [decide_eq_false (Int.lt_irrefl _), cond_false, List.take_length])
  unfold f_I_sideOf
  rw [show w_I_sideOf_3 (c, ([] : PV S_string), rows, (rows.length : Int), 0, ()) = _ from this]
  rfl

theorem old_S {g : PV Y_impl_Group} (h : SmR g.2.2.1) : f_S_l6Old g = some ((sideL g.2.2.1 3, ()), ()) := by
  have hl := h.1
  have := fix_all (B := fun d => b_S_l6Old_3 d.1 d.2.1 d.2.2.1 d.2.2.2.1) (fun i => (sideL (List.take i g.2.2.1) 3, g.2.2.1, (List.length g.2.2.1 : Int), (i : Int), ())) (List.length g.2.2.1) (r := (sideL g.2.2.1 3, ()))
    (fun i hi => by
      show b_S_l6Old_3 (sideL (List.take i g.2.2.1) 3) g.2.2.1 (List.length g.2.2.1) i = _
      unfold b_S_l6Old_3
      have hs : (sideL (List.take i g.2.2.1) 3).length ≤ 1048576 := Nat.le_trans side_len (by simp; omega)
      rw [decide_eq_true (by omega : (i : Int) < (List.length g.2.2.1 : Int)), cond_true, inB_lt hi, cond_true, toNat_cast, getD_of hi, side_next hi]
      cases (g.2.2.1[i].1 == 3)
      · rw [Bool.not_false, cond_true, roomB_ok (by simp; omega), cond_true, Option.bind_some]
        dsimp only
        rw [wrap64 (by omega) (by omega)]
        rfl
      · rw [Bool.not_true, cond_false, Option.bind_some]
        dsimp only
        rw [wrap64 (by omega) (by omega)]
        rfl)
    (by
      show b_S_l6Old_3 (sideL (List.take (List.length g.2.2.1) g.2.2.1) 3) g.2.2.1 (List.length g.2.2.1) (List.length g.2.2.1) = _
      unfold b_S_l6Old_3
      rw [decide_eq_false (Int.lt_irrefl _), cond_false, List.take_length])
  unfold f_S_l6Old
  rw [show w_S_l6Old_3 ([], g.2.2.1, (List.length g.2.2.1 : Int), 0, ()) = _ from this]
  rfl
theorem new_S {g : PV Y_impl_Group} (h : SmR g.2.2.1) : f_S_l6New g = some ((sideL g.2.2.1 2, ()), ()) := by
  have hl := h.1
  have := fix_all (B := fun d => b_S_l6New_3 d.1 d.2.1 d.2.2.1 d.2.2.2.1) (fun i => (sideL (List.take i g.2.2.1) 2, g.2.2.1, (List.length g.2.2.1 : Int), (i : Int), ())) (List.length g.2.2.1) (r := (sideL g.2.2.1 2, ()))
    (fun i hi => by
      show b_S_l6New_3 (sideL (List.take i g.2.2.1) 2) g.2.2.1 (List.length g.2.2.1) i = _
      unfold b_S_l6New_3
      have hs : (sideL (List.take i g.2.2.1) 2).length ≤ 1048576 := Nat.le_trans side_len (by simp; omega)
      rw [decide_eq_true (by omega : (i : Int) < (List.length g.2.2.1 : Int)), cond_true, inB_lt hi, cond_true, toNat_cast, getD_of hi, side_next hi]
      cases (g.2.2.1[i].1 == 2)
      · rw [Bool.not_false, cond_true, roomB_ok (by simp; omega), cond_true, Option.bind_some]
        dsimp only
        rw [wrap64 (by omega) (by omega)]
        rfl
      · rw [Bool.not_true, cond_false, Option.bind_some]
        dsimp only
        rw [wrap64 (by omega) (by omega)]
        rfl)
    (by
      show b_S_l6New_3 (sideL (List.take (List.length g.2.2.1) g.2.2.1) 2) g.2.2.1 (List.length g.2.2.1) (List.length g.2.2.1) = _
      unfold b_S_l6New_3
      rw [decide_eq_false (Int.lt_irrefl _), cond_false, List.take_length])
  unfold f_S_l6New
  rw [show w_S_l6New_3 ([], g.2.2.1, (List.length g.2.2.1 : Int), 0, ()) = _ from this]
  rfl

theorem prev_eq {rows : RW} {g : PV Y_impl_Group} (hg : g.2.2.1 = rows) {i : Nat} (hi : i < rows.length) (hl : rows.length ≤ 1048576) {x : PV Y_impl_Row} (hx : rows.getD i W0 = x) {c : Bool} :
    ((bif (decide ((i : Int) > 0)) then
        bif (x.1 == 2) then
          bif inB (IntKind.wrap .i64 ((i : Int) - 1)) (List.length g.2.2.1) then
            some (g, c, x, rows, (rows.length : Int), (i : Int), (((List.getD g.2.2.1 (IntKind.wrap .i64 ((i : Int) - 1)).toNat (dflt Y_impl_Row)).1) == 3), ())
          else none
        else some (g, c, x, rows, (rows.length : Int), (i : Int), false, ())
      else some (g, c, x, rows, (rows.length : Int), (i : Int), false, ())) : Option ((PV Y_impl_Group × PV .bool × PV Y_impl_Row × PV S_impl_Row × PV (.int .i64) × PV (.int .i64) × PV .bool × Unit))) =
      some (g, c, x, rows, (rows.length : Int), (i : Int), (decide ((i : Int) > 0) && ((kd rows i == 2) && (kd rows (i - 1) == 3))), ()) := by
  unfold kd
  rw [hx, hg]
  cases i with
  | zero => rw [decide_eq_false (by omega : ¬ (((0 : Nat) : Int) > 0))]; rfl
  | succ j =>
    rw [decide_eq_true (by omega : ((j + 1 : Nat) : Int) > 0), cond_true, Bool.true_and, show IntKind.wrap .i64 (((j + 1 : Nat) : Int) - 1) = (j : Int) from by rw [wrap64 (by omega) (by omega)]; omega, inB_lt (by omega : j < rows.length), toNat_cast, Nat.add_sub_cancel]
    cases (x.1 == 2) <;> rfl

theorem rows_I {g : PV Y_impl_Group} {rows : RW} (hg : g.2.2.1 = rows) (h : SmR rows) :
    w_I_goodGroup_5 (g, false, rows, (rows.length : Int), 0, ()) = some (if anyN rows.length (badRow rows) then .inr (false, ()) else .inl (g, anyN rows.length (chg rows), ())) := by
  have hl := h.1
  have step : ∀ i, i < rows.length → b_I_goodGroup_5 g (anyN i (chg rows)) rows rows.length i = some (if badRow rows i then .inr (.inr (false, ())) else .inl (g, anyN (i + 1) (chg rows), rows, (rows.length : Int), ((i + 1 : Nat) : Int), ())) := by
    intro i hi
    have hln := h.line hi
    unfold b_I_goodGroup_5
    rw [decide_eq_true (by omega : (i : Int) < (rows.length : Int)), cond_true, inB_lt hi, cond_true, toNat_cast, anyN_succ]
    unfold badRow chg
    generalize hx : rows.getD i W0 = x at *
    rw [in_I, Option.bind_some, line_I _ hln, Option.bind_some, prev_eq hg hi hl hx]
    rw [show kd rows i = x.1 from by unfold kd; rw [hx]]
    dsimp only
    unfold inI
    have e : IntKind.wrap .i64 ((i : Int) + 1) = ((i + 1 : Nat) : Int) := by rw [wrap64 (by omega) (by omega)]; omega
    cases decide (x.1 ≥ 1) && decide (x.1 ≤ 3)
    · rfl
    · cases lineP x.2.1
      · rfl
      · simp only [Bool.not_true, cond_false, Option.bind_some, Bool.false_or]
        cases (decide ((i : Int) > 0) && ((x.1 == 2) && (kd rows (i - 1) == 3)))
        · rw [cond_false]
          cases anyN i fun k => !(kd rows k == 1)
          · rw [cond_false, Option.bind_some]
            dsimp only
            rw [e]
            rfl
          · rw [cond_true, Option.bind_some]
            dsimp only
            rw [e]
            rfl
        · rfl
  exact fix_anyN (B := fun d => b_I_goodGroup_5 d.1 d.2.1 d.2.2.1 d.2.2.2.1 d.2.2.2.2.1) rows.length (badRow rows) (fun i => (g, anyN i (chg rows), rows, (rows.length : Int), (i : Int), ())) (fun _ => .inr (false, ())) (.inl (g, anyN rows.length (chg rows), ()))
    (fun i hi hq => by show b_I_goodGroup_5 g (anyN i (chg rows)) rows rows.length i = _; rw [step i hi, hq]; rfl)
    (fun i hi hq => by show b_I_goodGroup_5 g (anyN i (chg rows)) rows rows.length i = _; rw [step i hi, hq]; rfl)
    (by
      show b_I_goodGroup_5 g (anyN rows.length (chg rows)) rows rows.length rows.length = _
      unfold b_I_goodGroup_5
      rw [decide_eq_false (Int.lt_irrefl _), cond_false])

theorem rows_S {g : PV Y_impl_Group} {rows : RW} (hg : g.2.2.1 = rows) (h : SmR rows) :
    w_S_l6Group_3 (g, false, rows, (rows.length : Int), 0, ()) = some (if anyN rows.length (badRow rows) then .inr (false, ()) else .inl (g, anyN rows.length (chg rows), ())) := by
  have hl := h.1
  have step : ∀ i, i < rows.length → b_S_l6Group_3 g (anyN i (chg rows)) rows rows.length i = some (if badRow rows i then .inr (.inr (false, ())) else .inl (g, anyN (i + 1) (chg rows), rows, (rows.length : Int), ((i + 1 : Nat) : Int), ())) := by
    intro i hi
    have hln := h.line hi
    unfold b_S_l6Group_3
    rw [decide_eq_true (by omega : (i : Int) < (rows.length : Int)), cond_true, inB_lt hi, cond_true, toNat_cast, anyN_succ]
    unfold badRow chg
    generalize hx : rows.getD i W0 = x at *
    rw [in_S, Option.bind_some, line_S _ hln, Option.bind_some, prev_eq hg hi hl hx]
    rw [show kd rows i = x.1 from by unfold kd; rw [hx]]
    dsimp only
    unfold inI
    have e : IntKind.wrap .i64 ((i : Int) + 1) = ((i + 1 : Nat) : Int) := by rw [wrap64 (by omega) (by omega)]; omega
    cases decide (x.1 ≥ 1) && decide (x.1 ≤ 3)
    · rfl
    · cases lineP x.2.1
      · rfl
      · simp only [Bool.not_true, cond_false, Option.bind_some, Bool.false_or]
        cases (decide ((i : Int) > 0) && ((x.1 == 2) && (kd rows (i - 1) == 3)))
        · rw [cond_false]
          cases anyN i fun k => !(kd rows k == 1)
          · rw [cond_false, Option.bind_some]
            dsimp only
            rw [e]
            rfl
          · rw [cond_true, Option.bind_some]
            dsimp only
            rw [e]
            rfl
        · rfl
  exact fix_anyN (B := fun d => b_S_l6Group_3 d.1 d.2.1 d.2.2.1 d.2.2.2.1 d.2.2.2.2.1) rows.length (badRow rows) (fun i => (g, anyN i (chg rows), rows, (rows.length : Int), (i : Int), ())) (fun _ => .inr (false, ())) (.inl (g, anyN rows.length (chg rows), ()))
    (fun i hi hq => by show b_S_l6Group_3 g (anyN i (chg rows)) rows rows.length i = _; rw [step i hi, hq]; rfl)
    (fun i hi hq => by show b_S_l6Group_3 g (anyN i (chg rows)) rows rows.length i = _; rw [step i hi, hq]; rfl)
    (by
      show b_S_l6Group_3 g (anyN rows.length (chg rows)) rows rows.length rows.length = _
      unfold b_S_l6Group_3
      rw [decide_eq_false (Int.lt_irrefl _), cond_false])

def goodG (g : PV Y_impl_Group) : Bool :=
  inI g.1 0 999 && (inI g.2.1 0 999 && (inI (List.length g.2.2.1 : Int) 1 80 && (!(anyN (List.length g.2.2.1) (badRow g.2.2.1)) && (anyN (List.length g.2.2.1) (chg g.2.2.1) &&
    (goodP (sideL g.2.2.1 3) && (goodP (sideL g.2.2.1 2) && (decide (IntKind.wrap .i64 (g.1 + ((sideL g.2.2.1 3).length : Int)) ≤ 1000) && decide (IntKind.wrap .i64 (g.2.1 + ((sideL g.2.2.1 2).length : Int)) ≤ 1000))))))))

theorem group_I {g : PV Y_impl_Group} (h : SmR g.2.2.1) : f_I_goodGroup g = some ((goodG g, ()), ()) := by
  unfold f_I_goodGroup goodG f_I_Group_old f_I_Group_fresh
  rw [in_I, in_I, in_I, Option.bind_some, Option.bind_some, Option.bind_some]
  dsimp only
  unfold inI
  cases decide (g.1 ≥ 0) && decide (g.1 ≤ 999)
  · rfl
  · cases decide (g.2.1 ≥ 0) && decide (g.2.1 ≤ 999)
    · rfl
    · cases decide ((List.length g.2.2.1 : Int) ≥ 1) && decide ((List.length g.2.2.1 : Int) ≤ 80)
      · rfl
      · simp only [Bool.not_true, cond_false, Option.bind_some, Bool.true_and]
        rw [rows_I rfl h]
        cases anyN (List.length g.2.2.1) (badRow g.2.2.1)
        · rw [if_neg (by simp), Option.bind_some]
          dsimp only
          rw [sideOf_I h, Option.bind_some, sideOf_I h, Option.bind_some, Option.bind_some, Option.bind_some]
          dsimp only
          rw [goodLines_I _ (side_sm h), Option.bind_some, goodLines_I _ (side_sm h), Option.bind_some]
          dsimp only
          cases anyN (List.length g.2.2.1) (chg g.2.2.1) <;> cases goodP (sideL g.2.2.1 3) <;> cases goodP (sideL g.2.2.1 2) <;> cases decide (IntKind.wrap .i64 (g.1 + ((sideL g.2.2.1 3).length : Int)) ≤ 1000) <;> rfl
        · rfl

theorem group_S {g : PV Y_impl_Group} (h : SmR g.2.2.1) : f_S_l6Group g = some ((goodG g, ()), ()) := by
  unfold f_S_l6Group goodG
  rw [rows_S rfl h]
  cases hb : anyN (List.length g.2.2.1) (badRow g.2.2.1)
  · rw [if_neg (by simp), Option.bind_some]
    dsimp only
    cases hc : anyN (List.length g.2.2.1) (chg g.2.2.1)
    · simp
    · have hpos : 1 ≤ List.length g.2.2.1 := by
        obtain ⟨i, hi, _⟩ := anyN_iff.1 hc
        omega
      rw [cond_true, in_S, in_S, Option.bind_some, Option.bind_some, old_S h, new_S h]
      simp only [Option.bind_some]
      rw [l5Lines_S _ (side_sm h), l5Lines_S _ (side_sm h)]
      simp only [Option.bind_some]
      unfold inI
      rw [decide_eq_true (by omega : (List.length g.2.2.1 : Int) ≥ 1), Bool.true_and]
      cases decide (g.1 ≥ 0) && decide (g.1 ≤ 999) <;> cases decide (g.2.1 ≥ 0) && decide (g.2.1 ≤ 999) <;> cases decide ((List.length g.2.2.1 : Int) ≤ 80) <;> cases goodP (sideL g.2.2.1 3) <;> cases goodP (sideL g.2.2.1 2) <;>
        cases decide (IntKind.wrap .i64 (g.1 + ((sideL g.2.2.1 3).length : Int)) ≤ 1000) <;> cases decide (IntKind.wrap .i64 (g.2.1 + ((sideL g.2.2.1 2).length : Int)) ≤ 1000) <;> rfl
  · simp
end R
