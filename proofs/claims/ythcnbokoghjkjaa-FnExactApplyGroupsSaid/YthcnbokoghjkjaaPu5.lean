/- Good hunks: both sides answer the same. -/
import Derived.Test.YthcnbokoghjkjaaPu1
open Go Go.Dn
namespace R
set_option linter.unusedVariables false

abbrev H0 : PV Y_impl_Hunk := dflt Y_impl_Hunk
def badH (many : Int) (x : PV Y_impl_Hunk) : Bool :=
  !(inI x.1 0 many) || (!(inI x.2.1 0 (IntKind.wrap .i64 (many - x.1))) || (!(linesP x.2.2.1) || ((x.2.1 == 0) && ((List.length x.2.2.1 : Int) == 0))))
def badP (h : List (PV Y_impl_Hunk)) (k : Nat) : Bool :=
  decide ((k : Int) > 0) && decide ((h.getD k H0).1 ≤ IntKind.wrap .i64 ((h.getD (k - 1) H0).1 + (h.getD (k - 1) H0).2.1))
def badK (many : Int) (h : List (PV Y_impl_Hunk)) (k : Nat) : Bool := badH many (h.getD k H0) || badP h k
def hunksP (many : Int) (h : List (PV Y_impl_Hunk)) : Bool := inI many 0 40 && (decide (h.length ≤ 20) && !(anyN h.length (badK many h)))

def SmH (h : List (PV Y_impl_Hunk)) : Prop := h.length ≤ 4611686018427387904 ∧ ∀ x ∈ h, Sm x.2.2.1
theorem SmH.len {h : List (PV Y_impl_Hunk)} (hs : SmH h) : h.length ≤ 4611686018427387904 := hs.1
theorem SmH.mem {h : List (PV Y_impl_Hunk)} (hs : SmH h) {i : Nat} (hi : i < h.length) : Sm (h.getD i H0).2.2.1 := by
  rw [getD_of hi]
  exact hs.2 _ (List.getElem_mem hi)
theorem SmH.of {e : TypeId} {h : List (PV Y_impl_Hunk)} {n : Nat} (hs : tot (.slice e Y_impl_Hunk) h ≤ n) (hn : n ≤ 4611686018427387904) : SmH h := by
  refine ⟨?_, fun x hx => ?_⟩
  · have h' := hs
    rw [tot_slice] at h'
    omega
  · obtain ⟨i, hi, rfl⟩ := List.mem_iff_getElem.1 hx
    have := Nat.le_trans (tot_mem (e := e) (t := Y_impl_Hunk) (xs := h) hi) hs
    refine Sm.of (n := n) ?_ hn
    simp only [tot] at this ⊢
    omega

theorem stepH_I (many : Int) (h : List (PV Y_impl_Hunk)) (hs : SmH h) {i : Nat} (hi : i < h.length) :
    b_I_goodHunks_4 many h h h.length i = some (if badK many h i then .inr (.inr (false, ())) else .inl (many, h, h, (h.length : Int), (i : Int) + 1, ())) := by
  have hl := hs.len
  have hm := hs.mem hi
  unfold b_I_goodHunks_4
  rw [decide_eq_true (by omega : (i : Int) < (h.length : Int)), cond_true, inB_lt hi, cond_true, toNat_cast]
  unfold badK badP
  generalize hx : h.getD i H0 = x at *
  rw [in_I, in_I, areLines_I _ hm, Option.bind_some, Option.bind_some]
  unfold badH inI
  dsimp only
  cases decide (x.1 ≥ 0) && decide (x.1 ≤ many)
  · rfl
  · cases decide (x.2.1 ≥ 0) && decide (x.2.1 ≤ IntKind.wrap .i64 (many - x.1))
    · rfl
    · cases linesP x.2.2.1
      · rfl
      · simp only [Bool.not_true, cond_false, Option.bind_some, Bool.false_or]
        have hb : ((bif x.2.1 == 0 then some (many, h, (i : Int), x, h, (h.length : Int), (i : Int), (List.length x.2.2.1 : Int) == 0, ()) else some (many, h, (i : Int), x, h, (h.length : Int), (i : Int), false, ())) : Option (Int × List (PV Y_impl_Hunk) × Int × PV Y_impl_Hunk × List (PV Y_impl_Hunk) × Int × Int × Bool × Unit)) =
            some (many, h, (i : Int), x, h, (h.length : Int), (i : Int), (x.2.1 == 0) && ((List.length x.2.2.1 : Int) == 0), ()) := by
          cases x.2.1 == 0 <;> rfl
        rw [hb, Option.bind_some]
        dsimp only
        cases (x.2.1 == 0) && ((List.length x.2.2.1 : Int) == 0)
        · simp only [cond_false, Bool.false_or]
          cases i with
          | zero => rw [decide_eq_false (by omega : ¬ (((0 : Nat) : Int) > 0))]; rfl
          | succ j =>
            rw [decide_eq_true (by omega : ((j + 1 : Nat) : Int) > 0), cond_true, show IntKind.wrap .i64 (((j + 1 : Nat) : Int) - 1) = (j : Int) from by rw [wrap64 (by omega) (by omega)]; omega, inB_lt (by omega : j < h.length), cond_true, cond_true, toNat_cast, Option.bind_some, Bool.true_and, Nat.add_sub_cancel]
            dsimp only
            rw [wrap64 (x := ((j + 1 : Nat) : Int) + 1) (by omega) (by omega)]
            cases decide (x.1 ≤ IntKind.wrap .i64 ((h.getD j (dflt Y_impl_Hunk)).1 + (h.getD j (dflt Y_impl_Hunk)).2.1)) <;> rfl
        · rfl

theorem hunks_I (many : Int) (h : List (PV Y_impl_Hunk)) (hs : SmH h) : f_I_goodHunks many h = some ((hunksP many h, ()), ()) := by
  have hl := hs.len
  unfold f_I_goodHunks hunksP
  rw [in_I, Option.bind_some]
  dsimp only
  unfold inI
  cases decide (many ≥ 0) && decide (many ≤ 40)
  · rfl
  · rw [Bool.not_true, cond_false, Option.bind_some]
    dsimp only
    by_cases hn : h.length ≤ 20
    · rw [decide_eq_false (by omega : ¬ ((h.length : Int) > 20)), cond_false, decide_eq_true hn, Bool.true_and, Bool.true_and]
      rw [show w_I_goodHunks_4 (many, h, h, (h.length : Int), 0, ()) = _ from fix_anyN (B := fun d => b_I_goodHunks_4 d.1 d.2.1 d.2.2.1 d.2.2.2.1 d.2.2.2.2.1) h.length (badK many h) (fun i => (many, h, h, (h.length : Int), (i : Int), ())) (fun _ => .inr (false, ())) (.inl ())
        (fun i hi hq => by show b_I_goodHunks_4 many h h h.length i = _; rw [stepH_I many h hs hi, hq]; rfl)
        (fun i hi hq => by show b_I_goodHunks_4 many h h h.length i = _; rw [stepH_I many h hs hi, hq]; rfl)
        (by
          show b_I_goodHunks_4 many h h h.length h.length = _
          unfold b_I_goodHunks_4
          rw [decide_eq_false (Int.lt_irrefl _), cond_false])]
      cases anyN h.length (badK many h) <;> rfl
    · rw [decide_eq_true (by omega : (h.length : Int) > 20), cond_true, decide_eq_false hn]; rfl

def badS (many : Int) (x : PV Y_impl_Hunk) : Bool :=
  decide (x.1 < 0) || (decide (x.2.1 < 0) || (decide (x.2.1 > many) || (decide (x.1 > IntKind.wrap .i64 (many - x.2.1)) || ((IntKind.wrap .i64 (x.2.1 + (List.length x.2.2.1 : Int)) == 0) || decide ((List.length x.2.2.1 : Int) > 40)))))

theorem bad_nums {many A G n : Int} (h0 : 0 ≤ many) (h1 : many ≤ 4611686018427387903) (hn : 0 ≤ n) (hm : n ≤ 4611686018427387904) :
    (decide (A < 0) || (decide (G < 0) || (decide (G > many) || (decide (A > IntKind.wrap .i64 (many - G)) || ((IntKind.wrap .i64 (G + n) == 0) || decide (n > 40)))))) =
      (!(decide (A ≥ 0) && decide (A ≤ many)) || (!(decide (G ≥ 0) && decide (G ≤ IntKind.wrap .i64 (many - A))) || (!(decide (n ≤ 40)) || ((G == 0) && (n == 0))))) := by
  rw [Bool.eq_iff_iff]
  simp only [Bool.or_eq_true, Bool.not_eq_true', decide_eq_true_eq, decide_eq_false_iff_not, beq_iff_eq, Bool.and_eq_false_iff, Bool.and_eq_true]
  by_cases a4 : A ≤ many ∧ 0 ≤ A
  · rw [wrap64 (x := many - A) (by omega) (by omega)]
    by_cases a3 : 0 ≤ G ∧ G ≤ many
    · rw [wrap64 (x := many - G) (by omega) (by omega), wrap64 (x := G + n) (by omega) (by omega)]
      omega
    · constructor
      · intro _; right; left; omega
      · intro _; omega
  · constructor
    · intro _; left; omega
    · intro _
      by_cases a1 : A < 0
      · exact .inl a1
      · by_cases a2 : G < 0
        · exact .inr (.inl a2)
        · by_cases a3 : G > many
          · exact .inr (.inr (.inl a3))
          · right; right; right; left
            rw [wrap64 (x := many - G) (by omega) (by omega)]
            omega

theorem bad_same {many : Int} {x : PV Y_impl_Hunk} (h0 : 0 ≤ many) (h1 : many ≤ 4611686018427387903) (hm : List.length x.2.2.1 ≤ 4611686018427387904) :
    (badS many x || List.any x.2.2.1 fun s => !lineP s) = badH many x := by
  unfold badS badH linesP inI
  have := bad_nums (A := x.1) (G := x.2.1) (n := (List.length x.2.2.1 : Int)) h0 h1 (by omega) (by omega)
  rw [this]
  rw [show decide (List.length x.2.2.1 ≤ 40) = decide ((List.length x.2.2.1 : Int) ≤ 40) from by rw [Bool.eq_iff_iff]; simp; omega]
  cases (decide ((x.1 : Int) ≥ 0) && decide ((x.1 : Int) ≤ many)) <;> cases (decide ((x.2.1 : Int) ≥ 0) && decide ((x.2.1 : Int) ≤ IntKind.wrap .i64 (many - x.1))) <;> cases decide ((List.length x.2.2.1 : Int) ≤ 40) <;>
    cases ((x.2.1 == 0) && ((List.length x.2.2.1 : Int) == 0)) <;> cases (List.any x.2.2.1 fun s => !lineP s) <;> rfl

theorem stepH_S (many : Int) (h : List (PV Y_impl_Hunk)) (hs : SmH h) (h0 : 0 ≤ many) (h1 : many ≤ 4611686018427387903) {i : Nat} (hi : i < h.length) :
    b_S_l2Hunks_2 many h h h.length i = some (if badK many h i then .inr (.inr (false, ())) else .inl (many, h, h, (h.length : Int), (i : Int) + 1, ())) := by
  have hl := hs.len
  have hm := hs.mem hi
  unfold b_S_l2Hunks_2
  rw [decide_eq_true (by omega : (i : Int) < (h.length : Int)), cond_true, inB_lt hi, cond_true, toNat_cast]
  have hq : badK many h i = ((badS many (h.getD i H0) || badP h i) || List.any (h.getD i H0).2.2.1 fun s => !lineP s) := by
    unfold badK
    rw [← bad_same h0 h1 hm.len]
    cases badS many (h.getD i H0) <;> cases badP h i <;> cases List.any (h.getD i H0).2.2.1 fun s => !lineP s <;> rfl
  rw [hq]
  unfold badP
  generalize hx : h.getD i H0 = x at *
  have hr : ∀ f : Bool, (bif f then some (Sum.inr (Sum.inr (false, ()))) else
      (w_S_l2Hunks_7 (many, h, h, (h.length : Int), (i : Int), x.2.2.1, (List.length x.2.2.1 : Int), 0, ())).bind fun x14 =>
            match x14 with
            | .inl l7 =>
              some (.inl (l7.1, l7.2.1, l7.2.2.1, l7.2.2.2.1, (IntKind.wrap .i64 (l7.2.2.2.2.1 + 1)), ()))
            | .inr l8 =>
              some (.inr (.inr (l8.1, ()))) : Option ((PV (.int .i64) × PV S_impl_Hunk × PV S_impl_Hunk × PV (.int .i64) × PV (.int .i64) × Unit) ⊕ ((PV (.int .i64) × PV S_impl_Hunk × Unit) ⊕ (PV .bool × Unit)))) =
      some (if (f || List.any x.2.2.1 fun s => !lineP s) then .inr (.inr (false, ())) else .inl (many, h, h, (h.length : Int), (i : Int) + 1, ())) := by
    intro f
    cases f
    · rw [cond_false, Bool.false_or, show w_S_l2Hunks_7 (many, h, h, (h.length : Int), (i : Int), x.2.2.1, (List.length x.2.2.1 : Int), 0, ()) = _ from
        fix_any (B := fun d => b_S_l2Hunks_7 d.1 d.2.1 d.2.2.1 d.2.2.2.1 d.2.2.2.2.1 d.2.2.2.2.2.1 d.2.2.2.2.2.2.1 d.2.2.2.2.2.2.2.1) x.2.2.1 (fun s => !lineP s) (fun k => (many, h, h, (h.length : Int), (i : Int), x.2.2.1, (List.length x.2.2.1 : Int), (k : Int), ())) (fun _ => .inr (false, ())) (.inl (many, h, h, (h.length : Int), (i : Int), ()))
        (fun k hk hq => by
          have hml := hm.len
          show b_S_l2Hunks_7 many h h h.length i x.2.2.1 (List.length x.2.2.1) k = _
          unfold b_S_l2Hunks_7
          rw [decide_eq_true (by omega : (k : Int) < (List.length x.2.2.1 : Int)), cond_true, inB_lt hk, cond_true, toNat_cast, getD_of hk, line_S _ (hm.mem hk), Option.bind_some]
          dsimp only
          rw [hq, cond_false, wrap64 (by omega) (by omega)]; rfl)
        (fun k hk hq => by
          show b_S_l2Hunks_7 many h h h.length i x.2.2.1 (List.length x.2.2.1) k = _
          unfold b_S_l2Hunks_7
          rw [decide_eq_true (by omega : (k : Int) < (List.length x.2.2.1 : Int)), cond_true, inB_lt hk, cond_true, toNat_cast, getD_of hk, line_S _ (hm.mem hk), Option.bind_some]
          dsimp only
          rw [hq, cond_true])
        (by
          show b_S_l2Hunks_7 many h h h.length i x.2.2.1 (List.length x.2.2.1) (List.length x.2.2.1) = _
          unfold b_S_l2Hunks_7
          rw [decide_eq_false (Int.lt_irrefl _), cond_false])]
      cases List.any x.2.2.1 fun s => !lineP s
      · rw [if_neg (by simp), if_neg (by simp), Option.bind_some]
        dsimp only
        rw [wrap64 (by omega) (by omega)]
      · rfl
    · rfl
  have hb : ∀ j : Bool, ((bif decide ((i : Int) > 0) then bif inB (IntKind.wrap .i64 ((i : Int) - 1)) h.length then bif inB (IntKind.wrap .i64 ((i : Int) - 1)) h.length then
        some (many, h, x, h, (h.length : Int), (i : Int), decide (x.1 ≤ IntKind.wrap .i64 ((h.getD (IntKind.wrap .i64 ((i : Int) - 1)).toNat (dflt Y_impl_Hunk)).1 + (h.getD (IntKind.wrap .i64 ((i : Int) - 1)).toNat (dflt Y_impl_Hunk)).2.1)), ()) else none else none
      else some (many, h, x, h, (h.length : Int), (i : Int), false, ())) : Option ((PV (.int .i64) × PV S_impl_Hunk × PV Y_impl_Hunk × PV S_impl_Hunk × PV (.int .i64) × PV (.int .i64) × PV .bool × Unit))) =
      some (many, h, x, h, (h.length : Int), (i : Int), decide ((i : Int) > 0) && decide (x.1 ≤ IntKind.wrap .i64 ((h.getD (i - 1) H0).1 + (h.getD (i - 1) H0).2.1)), ()) := by
    intro _
    cases i with
    | zero => rw [decide_eq_false (by omega : ¬ (((0 : Nat) : Int) > 0))]; rfl
    | succ j =>
      rw [decide_eq_true (by omega : ((j + 1 : Nat) : Int) > 0), cond_true, show IntKind.wrap .i64 (((j + 1 : Nat) : Int) - 1) = (j : Int) from by rw [wrap64 (by omega) (by omega)]; omega, inB_lt (by omega : j < h.length), cond_true, cond_true, toNat_cast, Bool.true_and, Nat.add_sub_cancel]
  rw [hb true]
  unfold badS
  cases decide (x.1 < 0)
  · rw [cond_false]
    cases decide (x.2.1 < 0)
    · rw [cond_false]
      cases decide (x.2.1 > many)
      · rw [cond_false]
        cases decide (x.1 > IntKind.wrap .i64 (many - x.2.1))
        · rw [cond_false]
          cases (IntKind.wrap .i64 (x.2.1 + (List.length x.2.2.1 : Int)) == 0)
          · rw [cond_false]
            cases decide ((List.length x.2.2.1 : Int) > 40)
            · rw [cond_false, Option.bind_some]
              exact hr _
            · rfl
          · rfl
        · rfl
      · rfl
    · rfl
  · rfl

theorem hunks_S (many : Int) (h : List (PV Y_impl_Hunk)) (hs : SmH h) (h0 : 0 ≤ many) (h1 : many ≤ 4611686018427387903) : f_S_l2Hunks many h = some ((hunksP many h, ()), ()) := by
  have hl := hs.len
  unfold f_S_l2Hunks hunksP
  rw [show w_S_l2Hunks_2 (many, h, h, (h.length : Int), 0, ()) = _ from fix_anyN (B := fun d => b_S_l2Hunks_2 d.1 d.2.1 d.2.2.1 d.2.2.2.1 d.2.2.2.2.1) h.length (badK many h) (fun i => (many, h, h, (h.length : Int), (i : Int), ())) (fun _ => .inr (false, ())) (.inl (many, h, ()))
        (fun i hi hq => by show b_S_l2Hunks_2 many h h h.length i = _; rw [stepH_S many h hs h0 h1 hi, hq]; rfl)
        (fun i hi hq => by show b_S_l2Hunks_2 many h h h.length i = _; rw [stepH_S many h hs h0 h1 hi, hq]; rfl)
        (by
          show b_S_l2Hunks_2 many h h h.length h.length = _
          unfold b_S_l2Hunks_2
          rw [decide_eq_false (Int.lt_irrefl _), cond_false])]
  cases anyN h.length (badK many h)
  · rw [if_neg (by simp), Option.bind_some]
    dsimp only
    rw [in_S, Option.bind_some]
    by_cases hn : h.length ≤ 20
    · rw [decide_eq_true (by omega : (h.length : Int) ≤ 20), cond_true, decide_eq_true hn]
      unfold inI
      cases decide (many ≥ 0) && decide (many ≤ 40) <;> rfl
    · rw [decide_eq_false (by omega : ¬ (h.length : Int) ≤ 20), cond_false, decide_eq_false hn]
      simp
  · rw [if_pos rfl]
    simp
end R
