/- Parts of the proof: PbW Pn1 Pn5 Pn6 Pn7 Pn8 Pn9. -/
import Derived.Test.YtegfhigkmghmjaaPaW
import Derived.Test.YtegfhigkmghmjaaL3
section
open Go Go.Dn
namespace R
set_option linter.unusedVariables false

end R
end

section
/- Lines: both sides' tests of lines answer the same. -/
open Go Go.Dn
namespace R
set_option linter.unusedVariables false

theorem in_I (a b c : Int) : f_I_in a b c = some ((decide (a ≥ b) && decide (a ≤ c), ()), ()) := by
  unfold f_I_in
  cases decide (a ≥ b) <;> rfl
theorem in_S (a b c : Int) : f_S_l1In a b c = some ((decide (a ≥ b) && decide (a ≤ c), ()), ()) := by
  unfold f_S_l1In
  cases decide (a ≥ b) <;> rfl

def inI (a b c : Int) : Bool := decide (a ≥ b) && decide (a ≤ c)
def hasEnd (s : List UInt8) : Bool := (s.take (s.length - 1)).contains 10
def lineP (s : List UInt8) : Bool := inI (s.length : Int) 1 30 && !hasEnd s
def endP (s : List UInt8) : Bool := s.drop (s.length - 1) == [10]

theorem line_len {s : List UInt8} (h : lineP s = true) : 1 ≤ s.length ∧ s.length ≤ 30 := by
  unfold lineP inI at h
  simp only [Bool.and_eq_true, decide_eq_true_eq] at h
  omega

theorem line_S (s : List UInt8) (hs : s.length ≤ 4611686018427387904) : f_S_l1Line s = some ((lineP s, ()), ()) := by
  unfold f_S_l1Line
  have hw : IntKind.wrap .i64 ((s.length : Int) - 1) = (s.length : Int) - 1 := wrap64 (by omega) (by omega)
  rw [show w_S_l1Line_2 (s, 0, ()) = _ from fix_anyN (B := fun d => b_S_l1Line_2 d.1 d.2.1) (s.length - 1) (fun i => s.getD i 0 == 10) (fun i => (s, (i : Int), ())) (fun _ => .inr (false, ())) (.inl (s, ()))
    (fun i hi hq => by
      show b_S_l1Line_2 s i = _
      unfold b_S_l1Line_2
      rw [hw, decide_eq_true (by omega : (i : Int) < (s.length : Int) - 1), cond_true, inB_lt (by omega), cond_true, toNat_cast]
      rw [show ((((s.getD i 0 : UInt8).toNat : Nat) : Int) == 10) = (s.getD i 0 == 10) from byte_eq (n := 10) (by omega), hq, cond_false, wrap64 (by omega) (by omega)]
      simp)
    (fun i hi hq => by
      show b_S_l1Line_2 s i = _
      unfold b_S_l1Line_2
      rw [hw, decide_eq_true (by omega : (i : Int) < (s.length : Int) - 1), cond_true, inB_lt (by omega), cond_true, toNat_cast]
      rw [show ((((s.getD i 0 : UInt8).toNat : Nat) : Int) == 10) = (s.getD i 0 == 10) from byte_eq (n := 10) (by omega), hq, cond_true])
    (by
      show b_S_l1Line_2 s ((s.length - 1 : Nat) : Int) = _
      unfold b_S_l1Line_2
      rw [hw, decide_eq_false (by omega : ¬ (((s.length - 1 : Nat) : Int) < (s.length : Int) - 1)), cond_false])]
  rw [contains_take (by omega)]
  unfold lineP hasEnd
  cases (s.take (s.length - 1)).contains 10
  · simp only [Bool.false_eq_true, if_false, Option.bind_some, in_S]; simp [inI]
  · simp

theorem ends_S (s : List UInt8) (h1 : 1 ≤ s.length) (hs : s.length ≤ 4611686018427387904) : f_S_l1Ends s = some ((endP s, ()), ()) := by
  unfold f_S_l1Ends
  have hw : IntKind.wrap .i64 ((s.length : Int) - 1) = ((s.length - 1 : Nat) : Int) := by rw [wrap64 (by omega) (by omega)]; omega
  rw [hw, inB_lt (by omega), cond_true, toNat_cast]
  rw [show ((((s.getD (s.length - 1) 0 : UInt8).toNat : Nat) : Int) == 10) = (s.getD (s.length - 1) 0 == 10) from byte_eq (n := 10) (by omega)]
  unfold endP
  rw [List.drop_eq_getElem_cons (by omega : s.length - 1 < s.length), List.drop_of_length_le (by omega), getD_of (by omega)]
  simp

theorem line_I (s : List UInt8) (hs : s.length ≤ 4611686018427387904) : f_I_isLine s = some ((lineP s, ()), ()) := by
  unfold f_I_isLine
  rw [in_I, Option.bind_some]
  dsimp only
  unfold lineP
  cases h : inI (s.length : Int) 1 30
  · unfold inI at h; rw [h]; rfl
  · have h' := h
    unfold inI at h'
    rw [h', cond_true]
    simp only [Bool.and_eq_true, decide_eq_true_eq] at h'
    rw [wrap64 (by omega) (by omega)]
    rw [show cutB 0 ((s.length : Int) - 1) s.length = true from by unfold cutB; simp; omega, cond_true]
    unfold f_strings_Contains containsF
    rw [Option.bind_some]
    unfold hasEnd cutL
    rw [show ((s.length : Int) - 1).toNat = s.length - 1 from by omega]
    simp

theorem ends_I (s : List UInt8) (hs : s.length ≤ 4611686018427387904) : f_I_isEnded s = some ((endP s, ()), ()) := by
  unfold f_I_isEnded f_strings_HasSuffix f_internal_stringslite_HasSuffix endP
  by_cases h : 1 ≤ s.length
  · rw [decide_eq_true (by simp; omega : (s.length : Int) ≥ (([10] : List UInt8).length : Int)), cond_true]
    have hw : IntKind.wrap .i64 ((s.length : Int) - (([10] : List UInt8).length : Int)) = ((s.length - 1 : Nat) : Int) := by
      rw [show ((([10] : List UInt8).length : Nat) : Int) = 1 from rfl, wrap64 (by omega) (by omega)]; omega
    rw [hw, show cutB ((s.length - 1 : Nat) : Int) (s.length : Int) s.length = true from by unfold cutB; simp, cond_true]
    unfold cutL
    simp
  · have : s = [] := List.eq_nil_of_length_eq_zero (by omega)
    subst this
    rfl

/-- Lines, each by itself, and not too many. -/
def linesP (l : List (List UInt8)) : Bool := decide (l.length ≤ 40) && !(l.any fun s => !lineP s)
def endsP (l : List (List UInt8)) : Bool := !(anyN l.length fun k => decide ((k : Int) < (l.length : Int) - 1) && !(endP (l.getD k [])))
def goodP (l : List (List UInt8)) : Bool := linesP l && endsP l

def Sm (l : List (List UInt8)) : Prop := l.length ≤ 4611686018427387904 ∧ ∀ s ∈ l, s.length ≤ 4611686018427387904

theorem Sm.len {l : List (List UInt8)} (h : Sm l) : l.length ≤ 4611686018427387904 := h.1
theorem Sm.mem {l : List (List UInt8)} (h : Sm l) {i : Nat} (hi : i < l.length) : (l[i]).length ≤ 4611686018427387904 := h.2 _ (List.getElem_mem hi)
theorem Sm.of {l : List (List UInt8)} {n : Nat} (h : tot (.slice 9 .str) l ≤ n) (hn : n ≤ 4611686018427387904) : Sm l := by
  refine ⟨?_, fun s hs => ?_⟩
  · have h' := h
    rw [tot_slice] at h'
    omega
  · obtain ⟨i, hi, rfl⟩ := List.mem_iff_getElem.1 hs
    have := Nat.le_trans (tot_mem (e := 9) (t := .str) (xs := l) hi) h
    rw [tot_str] at this
    omega

theorem areLines_I (t0 : List (List UInt8)) (hs : Sm t0) : f_I_areLines t0 = some ((linesP t0, ()), ()) := by
  unfold f_I_areLines linesP
  by_cases hl : t0.length ≤ 40
  · rw [decide_eq_true (by omega : (t0.length : Int) ≤ 40), cond_true, decide_eq_true hl, Bool.true_and]
    rw [show w_I_areLines_137_2 (t0, false, t0, (t0.length : Int), true, true, t0, t0, false, t0, t0, (t0.length : Int), 0, ()) = _ from
      fix_any (B := fun d => b_I_areLines_137_2 d.1 d.2.1 d.2.2.1 d.2.2.2.1 d.2.2.2.2.1 d.2.2.2.2.2.1 d.2.2.2.2.2.2.1 d.2.2.2.2.2.2.2.1 d.2.2.2.2.2.2.2.2.1 d.2.2.2.2.2.2.2.2.2.1 d.2.2.2.2.2.2.2.2.2.2.1 d.2.2.2.2.2.2.2.2.2.2.2.1 d.2.2.2.2.2.2.2.2.2.2.2.2.1) t0 (fun s => !lineP s)
      (fun i => (t0, false, t0, (t0.length : Int), true, true, t0, t0, false, t0, t0, (t0.length : Int), (i : Int), ())) (fun i => .inr (t0, false, t0, (t0.length : Int), true, true, t0, t0, false, t0, (i : Int), ())) (.inl (t0, false, t0, (t0.length : Int), true, true, t0, t0, false, t0, ()))
      (fun i hi hq => by
        show b_I_areLines_137_2 _ _ _ _ _ _ _ _ _ _ t0 t0.length i = _
        unfold b_I_areLines_137_2 f_I_areLines_1
        rw [decide_eq_true (by omega : (i : Int) < (t0.length : Int)), cond_true, inB_lt hi, cond_true, toNat_cast, getD_of hi, line_I _ (hs.mem hi), Option.bind_some, Option.bind_some]
        dsimp only
        rw [hq, cond_false, wrap64 (by omega) (by omega)]; rfl)
      (fun i hi hq => by
        show b_I_areLines_137_2 _ _ _ _ _ _ _ _ _ _ t0 t0.length i = _
        unfold b_I_areLines_137_2 f_I_areLines_1
        rw [decide_eq_true (by omega : (i : Int) < (t0.length : Int)), cond_true, inB_lt hi, cond_true, toNat_cast, getD_of hi, line_I _ (hs.mem hi), Option.bind_some, Option.bind_some]
        dsimp only
        rw [hq, cond_true])
      (by
        show b_I_areLines_137_2 _ _ _ _ _ _ _ _ _ _ t0 t0.length t0.length = _
        unfold b_I_areLines_137_2
        rw [decide_eq_false (Int.lt_irrefl _), cond_false])]
    cases h : t0.any fun s => !lineP s
    · rfl
    · simp
  · rw [decide_eq_false (by omega : ¬ (t0.length : Int) ≤ 40), cond_false, decide_eq_false hl]; rfl

theorem goodLines_I (t0 : List (List UInt8)) (hs : Sm t0) : f_I_goodLines t0 = some ((goodP t0, ()), ()) := by
  have hl := hs.len
  unfold f_I_goodLines goodP
  rw [areLines_I t0 hs, Option.bind_some]
  dsimp only
  cases linesP t0
  · rfl
  · rw [Bool.not_true, cond_false]
    have hw : IntKind.wrap .i64 ((t0.length : Int) - 1) = (t0.length : Int) - 1 := wrap64 (by omega) (by omega)
    have hr : ∀ i, i < t0.length → ((bif decide ((i : Int) < (t0.length : Int) - 1) then (f_I_isEnded (t0.getD i [])).bind fun r7 => some (t0, t0, (t0.length : Int), (i : Int), !r7.1.1, ()) else some (t0, t0, (t0.length : Int), (i : Int), false, ())) : Option (PV S_string × PV S_string × Int × Int × Bool × Unit)) =
        some (t0, t0, (t0.length : Int), (i : Int), decide ((i : Int) < (t0.length : Int) - 1) && !(endP (t0.getD i [])), ()) := by
      intro i hi
      cases decide ((i : Int) < (t0.length : Int) - 1)
      · rfl
      · rw [cond_true, getD_of hi, ends_I _ (hs.mem hi)]; rfl
    rw [show w_I_goodLines_4 (t0, t0, (t0.length : Int), 0, ()) = _ from fix_anyN (B := fun d => b_I_goodLines_4 d.1 d.2.1 d.2.2.1 d.2.2.2.1) t0.length (fun k => decide ((k : Int) < (t0.length : Int) - 1) && !(endP (t0.getD k [])))
      (fun i => (t0, t0, (t0.length : Int), (i : Int), ())) (fun _ => .inr (false, ())) (.inl ())
      (fun i hi hq => by
        show b_I_goodLines_4 t0 t0 t0.length i = _
        unfold b_I_goodLines_4
        rw [decide_eq_true (by omega : (i : Int) < (t0.length : Int)), cond_true, inB_lt hi, cond_true, toNat_cast, hw, hr i hi, hq, Option.bind_some]
        dsimp only
        rw [cond_false, wrap64 (by omega) (by omega)]; rfl)
      (fun i hi hq => by
        show b_I_goodLines_4 t0 t0 t0.length i = _
        unfold b_I_goodLines_4
        rw [decide_eq_true (by omega : (i : Int) < (t0.length : Int)), cond_true, inB_lt hi, cond_true, toNat_cast, hw, hr i hi, hq, Option.bind_some]
        rfl)
      (by
        show b_I_goodLines_4 t0 t0 t0.length t0.length = _
        unfold b_I_goodLines_4
        rw [decide_eq_false (Int.lt_irrefl _), cond_false])]
    unfold endsP
    cases anyN t0.length fun k => decide ((k : Int) < (t0.length : Int) - 1) && !(endP (t0.getD k [])) <;> rfl

theorem l1Good_S (t0 : List (List UInt8)) (hs : Sm t0) : f_S_l1Good t0 = some ((goodP t0, ()), ()) := by
  have hl := hs.len
  unfold f_S_l1Good
  have hw : IntKind.wrap .i64 ((t0.length : Int) - 1) = (t0.length : Int) - 1 := wrap64 (by omega) (by omega)
  have hr : ∀ i, i < t0.length → (((f_S_l1Line (t0.getD i [])).bind fun r4 => bif !r4.1.1 then some (t0, t0, (t0.length : Int), (i : Int), true, ()) else
      bif decide ((i : Int) < (t0.length : Int) - 1) then (f_S_l1Ends (t0.getD i [])).bind fun r5 => some (t0, t0, (t0.length : Int), (i : Int), !r5.1.1, ()) else some (t0, t0, (t0.length : Int), (i : Int), false, ())) : Option (PV S_string × PV S_string × Int × Int × Bool × Unit)) =
      some (t0, t0, (t0.length : Int), (i : Int), !(lineP (t0.getD i [])) || (decide ((i : Int) < (t0.length : Int) - 1) && !(endP (t0.getD i []))), ()) := by
    intro i hi
    rw [getD_of hi, line_S _ (hs.mem hi), Option.bind_some]
    dsimp only
    cases hL : lineP t0[i]
    · rfl
    · rw [Bool.not_true, cond_false, Bool.false_or]
      cases decide ((i : Int) < (t0.length : Int) - 1)
      · rfl
      · rw [cond_true, ends_S _ (line_len hL).1 (hs.mem hi)]; rfl
  rw [show w_S_l1Good_2 (t0, t0, (t0.length : Int), 0, ()) = _ from fix_anyN (B := fun d => b_S_l1Good_2 d.1 d.2.1 d.2.2.1 d.2.2.2.1) t0.length (fun k => !(lineP (t0.getD k [])) || (decide ((k : Int) < (t0.length : Int) - 1) && !(endP (t0.getD k []))))
      (fun i => (t0, t0, (t0.length : Int), (i : Int), ())) (fun _ => .inr (false, ())) (.inl (t0, ()))
      (fun i hi hq => by
        show b_S_l1Good_2 t0 t0 t0.length i = _
        unfold b_S_l1Good_2
        rw [decide_eq_true (by omega : (i : Int) < (t0.length : Int)), cond_true, inB_lt hi, cond_true, toNat_cast, hw, hr i hi, hq, Option.bind_some]
        dsimp only
        rw [cond_false, wrap64 (by omega) (by omega)]; rfl)
      (fun i hi hq => by
        show b_S_l1Good_2 t0 t0 t0.length i = _
        unfold b_S_l1Good_2
        rw [decide_eq_true (by omega : (i : Int) < (t0.length : Int)), cond_true, inB_lt hi, cond_true, toNat_cast, hw, hr i hi, hq, Option.bind_some]
        rfl)
      (by
        show b_S_l1Good_2 t0 t0 t0.length t0.length = _
        unfold b_S_l1Good_2
        rw [decide_eq_false (Int.lt_irrefl _), cond_false])]
  rw [anyN_or, show (anyN t0.length fun k => !(lineP (t0.getD k []))) = t0.any fun s => !lineP s from anyN_list (f := fun s => !lineP s)]
  unfold goodP linesP endsP
  cases t0.any fun s => !lineP s
  · cases anyN t0.length fun k => decide ((k : Int) < (t0.length : Int) - 1) && !(endP (t0.getD k []))
    · simp; omega
    · simp
  · simp
end R
end

section
/- Good hunks: both sides answer the same. -/
open Go Go.Dn
namespace R
set_option linter.unusedVariables false

abbrev H0 : PV Y_impl_Hunk := dflt Y_impl_Hunk
def badH (many : Int) (x : PV Y_impl_Hunk) : Bool :=
  !(inI x.1 0 many) || (!(inI x.2.1 0 (IntKind.wrap .i64 (many - x.1))) || (!(linesP x.2.2.1) || ((x.2.1 == 0) && ((List.length x.2.2.1 : Int) == 0))))
def badP (h : List (PV Y_impl_Hunk)) (k : Nat) : Bool :=
  decide ((k : Int) > 0) && decide ((h.getD k H0).1 ≤ IntKind.wrap .i64 ((h.getD (k - 1) H0).1 + (h.getD (k - 1) H0).2.1))
def badK (many : Int) (h : List (PV Y_impl_Hunk)) (k : Nat) : Bool := badH many (h.getD k H0) || badP h k
def hunksP (many : Int) (h : List (PV Y_impl_Hunk)) : Bool := inI many 0 40 && (decide (h.length ≤ 20) && !(anyN h.length (badK many h)))

def SmH (h : List (PV Y_impl_Hunk)) : Prop := h.length ≤ 4611686018427387904 ∧ ∀ x ∈ h, Sm x.2.2.1
theorem SmH.len {h : List (PV Y_impl_Hunk)} (hs : SmH h) : h.length ≤ 4611686018427387904 := hs.1
theorem SmH.mem {h : List (PV Y_impl_Hunk)} (hs : SmH h) {i : Nat} (hi : i < h.length) : Sm (h.getD i H0).2.2.1 := by
  rw [getD_of hi]
  exact hs.2 _ (List.getElem_mem hi)
theorem SmH.of {e : TypeId} {h : List (PV Y_impl_Hunk)} {n : Nat} (hs : tot (.slice e Y_impl_Hunk) h ≤ n) (hn : n ≤ 4611686018427387904) : SmH h := by
  refine ⟨?_, fun x hx => ?_⟩
  · have h' := hs
    rw [tot_slice] at h'
    omega
  · obtain ⟨i, hi, rfl⟩ := List.mem_iff_getElem.1 hx
    have := Nat.le_trans (tot_mem (e := e) (t := Y_impl_Hunk) (xs := h) hi) hs
    refine Sm.of (n := n) ?_ hn
    simp only [tot] at this ⊢
    omega

theorem stepH_I (many : Int) (h : List (PV Y_impl_Hunk)) (hs : SmH h) {i : Nat} (hi : i < h.length) :
    b_I_goodHunks_4 many h h h.length i = some (if badK many h i then .inr (.inr (false, ())) else .inl (many, h, h, (h.length : Int), (i : Int) + 1, ())) := by
  have hl := hs.len
  have hm := hs.mem hi
  unfold b_I_goodHunks_4
  rw [decide_eq_true (by omega : (i : Int) < (h.length : Int)), cond_true, inB_lt hi, cond_true, toNat_cast]
  unfold badK badP
  generalize hx : h.getD i H0 = x at *
  rw [in_I, in_I, areLines_I _ hm, Option.bind_some, Option.bind_some]
  unfold badH inI
  dsimp only
  cases decide (x.1 ≥ 0) && decide (x.1 ≤ many)
  · rfl
  · cases decide (x.2.1 ≥ 0) && decide (x.2.1 ≤ IntKind.wrap .i64 (many - x.1))
    · rfl
    · cases linesP x.2.2.1
      · rfl
      · simp only [Bool.not_true, cond_false, Option.bind_some, Bool.false_or]
        have hb : ((bif x.2.1 == 0 then some (many, h, (i : Int), x, h, (h.length : Int), (i : Int), (List.length x.2.2.1 : Int) == 0, ()) else some (many, h, (i : Int), x, h, (h.length : Int), (i : Int), false, ())) : Option (Int × List (PV Y_impl_Hunk) × Int × PV Y_impl_Hunk × List (PV Y_impl_Hunk) × Int × Int × Bool × Unit)) =
            some (many, h, (i : Int), x, h, (h.length : Int), (i : Int), (x.2.1 == 0) && ((List.length x.2.2.1 : Int) == 0), ()) := by
          cases x.2.1 == 0 <;> rfl
        rw [hb, Option.bind_some]
        dsimp only
        cases (x.2.1 == 0) && ((List.length x.2.2.1 : Int) == 0)
        · simp only [cond_false, Bool.false_or]
          cases i with
          | zero => rw [decide_eq_false (by omega : ¬ (((0 : Nat) : Int) > 0))]; rfl
          | succ j =>
            rw [decide_eq_true (by omega : ((j + 1 : Nat) : Int) > 0), cond_true, show IntKind.wrap .i64 (((j + 1 : Nat) : Int) - 1) = (j : Int) from by rw [wrap64 (by omega) (by omega)]; omega, inB_lt (by omega : j < h.length), cond_true, cond_true, toNat_cast, Option.bind_some, Bool.true_and, Nat.add_sub_cancel]
            dsimp only
            rw [wrap64 (x := ((j + 1 : Nat) : Int) + 1) (by omega) (by omega)]
            cases decide (x.1 ≤ IntKind.wrap .i64 ((h.getD j (dflt Y_impl_Hunk)).1 + (h.getD j (dflt Y_impl_Hunk)).2.1)) <;> rfl
        · rfl

theorem hunks_I (many : Int) (h : List (PV Y_impl_Hunk)) (hs : SmH h) : f_I_goodHunks many h = some ((hunksP many h, ()), ()) := by
  have hl := hs.len
  unfold f_I_goodHunks hunksP
  rw [in_I, Option.bind_some]
  dsimp only
  unfold inI
  cases decide (many ≥ 0) && decide (many ≤ 40)
  · rfl
  · rw [Bool.not_true, cond_false, Option.bind_some]
    dsimp only
    by_cases hn : h.length ≤ 20
    · rw [decide_eq_false (by omega : ¬ ((h.length : Int) > 20)), cond_false, decide_eq_true hn, Bool.true_and, Bool.true_and]
      rw [show w_I_goodHunks_4 (many, h, h, (h.length : Int), 0, ()) = _ from fix_anyN (B := fun d => b_I_goodHunks_4 d.1 d.2.1 d.2.2.1 d.2.2.2.1 d.2.2.2.2.1) h.length (badK many h) (fun i => (many, h, h, (h.length : Int), (i : Int), ())) (fun _ => .inr (false, ())) (.inl ())
        (fun i hi hq => by show b_I_goodHunks_4 many h h h.length i = _; rw [stepH_I many h hs hi, hq]; rfl)
        (fun i hi hq => by show b_I_goodHunks_4 many h h h.length i = _; rw [stepH_I many h hs hi, hq]; rfl)
        (by
          show b_I_goodHunks_4 many h h h.length h.length = _
          unfold b_I_goodHunks_4
          rw [decide_eq_false (Int.lt_irrefl _), cond_false])]
      cases anyN h.length (badK many h) <;> rfl
    · rw [decide_eq_true (by omega : (h.length : Int) > 20), cond_true, decide_eq_false hn]; rfl

def badS (many : Int) (x : PV Y_impl_Hunk) : Bool :=
  decide (x.1 < 0) || (decide (x.2.1 < 0) || (decide (x.2.1 > many) || (decide (x.1 > IntKind.wrap .i64 (many - x.2.1)) || ((IntKind.wrap .i64 (x.2.1 + (List.length x.2.2.1 : Int)) == 0) || decide ((List.length x.2.2.1 : Int) > 40)))))

theorem bad_nums {many A G n : Int} (h0 : 0 ≤ many) (h1 : many ≤ 4611686018427387903) (hn : 0 ≤ n) (hm : n ≤ 4611686018427387904) :
    (decide (A < 0) || (decide (G < 0) || (decide (G > many) || (decide (A > IntKind.wrap .i64 (many - G)) || ((IntKind.wrap .i64 (G + n) == 0) || decide (n > 40)))))) =
      (!(decide (A ≥ 0) && decide (A ≤ many)) || (!(decide (G ≥ 0) && decide (G ≤ IntKind.wrap .i64 (many - A))) || (!(decide (n ≤ 40)) || ((G == 0) && (n == 0))))) := by
  rw [Bool.eq_iff_iff]
  simp only [Bool.or_eq_true, Bool.not_eq_true', decide_eq_true_eq, decide_eq_false_iff_not, beq_iff_eq, Bool.and_eq_false_iff, Bool.and_eq_true]
  by_cases a4 : A ≤ many ∧ 0 ≤ A
  · rw [wrap64 (x := many - A) (by omega) (by omega)]
    by_cases a3 : 0 ≤ G ∧ G ≤ many
    · rw [wrap64 (x := many - G) (by omega) (by omega), wrap64 (x := G + n) (by omega) (by omega)]
      omega
    · constructor
      · intro _; right; left; omega
      · intro _; omega
  · constructor
    · intro _; left; omega
    · intro _
      by_cases a1 : A < 0
      · exact .inl a1
      · by_cases a2 : G < 0
        · exact .inr (.inl a2)
        · by_cases a3 : G > many
          · exact .inr (.inr (.inl a3))
          · right; right; right; left
            rw [wrap64 (x := many - G) (by omega) (by omega)]
            omega

theorem bad_same {many : Int} {x : PV Y_impl_Hunk} (h0 : 0 ≤ many) (h1 : many ≤ 4611686018427387903) (hm : List.length x.2.2.1 ≤ 4611686018427387904) :
    (badS many x || List.any x.2.2.1 fun s => !lineP s) = badH many x := by
  unfold badS badH linesP inI
  have := bad_nums (A := x.1) (G := x.2.1) (n := (List.length x.2.2.1 : Int)) h0 h1 (by omega) (by omega)
  rw [this]
  rw [show decide (List.length x.2.2.1 ≤ 40) = decide ((List.length x.2.2.1 : Int) ≤ 40) from by rw [Bool.eq_iff_iff]; simp; omega]
  cases (decide ((x.1 : Int) ≥ 0) && decide ((x.1 : Int) ≤ many)) <;> cases (decide ((x.2.1 : Int) ≥ 0) && decide ((x.2.1 : Int) ≤ IntKind.wrap .i64 (many - x.1))) <;> cases decide ((List.length x.2.2.1 : Int) ≤ 40) <;>
    cases ((x.2.1 == 0) && ((List.length x.2.2.1 : Int) == 0)) <;> cases (List.any x.2.2.1 fun s => !lineP s) <;> rfl

theorem stepH_S (many : Int) (h : List (PV Y_impl_Hunk)) (hs : SmH h) (h0 : 0 ≤ many) (h1 : many ≤ 4611686018427387903) {i : Nat} (hi : i < h.length) :
    b_S_l2Hunks_2 many h h h.length i = some (if badK many h i then .inr (.inr (false, ())) else .inl (many, h, h, (h.length : Int), (i : Int) + 1, ())) := by
  have hl := hs.len
  have hm := hs.mem hi
  unfold b_S_l2Hunks_2
  rw [decide_eq_true (by omega : (i : Int) < (h.length : Int)), cond_true, inB_lt hi, cond_true, toNat_cast]
  have hq : badK many h i = ((badS many (h.getD i H0) || badP h i) || List.any (h.getD i H0).2.2.1 fun s => !lineP s) := by
    unfold badK
    rw [← bad_same h0 h1 hm.len]
    cases badS many (h.getD i H0) <;> cases badP h i <;> cases List.any (h.getD i H0).2.2.1 fun s => !lineP s <;> rfl
  rw [hq]
  unfold badP
  generalize hx : h.getD i H0 = x at *
  have hr : ∀ f : Bool, (bif f then some (Sum.inr (Sum.inr (false, ()))) else
      (w_S_l2Hunks_7 (many, h, h, (h.length : Int), (i : Int), x.2.2.1, (List.length x.2.2.1 : Int), 0, ())).bind fun x14 =>
            match x14 with
            | .inl l7 =>
              some (.inl (l7.1, l7.2.1, l7.2.2.1, l7.2.2.2.1, (IntKind.wrap .i64 (l7.2.2.2.2.1 + 1)), ()))
            | .inr l8 =>
              some (.inr (.inr (l8.1, ()))) : Option ((PV (.int .i64) × PV S_impl_Hunk × PV S_impl_Hunk × PV (.int .i64) × PV (.int .i64) × Unit) ⊕ ((PV (.int .i64) × PV S_impl_Hunk × Unit) ⊕ (PV .bool × Unit)))) =
      some (if (f || List.any x.2.2.1 fun s => !lineP s) then .inr (.inr (false, ())) else .inl (many, h, h, (h.length : Int), (i : Int) + 1, ())) := by
    intro f
    cases f
    · rw [cond_false, Bool.false_or, show w_S_l2Hunks_7 (many, h, h, (h.length : Int), (i : Int), x.2.2.1, (List.length x.2.2.1 : Int), 0, ()) = _ from
        fix_any (B := fun d => b_S_l2Hunks_7 d.1 d.2.1 d.2.2.1 d.2.2.2.1 d.2.2.2.2.1 d.2.2.2.2.2.1 d.2.2.2.2.2.2.1 d.2.2.2.2.2.2.2.1) x.2.2.1 (fun s => !lineP s) (fun k => (many, h, h, (h.length : Int), (i : Int), x.2.2.1, (List.length x.2.2.1 : Int), (k : Int), ())) (fun _ => .inr (false, ())) (.inl (many, h, h, (h.length : Int), (i : Int), ()))
        (fun k hk hq => by
          have hml := hm.len
          show b_S_l2Hunks_7 many h h h.length i x.2.2.1 (List.length x.2.2.1) k = _
          unfold b_S_l2Hunks_7
          rw [decide_eq_true (by omega : (k : Int) < (List.length x.2.2.1 : Int)), cond_true, inB_lt hk, cond_true, toNat_cast, getD_of hk, line_S _ (hm.mem hk), Option.bind_some]
          dsimp only
          rw [hq, cond_false, wrap64 (by omega) (by omega)]; rfl)
        (fun k hk hq => by
          show b_S_l2Hunks_7 many h h h.length i x.2.2.1 (List.length x.2.2.1) k = _
          unfold b_S_l2Hunks_7
          rw [decide_eq_true (by omega : (k : Int) < (List.length x.2.2.1 : Int)), cond_true, inB_lt hk, cond_true, toNat_cast, getD_of hk, line_S _ (hm.mem hk), Option.bind_some]
          dsimp only
          rw [hq, cond_true])
        (by
          show b_S_l2Hunks_7 many h h h.length i x.2.2.1 (List.length x.2.2.1) (List.length x.2.2.1) = _
          unfold b_S_l2Hunks_7
          rw [decide_eq_false (Int.lt_irrefl _), cond_false])]
      cases List.any x.2.2.1 fun s => !lineP s
      · rw [if_neg (by simp), if_neg (by simp), Option.bind_some]
        dsimp only
        rw [wrap64 (by omega) (by omega)]
      · rfl
    · rfl
  have hb : ∀ j : Bool, ((bif decide ((i : Int) > 0) then bif inB (IntKind.wrap .i64 ((i : Int) - 1)) h.length then bif inB (IntKind.wrap .i64 ((i : Int) - 1)) h.length then
        some (many, h, x, h, (h.length : Int), (i : Int), decide (x.1 ≤ IntKind.wrap .i64 ((h.getD (IntKind.wrap .i64 ((i : Int) - 1)).toNat (dflt Y_impl_Hunk)).1 + (h.getD (IntKind.wrap .i64 ((i : Int) - 1)).toNat (dflt Y_impl_Hunk)).2.1)), ()) else none else none
      else some (many, h, x, h, (h.length : Int), (i : Int), false, ())) : Option ((PV (.int .i64) × PV S_impl_Hunk × PV Y_impl_Hunk × PV S_impl_Hunk × PV (.int .i64) × PV (.int .i64) × PV .bool × Unit))) =
      some (many, h, x, h, (h.length : Int), (i : Int), decide ((i : Int) > 0) && decide (x.1 ≤ IntKind.wrap .i64 ((h.getD (i - 1) H0).1 + (h.getD (i - 1) H0).2.1)), ()) := by
    intro _
    cases i with
    | zero => rw [decide_eq_false (by omega : ¬ (((0 : Nat) : Int) > 0))]; rfl
    | succ j =>
      rw [decide_eq_true (by omega : ((j + 1 : Nat) : Int) > 0), cond_true, show IntKind.wrap .i64 (((j + 1 : Nat) : Int) - 1) = (j : Int) from by rw [wrap64 (by omega) (by omega)]; omega, inB_lt (by omega : j < h.length), cond_true, cond_true, toNat_cast, Bool.true_and, Nat.add_sub_cancel]
  rw [hb true]
  unfold badS
  cases decide (x.1 < 0)
  · rw [cond_false]
    cases decide (x.2.1 < 0)
    · rw [cond_false]
      cases decide (x.2.1 > many)
      · rw [cond_false]
        cases decide (x.1 > IntKind.wrap .i64 (many - x.2.1))
        · rw [cond_false]
          cases (IntKind.wrap .i64 (x.2.1 + (List.length x.2.2.1 : Int)) == 0)
          · rw [cond_false]
            cases decide ((List.length x.2.2.1 : Int) > 40)
            · rw [cond_false, Option.bind_some]
              exact hr _
            · rfl
          · rfl
        · rfl
      · rfl
    · rfl
  · rfl

theorem hunks_S (many : Int) (h : List (PV Y_impl_Hunk)) (hs : SmH h) (h0 : 0 ≤ many) (h1 : many ≤ 4611686018427387903) : f_S_l2Hunks many h = some ((hunksP many h, ()), ()) := by
  have hl := hs.len
  unfold f_S_l2Hunks hunksP
  rw [show w_S_l2Hunks_2 (many, h, h, (h.length : Int), 0, ()) = _ from fix_anyN (B := fun d => b_S_l2Hunks_2 d.1 d.2.1 d.2.2.1 d.2.2.2.1 d.2.2.2.2.1) h.length (badK many h) (fun i => (many, h, h, (h.length : Int), (i : Int), ())) (fun _ => .inr (false, ())) (.inl (many, h, ()))
        (fun i hi hq => by show b_S_l2Hunks_2 many h h h.length i = _; rw [stepH_S many h hs h0 h1 hi, hq]; rfl)
        (fun i hi hq => by show b_S_l2Hunks_2 many h h h.length i = _; rw [stepH_S many h hs h0 h1 hi, hq]; rfl)
        (by
          show b_S_l2Hunks_2 many h h h.length h.length = _
          unfold b_S_l2Hunks_2
          rw [decide_eq_false (Int.lt_irrefl _), cond_false])]
  cases anyN h.length (badK many h)
  · rw [if_neg (by simp), Option.bind_some]
    dsimp only
    rw [in_S, Option.bind_some]
    by_cases hn : h.length ≤ 20
    · rw [decide_eq_true (by omega : (h.length : Int) ≤ 20), cond_true, decide_eq_true hn]
      unfold inI
      cases decide (many ≥ 0) && decide (many ≤ 40) <;> rfl
    · rw [decide_eq_false (by omega : ¬ (h.length : Int) ≤ 20), cond_false, decide_eq_false hn]
      simp
  · rw [if_pos rfl]
    simp
end R
end

section
/- Lines behind hunks: both sides make the same. -/
open Go Go.Dn
namespace R
set_option linter.unusedVariables false

def stepP (l : List (List UInt8)) (a : List (List UInt8) × Int) (x : PV Y_impl_Hunk) : List (List UInt8) × Int := ((a.1 ++ cutL a.2 x.1 l) ++ x.2.2.1, x.1 + x.2.1)
def foldP (l : List (List UInt8)) (h : List (PV Y_impl_Hunk)) : List (List UInt8) × Int := h.foldl (stepP l) ([], 0)
def patchL (l : List (List UInt8)) (h : List (PV Y_impl_Hunk)) : List (List UInt8) := (foldP l h).1 ++ cutL (foldP l h).2 (l.length : Int) l

theorem linesP_len {l : List (List UInt8)} (h : linesP l = true) : l.length ≤ 40 := by
  unfold linesP at h
  simp only [Bool.and_eq_true, decide_eq_true_eq] at h
  exact h.1
theorem goodP_len {l : List (List UInt8)} (h : goodP l = true) : l.length ≤ 40 := by
  unfold goodP at h
  simp only [Bool.and_eq_true] at h
  exact linesP_len h.1

/-- What a good hunk tells. -/
theorem hunk_facts {many : Int} {h : List (PV Y_impl_Hunk)} (hh : hunksP many h = true) : 0 ≤ many ∧ many ≤ 40 ∧ h.length ≤ 20 ∧ ∀ i, i < h.length →
    0 ≤ (h.getD i H0).1 ∧ (h.getD i H0).1 ≤ many ∧ 0 ≤ (h.getD i H0).2.1 ∧ (h.getD i H0).1 + (h.getD i H0).2.1 ≤ many ∧ List.length (h.getD i H0).2.2.1 ≤ 40 ∧ linesP (h.getD i H0).2.2.1 = true ∧
      (0 < i → (h.getD (i - 1) H0).1 + (h.getD (i - 1) H0).2.1 < (h.getD i H0).1) := by
  unfold hunksP inI at hh
  simp only [Bool.and_eq_true, decide_eq_true_eq, Bool.not_eq_true'] at hh
  obtain ⟨⟨h0, h1⟩, h2, h3⟩ := hh
  have hq : ∀ i, i < h.length → badK many h i = false := fun i hi => by
    cases hb : badK many h i with
    | false => rfl
    | true => rw [anyN_iff.2 ⟨i, hi, hb⟩] at h3; cases h3
  have h4 : ∀ i, i < h.length → (0 : Int) ≤ (h.getD i H0).1 ∧ ((h.getD i H0).1 : Int) ≤ many ∧ (0 : Int) ≤ (h.getD i H0).2.1 ∧ ((h.getD i H0).1 : Int) + (h.getD i H0).2.1 ≤ many ∧ linesP (h.getD i H0).2.2.1 = true := by
    intro i hi
    have hb := hq i hi
    unfold badK badH inI at hb
    generalize h.getD i H0 = x at *
    obtain ⟨A, G, N, u⟩ := x
    have e : ∀ (A G : Int), (decide (A ≥ 0) && decide (A ≤ many)) = true → (decide (G ≥ 0) && decide (G ≤ IntKind.wrap .i64 (many - A))) = true → 0 ≤ A ∧ A ≤ many ∧ 0 ≤ G ∧ A + G ≤ many := by
      intro A G p q
      simp only [Bool.and_eq_true, decide_eq_true_eq] at p q
      rw [wrap64 (by omega) (by omega)] at q
      omega
    dsimp only at hb ⊢
    simp only [Bool.or_eq_false_iff, Bool.not_eq_false'] at hb
    obtain ⟨⟨b1, b2, b3, _⟩, _⟩ := hb
    obtain ⟨c1, c2, c3, c4⟩ := e A G b1 b2
    exact ⟨c1, c2, c3, c4, b3⟩
  refine ⟨h0, h1, h2, fun i hi => ?_⟩
  obtain ⟨a1, a2, a3, a4, a5⟩ := h4 i hi
  refine ⟨a1, a2, a3, a4, linesP_len a5, a5, fun hpos => ?_⟩
  have hb := hq i hi
  unfold badK badP at hb
  simp only [Bool.or_eq_false_iff] at hb
  have hb := hb.2
  rw [decide_eq_true (by omega : (i : Int) > 0), Bool.true_and, decide_eq_false_iff_not] at hb
  obtain ⟨b1, b2, b3, b4, _⟩ := h4 (i - 1) (by omega)
  have e : ∀ (A P G : Int), 0 ≤ P → 0 ≤ G → P + G ≤ many → many ≤ 40 → ¬ A ≤ IntKind.wrap .i64 (P + G) → P + G < A := by
    intro A P G p1 p2 p3 p4 q
    rw [wrap64 (by omega) (by omega)] at q
    omega
  exact e _ _ _ b1 b3 b4 h1 hb

theorem cut_len {l : List (List UInt8)} {a b : Int} : (cutL a b l).length ≤ l.length := by
  unfold cutL
  simp
  omega
theorem cut_mem {l : List (List UInt8)} {a b : Int} {s : List UInt8} (h : s ∈ cutL a b l) : s ∈ l := List.mem_of_mem_take (List.mem_of_mem_drop h)

def InvP (l : List (List UInt8)) (h : List (PV Y_impl_Hunk)) (i : Nat) (a : List (List UInt8) × Int) : Prop :=
  a.1.length ≤ 80 * i ∧ 0 ≤ a.2 ∧ a.2 ≤ (l.length : Int) ∧ (i = 0 → a.2 = 0) ∧ (0 < i → a.2 = (h.getD (i - 1) H0).1 + (h.getD (i - 1) H0).2.1) ∧ ∀ s ∈ a.1, s.length ≤ 4611686018427387904

theorem inv_next {l : List (List UInt8)} {h : List (PV Y_impl_Hunk)} (hl : Sm l) (hh : SmH h) (hg : hunksP (l.length : Int) h = true) {i : Nat} (hi : i < h.length) {a : List (List UInt8) × Int} (hI : InvP l h i a) :
    InvP l h (i + 1) (stepP l a h[i]) ∧ 0 ≤ a.2 ∧ a.2 ≤ (h[i].1 : Int) ∧ (h[i].1 : Int) ≤ l.length ∧ 0 ≤ (h[i].2.1 : Int) ∧ (h[i].1 : Int) + h[i].2.1 ≤ l.length ∧ List.length h[i].2.2.1 ≤ 40 ∧ a.1.length ≤ 1600 ∧ l.length ≤ 40 := by
  obtain ⟨f1, f2, f3, f4⟩ := hunk_facts hg
  have f5 := f4 i hi
  rw [getD_of hi] at f5
  obtain ⟨g1, g2, g3, g4, g5, g6, g7⟩ := f5
  obtain ⟨i1, i2, i3, i4, i5, i6⟩ := hI
  have hat : ∀ A : Int, A = h[i].1 → a.2 ≤ A := by
    intro A hA
    rcases Nat.eq_zero_or_pos i with h0 | hp
    · rw [i4 h0, hA]; exact g1
    · rw [i5 hp, hA]; exact Int.le_of_lt (g7 hp)
  have hat := hat _ rfl
  have hc : (cutL a.2 h[i].1 l).length ≤ 40 := Nat.le_trans cut_len (by omega)
  refine ⟨⟨?_, ?_, ?_, fun h => by omega, fun _ => ?_, ?_⟩, i2, hat, g2, g3, g4, g5, by omega, by omega⟩
  · show ((a.1 ++ cutL a.2 h[i].1 l) ++ h[i].2.2.1).length ≤ 80 * (i + 1)
    rw [List.length_append, List.length_append]
    omega
  · exact Int.add_nonneg g1 g3
  · exact g4
  · rw [Nat.add_sub_cancel, getD_of hi]; rfl
  · intro s hs
    rcases List.mem_append.1 hs with hs | hs
    · rcases List.mem_append.1 hs with hs | hs
      · exact i6 s hs
      · exact hl.2 s (cut_mem hs)
    · exact (hh.2 _ (List.getElem_mem hi)).2 s hs

theorem cutB_ok {a b : Int} {n : Nat} (h0 : 0 ≤ a) (h1 : a ≤ b) (h2 : b ≤ (n : Int)) : cutB a b n = true := by
  unfold cutB
  rw [decide_eq_true h0, decide_eq_true h1, decide_eq_true h2]
  rfl

theorem patch_loop_I {l : List (List UInt8)} {h : List (PV Y_impl_Hunk)} (hl : Sm l) (hh : SmH h) (hg : hunksP (l.length : Int) h = true) :
    w_I_patched_3 (l, ([] : List (List UInt8)), 0, h, (h.length : Int), 0, ()) = some (l, (foldP l h).1, (foldP l h).2, ()) ∧ InvP l h h.length (foldP l h) := by
  have := fix_fold (B := fun d => b_I_patched_3 d.1 d.2.1 d.2.2.1 d.2.2.2.1 d.2.2.2.2.1 d.2.2.2.2.2.1) h (stepP l) (fun a i => (l, a.1, a.2, h, (h.length : Int), (i : Int), ())) (fun a => (l, a.1, a.2, ())) (InvP l h)
    (fun i hi a hI => by
      obtain ⟨q0, q1, q2, q3, q4, q5, q6, q7, q8⟩ := inv_next hl hh hg hi hI
      refine ⟨q0, ?_⟩
      show b_I_patched_3 l a.1 a.2 h h.length i = _
      have hlen := hh.len
      unfold b_I_patched_3
      rw [decide_eq_true (by omega : (i : Int) < (h.length : Int)), cond_true, inB_lt hi, cond_true, toNat_cast, getD_of hi]
      have hc : (cutL a.2 h[i].1 l).length ≤ 40 := Nat.le_trans cut_len q8
      rw [cutB_ok q1 q2 q3, cond_true, roomB_ok (by omega), cond_true, roomB_ok (by rw [List.length_append]; omega), cond_true]
      have e : ∀ A G : Int, 0 ≤ A → 0 ≤ G → A + G ≤ (l.length : Int) → IntKind.wrap .i64 (A + G) = A + G := fun A G p1 p2 p3 => wrap64 (by omega) (by omega)
      rw [e _ _ (Int.le_trans q1 q2) q4 q5, wrap64 (by omega) (by omega)]
      simp [stepP])
    (fun a _ => by
      show b_I_patched_3 l a.1 a.2 h h.length h.length = _
      unfold b_I_patched_3
      rw [decide_eq_false (Int.lt_irrefl _), cond_false]) ([], 0) ⟨by simp, Int.le_refl _, by simp, fun _ => rfl, fun h => by omega, fun s hs => by cases hs⟩
  exact this

theorem patch_loop_S {l : List (List UInt8)} {h : List (PV Y_impl_Hunk)} (hl : Sm l) (hh : SmH h) (hg : hunksP (l.length : Int) h = true) :
    w_S_l2Patch_4 (l, ([] : List (List UInt8)), 0, h, (h.length : Int), 0, ()) = some (l, (foldP l h).1, (foldP l h).2, ()) := by
  have := fix_fold (B := fun d => b_S_l2Patch_4 d.1 d.2.1 d.2.2.1 d.2.2.2.1 d.2.2.2.2.1 d.2.2.2.2.2.1) h (stepP l) (fun a i => (l, a.1, a.2, h, (h.length : Int), (i : Int), ())) (fun a => (l, a.1, a.2, ())) (InvP l h)
    (fun i hi a hI => by
      obtain ⟨q0, q1, q2, q3, q4, q5, q6, q7, q8⟩ := inv_next hl hh hg hi hI
      refine ⟨q0, ?_⟩
      show b_S_l2Patch_4 l a.1 a.2 h h.length i = _
      have hlen := hh.len
      unfold b_S_l2Patch_4
      rw [decide_eq_true (by omega : (i : Int) < (h.length : Int)), cond_true, inB_lt hi, cond_true, toNat_cast, getD_of hi]
      have hc : (cutL a.2 h[i].1 l).length ≤ 40 := Nat.le_trans cut_len q8
      rw [cutB_ok q1 q2 q3, cond_true, roomB_ok (by omega), cond_true, roomB_ok (by rw [List.length_append]; omega), cond_true]
      have e : ∀ A G : Int, 0 ≤ A → 0 ≤ G → A + G ≤ (l.length : Int) → IntKind.wrap .i64 (A + G) = A + G := fun A G p1 p2 p3 => wrap64 (by omega) (by omega)
      rw [e _ _ (Int.le_trans q1 q2) q4 q5, wrap64 (by omega) (by omega)]
      simp [stepP])
    (fun a _ => by
      show b_S_l2Patch_4 l a.1 a.2 h h.length h.length = _
      unfold b_S_l2Patch_4
      rw [decide_eq_false (Int.lt_irrefl _), cond_false]) ([], 0) ⟨by simp, Int.le_refl _, by simp, fun _ => rfl, fun h => by omega, fun s hs => by cases hs⟩
  exact this.1

theorem patched_I {l : List (List UInt8)} {h : List (PV Y_impl_Hunk)} (hl : Sm l) (hh : SmH h) (hg : hunksP (l.length : Int) h = true) :
    f_I_patched l h = some ((patchL l h, ()), ()) ∧ Sm (patchL l h) ∧ (patchL l h).length ≤ 1640 := by
  obtain ⟨h1, h2⟩ := patch_loop_I hl hh hg
  obtain ⟨f1, f2, f3, _⟩ := hunk_facts hg
  obtain ⟨i1, i2, i3, _, _, i6⟩ := h2
  have hc : (cutL (foldP l h).2 (l.length : Int) l).length ≤ 40 := Nat.le_trans cut_len (by omega)
  refine ⟨?_, ⟨?_, fun s hs => ?_⟩, ?_⟩
  · unfold f_I_patched
    rw [h1, Option.bind_some]
    dsimp only
    rw [cutB_ok i2 i3 (Int.le_refl _), cond_true, roomB_ok (by omega), cond_true]
    rfl
  · unfold patchL; rw [List.length_append]; omega
  · rcases List.mem_append.1 hs with hs | hs
    · exact i6 s hs
    · exact hl.2 s (cut_mem hs)
  · unfold patchL; rw [List.length_append]; omega

theorem patched_S {l : List (List UInt8)} {h : List (PV Y_impl_Hunk)} (hl : Sm l) (hh : SmH h) (hg : hunksP (l.length : Int) h = true) : f_S_l2Patch l h = some ((patchL l h, ()), ()) := by
  obtain ⟨_, h2⟩ := patch_loop_I hl hh hg
  obtain ⟨f1, f2, f3, _⟩ := hunk_facts hg
  obtain ⟨i1, i2, i3, _, _, i6⟩ := h2
  have hc : (cutL (foldP l h).2 (l.length : Int) l).length ≤ 40 := Nat.le_trans cut_len (by omega)
  unfold f_S_l2Patch
  rw [show w_S_l2Patch_4 (l, [], 0, h, (h.length : Int), 0, ()) = _ from patch_loop_S hl hh hg, Option.bind_some]
  dsimp only
  rw [cutB_ok i2 i3 (Int.le_refl _), cond_true, roomB_ok (by omega), cond_true]
  rfl

/-- What comes of hunks: the lines, if all is good. -/
def patchOk (l : List (List UInt8)) (h : List (PV Y_impl_Hunk)) : Bool := goodP l && (hunksP (l.length : Int) h && goodP (patchL l h))
def patchR (l : List (List UInt8)) (h : List (PV Y_impl_Hunk)) : List (List UInt8) := bif patchOk l h then patchL l h else []

theorem patch_I {l : List (List UInt8)} {h : List (PV Y_impl_Hunk)} (hl : Sm l) (hh : SmH h) : f_I_Patch l h = some ((patchR l h, patchOk l h, ()), ()) := by
  unfold f_I_Patch patchR patchOk
  rw [goodLines_I l hl, Option.bind_some, hunks_I _ h hh]
  dsimp only
  cases goodP l
  · rfl
  · cases hg : hunksP (l.length : Int) h
    · rfl
    · obtain ⟨p1, p2, _⟩ := patched_I hl hh hg
      simp only [Bool.not_true, cond_false, Option.bind_some, p1, goodLines_I _ p2]
      cases goodP (patchL l h) <;> rfl

theorem patch_S {l : List (List UInt8)} {h : List (PV Y_impl_Hunk)} (hl : Sm l) (hh : SmH h) : f_S_Patch l h = some ((patchR l h, patchOk l h, ()), ()) := by
  have hlen := hl.len
  unfold f_S_Patch f_S_l2Asked patchR patchOk
  rw [l1Good_S l hl, Option.bind_some]
  dsimp only
  cases hgl : goodP l
  · rfl
  · have := goodP_len hgl
    rw [cond_true, hunks_S _ h hh (by omega) (by omega), Option.bind_some, Option.bind_some]
    dsimp only
    cases hg : hunksP (l.length : Int) h
    · rfl
    · obtain ⟨_, p2, _⟩ := patched_I hl hh hg
      rw [patched_S hl hh hg, Option.bind_some, l1Good_S _ p2, Option.bind_some]
      simp only [Bool.not_true, cond_false]
      cases goodP (patchL l h) <;> rfl
end R
end

section
/- Hunks moved behind other ones: both sides make the same; CanSwap. -/
open Go Go.Dn
namespace R
set_option linter.unusedVariables false

abbrev TX := List (List UInt8)
abbrev HK := List (PV Y_impl_Hunk)

theorem same_core {B : TX × TX × Int × Int × Unit → Option ((TX × TX × Int × Int × Unit) ⊕ (Unit ⊕ (Bool × Unit)))} {a b : TX} (hab : a.length = b.length)
    (hstep : ∀ i, i < a.length → B (a, b, (a.length : Int), (i : Int), ()) = some (if !(a.getD i [] == b.getD i []) then .inr (.inr (false, ())) else .inl (a, b, (a.length : Int), ((i + 1 : Nat) : Int), ())))
    (hend : B (a, b, (a.length : Int), (a.length : Int), ()) = some (.inr (.inl ()))) :
    fix B (a, b, (a.length : Int), 0, ()) = some (if decide (a = b) = true then .inl () else .inr (false, ())) := by
  have := fix_anyN (B := B) a.length (fun i => !(a.getD i [] == b.getD i [])) (fun i => (a, b, (a.length : Int), (i : Int), ())) (fun _ => .inr (false, ())) (.inl ())
    (fun i hi hq => by rw [hstep i hi, if_neg (by rw [hq]; simp)])
    (fun i hi hq => by rw [hstep i hi, if_pos hq])
    hend
  rw [show ((0 : Nat) : Int) = 0 from rfl] at this
  have hd : decide (a = b) = !(anyN a.length fun i => !(a.getD i [] == b.getD i [])) := by
    have h2 := beq_places (d := ([] : List UInt8)) hab
    have e : (fun i => !(a.getD i [] == b.getD i [])) = (fun i => !(@BEq.beq _ instBEqOfDecidableEq (a.getD i []) (b.getD i []))) := by
      funext i
      congr 1
      rw [Bool.eq_iff_iff]
      simp
    rw [e, ← h2, Bool.eq_iff_iff]
    simp
  rw [this, hd]
  cases anyN a.length fun i => !(a.getD i [] == b.getD i []) <;> rfl

theorem sameT_S (a b : TX) (ha : a.length ≤ 4611686018427387904) (hb : b.length ≤ 4611686018427387904) : f_S_l1SameT a b = some ((decide (a = b), ()), ()) := by
  unfold f_S_l1SameT
  by_cases hab : a.length = b.length
  · rw [show ((a.length : Int) == (b.length : Int)) = true from by rw [hab]; exact beq_self_eq_true _, Bool.not_true, cond_false]
    rw [show w_S_l1SameT_4 (a, b, (a.length : Int), 0, ()) = _ from same_core (B := fun d => b_S_l1SameT_4 d.1 d.2.1 d.2.2.1 d.2.2.2.1) hab
      (fun i hi => by
        show b_S_l1SameT_4 a b a.length i = _
        unfold b_S_l1SameT_4
        rw [decide_eq_true (by omega : (i : Int) < (a.length : Int)), cond_true, inB_lt hi, cond_true, inB_lt (by omega), cond_true, toNat_cast]
        cases (a.getD i [] == b.getD i [])
        · rfl
        · simp only [Bool.not_true, cond_false]
          rw [wrap64 (by omega) (by omega)]
          rfl)
      (by
        show b_S_l1SameT_4 a b a.length a.length = _
        unfold b_S_l1SameT_4
        rw [decide_eq_false (Int.lt_irrefl _), cond_false])]
    cases decide (a = b) <;> rfl
  · rw [show ((a.length : Int) == (b.length : Int)) = false from by rw [beq_eq_false_iff_ne]; omega, Bool.not_false, cond_true]
    rw [decide_eq_false (by rintro rfl; exact hab rfl)]

theorem equal_I (a b : TX) (ha : a.length ≤ 4611686018427387904) (hb : b.length ≤ 4611686018427387904) : f_slices_Equal_string a b = some ((decide (a = b), ()), ()) := by
  unfold f_slices_Equal_string
  by_cases hab : a.length = b.length
  · rw [show ((a.length : Int) == (b.length : Int)) = true from by rw [hab]; exact beq_self_eq_true _, Bool.not_true, cond_false]
    rw [show w_slices_Equal_string_4 (a, b, (a.length : Int), 0, ()) = _ from same_core (B := fun d => b_slices_Equal_string_4 d.1 d.2.1 d.2.2.1 d.2.2.2.1) hab
      (fun i hi => by
        show b_slices_Equal_string_4 a b a.length i = _
        unfold b_slices_Equal_string_4
        rw [decide_eq_true (by omega : (i : Int) < (a.length : Int)), cond_true, inB_lt hi, cond_true, inB_lt (by omega), cond_true, toNat_cast]
        cases (a.getD i [] == b.getD i [])
        · rfl
        · simp only [Bool.not_true, cond_false]
          rw [wrap64 (by omega) (by omega)]
          rfl)
      (by
        show b_slices_Equal_string_4 a b a.length a.length = _
        unfold b_slices_Equal_string_4
        rw [decide_eq_false (Int.lt_irrefl _), cond_false])]
    cases decide (a = b) <;> rfl
  · rw [show ((a.length : Int) == (b.length : Int)) = false from by rw [beq_eq_false_iff_ne]; omega, Bool.not_false, cond_true]
    rw [decide_eq_false (by rintro rfl; exact hab rfl)]

theorem own_S (l : TX) (h : l.length ≤ 1099511627776) : f_S_l1OwnT l = some ((l, ()), ()) := by
  unfold f_S_l1OwnT
  rw [roomB_ok (by simpa using h)]
  rfl
theorem own_I (l : TX) (h : l.length ≤ 1099511627776) : f_slices_Clone_string l = some ((l, ()), ()) := by
  unfold f_slices_Clone_string
  rw [roomB_ok (by simpa using h)]
  rfl
theorem own_H (l : HK) (h : l.length ≤ 1099511627776) : f_slices_Clone_Hunk l = some ((l, ()), ()) := by
  unfold f_slices_Clone_Hunk
  rw [roomB_ok (by simpa using h)]
  rfl

theorem mid_set {α : Type} (f : α → α) {b : List α} {i : Nat} (hi : i < b.length) (y : α) : ((b.take i).map f ++ b.drop i).set i y = (b.take i).map f ++ y :: b.drop (i + 1) := by
  have hl : ((b.take i).map f).length = i := by rw [List.length_map, List.length_take]; omega
  rw [List.set_append_right _ _ (by omega), hl, Nat.sub_self, List.drop_eq_getElem_cons hi, List.set_cons_zero]
theorem mid_next {α : Type} (f : α → α) {b : List α} {i : Nat} (hi : i < b.length) : (b.take i).map f ++ f b[i] :: b.drop (i + 1) = (b.take (i + 1)).map f ++ b.drop (i + 1) := by
  rw [← List.take_append_getElem hi, List.map_append, List.append_assoc]
  rfl
theorem mid_get {α : Type} (f : α → α) {b : List α} {i : Nat} (hi : i < b.length) (d : α) : ((b.take i).map f ++ b.drop i).getD i d = b[i] := by
  have hl : ((b.take i).map f).length = i := by rw [List.length_map, List.length_take]; omega
  rw [List.getD_eq_getElem?_getD, List.getElem?_append_right (by omega), hl, Nat.sub_self, List.getElem?_drop, Nat.add_zero, List.getElem?_eq_getElem hi]
  rfl
theorem mid_len {α : Type} (f : α → α) {b : List α} {i : Nat} (hi : i ≤ b.length) : ((b.take i).map f ++ b.drop i).length = b.length := by
  rw [List.length_append, List.length_map, List.length_take, List.length_drop]; omega

theorem plW {A G m : Int} (h0 : 0 ≤ A) (h1 : 0 ≤ G) (h2 : A + G ≤ m) (h3 : m ≤ 40) : IntKind.wrap .i64 (A + G) = A + G := wrap64 (by omega) (by omega)
theorem plM {s v z : Int} (h0 : -10000 ≤ s) (h1 : s ≤ 10000) (h2 : 0 ≤ v) (h3 : v ≤ 40) (h4 : 0 ≤ z) (h5 : z ≤ 40) : IntKind.wrap .i64 (s + IntKind.wrap .i64 (v - z)) = s + (v - z) := by
  rw [wrap64 (x := v - z) (by omega) (by omega), wrap64 (by omega) (by omega)]

def shp (p : Int) (s : Int) (x : PV Y_impl_Hunk) : Int := bif decide (x.1 + x.2.1 ≤ p) then s + ((List.length x.2.2.1 : Int) - x.2.1) else s
def plc (a : HK) (p : Int) : Int := p + a.foldl (shp p) 0
def tch (x y : PV Y_impl_Hunk) : Bool := decide (x.1 ≤ y.1 + y.2.1) && decide (y.1 ≤ x.1 + x.2.1)
def FreeP (a : HK) (p : Int) : Prop := ∀ x ∈ a, ¬ (x.1 + x.2.1 ≤ p) → ¬ x.1 ≤ p
def PInv (i : Nat) (s : Int) : Prop := -100 * (i : Int) ≤ s ∧ s ≤ 40 + 100 * (i : Int)

theorem fold_shp (p : Int) : ∀ (a : HK) (c : Int), a.foldl (shp p) c = c + a.foldl (shp p) 0
  | [], c => by simp
  | x :: a, c => by
    rw [List.foldl_cons, List.foldl_cons, fold_shp p a (shp p c x), fold_shp p a (shp p 0 x)]
    unfold shp
    cases decide (x.1 + x.2.1 ≤ p)
    · rw [cond_false, cond_false]; omega
    · rw [cond_true, cond_true]; omega

theorem pinv_next {p : Int} {i : Nat} {s : Int} {x : PV Y_impl_Hunk} (hI : PInv i s) (g0 : 0 ≤ x.2.1) (g1 : x.2.1 ≤ 40) (hn : List.length x.2.2.1 ≤ 40) : PInv (i + 1) (shp p s x) := by
  obtain ⟨h1, h2⟩ := hI
  have key : ∀ v z : Int, 0 ≤ v → v ≤ 40 → 0 ≤ z → z ≤ 40 → PInv (i + 1) (s + (v - z)) := fun v z _ _ _ _ => ⟨by omega, by omega⟩
  unfold shp
  cases decide (x.1 + x.2.1 ≤ p)
  · exact ⟨by show _ ≤ s; omega, by show s ≤ _; omega⟩
  · exact key _ _ (Int.natCast_nonneg _) (by omega) g0 g1

theorem hunk_at {many : Int} {h : HK} (hg : hunksP many h = true) {i : Nat} (hi : i < h.length) : 0 ≤ h[i].1 ∧ h[i].1 ≤ many ∧ 0 ≤ h[i].2.1 ∧ h[i].1 + h[i].2.1 ≤ many ∧ many ≤ 40 ∧ List.length h[i].2.2.1 ≤ 40 ∧ h[i].2.1 ≤ 40 := by
  obtain ⟨f1, f2, f3, f4⟩ := hunk_facts hg
  have f5 := f4 i hi
  rw [getD_of hi] at f5
  obtain ⟨g1, g2, g3, g4, g5, _⟩ := f5
  have e : ∀ A G : Int, 0 ≤ A → A + G ≤ many → G ≤ 40 := fun A G _ _ => by omega
  exact ⟨g1, g2, g3, g4, f2, g5, e _ _ g1 g4⟩

theorem place_S {many p : Int} {a : HK} (hg : hunksP many a = true) (h0 : 0 ≤ p) (h1 : p ≤ 40) (hf : FreeP a p) : f_S_l2Place a p = some ((plc a p, ()), ()) := by
  obtain ⟨_, _, h20, _⟩ := hunk_facts hg
  have hF := fix_fold (B := fun d => b_S_l2Place_3 d.1 d.2.1 d.2.2.1 d.2.2.2.1 d.2.2.2.2.1) a (shp p) (fun s i => (p, s, a, (a.length : Int), (i : Int), ())) (fun s => .inl (p, s, ())) PInv
    (fun i hi s hI => by
      obtain ⟨q1, q2, q3, q4, q5, q6, q7⟩ := hunk_at hg hi
      have hfx := hf _ (List.getElem_mem hi)
      refine ⟨pinv_next hI q3 q7 q6, ?_⟩
      obtain ⟨i1, i2⟩ := hI
      show b_S_l2Place_3 p s a a.length i = _
      unfold b_S_l2Place_3
      rw [decide_eq_true (by omega : (i : Int) < (a.length : Int)), cond_true, inB_lt hi, cond_true, toNat_cast, getD_of hi]
      generalize a[i] = x at *
      rw [plW q1 q3 q4 q5]
      unfold shp
      cases c : decide (x.1 + x.2.1 ≤ p)
      · rw [cond_false, decide_eq_false (hfx (of_decide_eq_false c)), cond_false, Option.bind_some]
        dsimp only
        rw [wrap64 (x := (i : Int) + 1) (by omega) (by omega)]
        rfl
      · rw [cond_true, Option.bind_some]
        dsimp only
        rw [plM (by omega) (by omega) (Int.natCast_nonneg _) (by omega) q3 q7, wrap64 (x := (i : Int) + 1) (by omega) (by omega)]
        rfl)
    (fun s _ => by
      show b_S_l2Place_3 p s a a.length a.length = _
      unfold b_S_l2Place_3
      rw [decide_eq_false (Int.lt_irrefl _), cond_false]) 0 ⟨by simp, by simp⟩
  obtain ⟨hF, i1, i2⟩ := hF
  unfold f_S_l2Place plc
  rw [show w_S_l2Place_3 (p, 0, a, (a.length : Int), 0, ()) = _ from hF, Option.bind_some]
  dsimp only
  rw [wrap64 (by omega) (by omega)]

theorem place_I {many p : Int} {a : HK} (ha : SmH a) (hg : hunksP many a = true) (h0 : 0 ≤ p) (h1 : p ≤ many) (hf : FreeP a p) : f_I_PlaceOf a many p = some ((plc a p, true, ()), ()) := by
  obtain ⟨_, hm, h20, _⟩ := hunk_facts hg
  have hF := fix_fold (B := fun d => b_I_PlaceOf_5 d.1 d.2.1 d.2.2.1 d.2.2.2.1 d.2.2.2.2.1) a (shp p) (fun s i => (p, s, a, (a.length : Int), (i : Int), ())) (fun s => .inl (s, ())) PInv
    (fun i hi s hI => by
      obtain ⟨q1, q2, q3, q4, q5, q6, q7⟩ := hunk_at hg hi
      have hfx := hf _ (List.getElem_mem hi)
      refine ⟨pinv_next hI q3 q7 q6, ?_⟩
      obtain ⟨i1, i2⟩ := hI
      show b_I_PlaceOf_5 p s a a.length i = _
      unfold b_I_PlaceOf_5
      rw [decide_eq_true (by omega : (i : Int) < (a.length : Int)), cond_true, inB_lt hi, cond_true, toNat_cast, getD_of hi]
      generalize a[i] = x at *
      rw [plW q1 q3 q4 q5]
      unfold shp
      cases c : decide (x.1 + x.2.1 ≤ p)
      · rw [cond_false, decide_eq_false (hfx (of_decide_eq_false c)), cond_false, Option.bind_some]
        dsimp only
        rw [wrap64 (x := (i : Int) + 1) (by omega) (by omega)]
        rfl
      · rw [cond_true, Option.bind_some]
        dsimp only
        rw [plM (by omega) (by omega) (Int.natCast_nonneg _) (by omega) q3 q7, wrap64 (x := (i : Int) + 1) (by omega) (by omega)]
        rfl)
    (fun s _ => by
      show b_I_PlaceOf_5 p s a a.length a.length = _
      unfold b_I_PlaceOf_5
      rw [decide_eq_false (Int.lt_irrefl _), cond_false]) p ⟨by simp; omega, by simp; omega⟩
  obtain ⟨hF, _⟩ := hF
  rw [fold_shp] at hF
  unfold f_I_PlaceOf plc
  rw [hunks_I many a ha, hg, Option.bind_some]
  dsimp only
  rw [Bool.not_true, cond_false, in_I, Option.bind_some, Option.bind_some]
  dsimp only
  rw [decide_eq_true (by omega : p ≥ 0), decide_eq_true h1, Bool.and_self, Bool.not_true, cond_false]
  rw [show w_I_PlaceOf_5 (p, p, a, (a.length : Int), 0, ()) = _ from hF, Option.bind_some]

theorem free_of {a : HK} {y : PV Y_impl_Hunk} (hy : 0 ≤ y.2.1) (h : (a.any fun x => tch x y) = false) : FreeP a y.1 := by
  intro x hx h1 h2
  have e : ∀ A G p q : Int, ¬ A + G ≤ p → A ≤ p → 0 ≤ q → A ≤ p + q ∧ p ≤ A + G := fun A G p q _ _ _ => by omega
  obtain ⟨e1, e2⟩ := e _ _ _ _ h1 h2 hy
  have : tch x y = true := by unfold tch; rw [decide_eq_true e1, decide_eq_true e2]; rfl
  rw [List.any_eq_false] at h
  exact h x hx this

def anyT (a b : HK) : Bool := a.any fun x => b.any fun y => tch x y
theorem any_swap (a b : HK) : (b.any fun y => a.any fun x => tch x y) = anyT a b := by
  unfold anyT
  rw [Bool.eq_iff_iff]
  simp only [List.any_eq_true]
  constructor
  · rintro ⟨y, hy, x, hx, h⟩; exact ⟨x, hx, y, hy, h⟩
  · rintro ⟨x, hx, y, hy, h⟩; exact ⟨y, hy, x, hx, h⟩
theorem anyT_free {a b : HK} (h : anyT a b = false) {y : PV Y_impl_Hunk} (hy : y ∈ b) : (a.any fun x => tch x y) = false := by
  rw [← any_swap, List.any_eq_false] at h
  exact Bool.eq_false_iff.2 (h y hy)

def mvX (a : HK) (y : PV Y_impl_Hunk) : PV Y_impl_Hunk := (plc a y.1, y.2)
def mv (a b : HK) : HK := b.map (mvX a)
theorem mv_sm {a b : HK} (hb : SmH b) : SmH (mv a b) := by
  refine ⟨by unfold mv; rw [List.length_map]; exact hb.1, fun x hx => ?_⟩
  unfold mv at hx
  obtain ⟨y, hy, rfl⟩ := List.mem_map.1 hx
  exact hb.2 y hy

theorem copied_I {b : HK} (hb : b.length ≤ 20) (hn : ∀ x ∈ b, List.length x.2.2.1 ≤ 40) : f_I_copiedHunks b = some ((b, ()), ()) := by
  have hF := fix_all (B := fun d => b_I_copiedHunks_3 d.1 d.2.1 d.2.2.1) (fun i => (b, (b.length : Int), (i : Int), ())) b.length (r := (b, ()))
    (fun i hi => by
      have hx := hn _ (List.getElem_mem hi)
      show b_I_copiedHunks_3 b b.length i = _
      unfold b_I_copiedHunks_3
      rw [decide_eq_true (by omega : (i : Int) < (b.length : Int)), cond_true, inB_lt hi, cond_true, toNat_cast, getD_of hi, own_I _ (by omega), Option.bind_some, cond_true, wrap64 (x := (i : Int) + 1) (by omega) (by omega)]
      show some (Sum.inl (b.set i b[i], (b.length : Int), ((i : Int) + 1), ())) = _
      rw [List.set_getElem_self]
      rfl)
    (by
      show b_I_copiedHunks_3 b b.length b.length = _
      unfold b_I_copiedHunks_3
      rw [decide_eq_false (Int.lt_irrefl _), cond_false])
  unfold f_I_copiedHunks
  rw [own_H b (by omega), Option.bind_some]
  dsimp only
  rw [show w_I_copiedHunks_3 (b, (b.length : Int), 0, ()) = _ from hF, Option.bind_some]

theorem ownH_S {b : HK} (hb : b.length ≤ 20) (hn : ∀ x ∈ b, List.length x.2.2.1 ≤ 40) : f_S_l13OwnH b = some ((b, ()), ()) := by
  have hF := fix_all (B := fun d => b_S_l13OwnH_3 d.1 d.2.1 d.2.2.1 d.2.2.2.1) (fun i => (b.take i, b, (b.length : Int), (i : Int), ())) b.length (r := (b, ()))
    (fun i hi => by
      have hx := hn _ (List.getElem_mem hi)
      show b_S_l13OwnH_3 (b.take i) b b.length i = _
      unfold b_S_l13OwnH_3
      rw [decide_eq_true (by omega : (i : Int) < (b.length : Int)), cond_true, inB_lt hi, cond_true, toNat_cast, getD_of hi, own_S _ (by omega), Option.bind_some]
      dsimp only
      rw [roomB_ok (by rw [List.length_take, List.length_cons, List.length_nil]; omega), cond_true, wrap64 (x := (i : Int) + 1) (by omega) (by omega)]
      show some (Sum.inl (b.take i ++ [b[i]], b, (b.length : Int), ((i : Int) + 1), ())) = _
      rw [List.take_append_getElem hi]
      rfl)
    (by
      show b_S_l13OwnH_3 (b.take b.length) b b.length b.length = _
      unfold b_S_l13OwnH_3
      rw [decide_eq_false (Int.lt_irrefl _), cond_false, List.take_length])
  unfold f_S_l13OwnH
  rw [show w_S_l13OwnH_3 ([], b, (b.length : Int), 0, ()) = _ from hF, Option.bind_some]

theorem l13Move_S {many : Int} {a b : HK} (ha : hunksP many a = true) (hb : hunksP many b = true) (ht : anyT a b = false) : f_S_l13Move a b = some ((mv a b, ()), ()) := by
  obtain ⟨_, _, h20, _⟩ := hunk_facts hb
  have hn : ∀ x ∈ b, List.length x.2.2.1 ≤ 40 := fun x hx => by
    obtain ⟨i, hi, rfl⟩ := List.mem_iff_getElem.1 hx
    exact (hunk_at hb hi).2.2.2.2.2.1
  have hF := fix_all (B := fun d => b_S_l13Move_3 d.1 d.2.1 d.2.2.1 d.2.2.2.1) (fun i => (a, (b.take i).map (mvX a) ++ b.drop i, (b.length : Int), (i : Int), ())) b.length (r := (mv a b, ()))
    (fun i hi => by
      obtain ⟨q1, q2, q3, q4, q5, q6, q7⟩ := hunk_at hb hi
      have hfr := free_of q3 (anyT_free ht (List.getElem_mem hi))
      show b_S_l13Move_3 a ((b.take i).map (mvX a) ++ b.drop i) b.length i = _
      unfold b_S_l13Move_3
      rw [decide_eq_true (by omega : (i : Int) < (b.length : Int)), cond_true, inB_lt (by rw [mid_len _ (by omega)]; exact hi), cond_true, toNat_cast, mid_get _ hi, place_S ha q1 (Int.le_trans q2 q5) hfr, Option.bind_some]
      dsimp only
      rw [cond_true, mid_set _ hi, wrap64 (x := (i : Int) + 1) (by omega) (by omega)]
      show some (Sum.inl (a, (b.take i).map (mvX a) ++ mvX a b[i] :: b.drop (i + 1), (b.length : Int), ((i : Int) + 1), ())) = _
      rw [mid_next _ hi]
      rfl)
    (by
      show b_S_l13Move_3 a ((b.take b.length).map (mvX a) ++ b.drop b.length) b.length b.length = _
      unfold b_S_l13Move_3 mv
      rw [decide_eq_false (Int.lt_irrefl _), cond_false, List.take_length, List.drop_length, List.append_nil])
  unfold f_S_l13Move
  rw [ownH_S h20 hn, Option.bind_some]
  dsimp only
  rw [show w_S_l13Move_3 (a, b, (b.length : Int), 0, ()) = _ from hF, Option.bind_some]

theorem touch_S {many : Int} {a b : HK} (ha : hunksP many a = true) (hb : hunksP many b = true) : f_S_l13Touch a b = some ((anyT a b, ()), ()) := by
  obtain ⟨_, _, ha20, _⟩ := hunk_facts ha
  obtain ⟨_, _, hb20, _⟩ := hunk_facts hb
  have inner : ∀ (i : Nat) (hi : i < a.length), w_S_l13Touch_5 (b, a[i], a, (a.length : Int), (i : Int), b, (b.length : Int), 0, ()) = some (if b.any (fun y => tch a[i] y) then .inr (true, ()) else .inl (b, a, (a.length : Int), (i : Int), ())) := by
    intro i hi
    obtain ⟨p1, p2, p3, p4, p5, p6, p7⟩ := hunk_at ha hi
    generalize a[i] = x at *
    exact fix_any (B := fun d => b_S_l13Touch_5 d.1 d.2.1 d.2.2.1 d.2.2.2.1 d.2.2.2.2.1 d.2.2.2.2.2.1 d.2.2.2.2.2.2.1 d.2.2.2.2.2.2.2.1) b (fun y => tch x y) (fun k => (b, x, a, (a.length : Int), (i : Int), b, (b.length : Int), (k : Int), ())) (fun _ => .inr (true, ())) (.inl (b, a, (a.length : Int), (i : Int), ()))
      (fun k hk hq => by
        obtain ⟨q1, q2, q3, q4, q5, q6, q7⟩ := hunk_at hb hk
        show b_S_l13Touch_5 b x a a.length i b b.length k = _
        unfold b_S_l13Touch_5
        rw [decide_eq_true (by omega : (k : Int) < (b.length : Int)), cond_true, inB_lt hk, cond_true, toNat_cast, getD_of hk]
        generalize b[k] = y at *
        rw [plW q1 q3 q4 q5, plW p1 p3 p4 p5]
        unfold tch at hq
        cases c : decide (x.1 ≤ y.1 + y.2.1)
        · rw [cond_false, Option.bind_some]
          dsimp only
          rw [cond_false, wrap64 (x := (k : Int) + 1) (by omega) (by omega)]
          rfl
        · rw [c, Bool.true_and] at hq
          rw [cond_true, hq, Option.bind_some]
          dsimp only
          rw [cond_false, wrap64 (x := (k : Int) + 1) (by omega) (by omega)]
          rfl)
      (fun k hk hq => by
        obtain ⟨q1, q2, q3, q4, q5, q6, q7⟩ := hunk_at hb hk
        show b_S_l13Touch_5 b x a a.length i b b.length k = _
        unfold b_S_l13Touch_5
        rw [decide_eq_true (by omega : (k : Int) < (b.length : Int)), cond_true, inB_lt hk, cond_true, toNat_cast, getD_of hk]
        generalize b[k] = y at *
        rw [plW q1 q3 q4 q5, plW p1 p3 p4 p5]
        unfold tch at hq
        rw [Bool.and_eq_true] at hq
        rw [hq.1, hq.2, cond_true, Option.bind_some]
        rfl)
      (by
        show b_S_l13Touch_5 b x a a.length i b b.length b.length = _
        unfold b_S_l13Touch_5
        rw [decide_eq_false (Int.lt_irrefl _), cond_false])
  have outer := fix_any (B := fun d => b_S_l13Touch_2 d.1 d.2.1 d.2.2.1 d.2.2.2.1) a (fun x => b.any fun y => tch x y) (fun i => (b, a, (a.length : Int), (i : Int), ())) (fun _ => .inr (true, ())) (.inl ())
    (fun i hi hq => by
      show b_S_l13Touch_2 b a a.length i = _
      unfold b_S_l13Touch_2
      rw [decide_eq_true (by omega : (i : Int) < (a.length : Int)), cond_true, inB_lt hi, cond_true, toNat_cast, getD_of hi, inner i hi, if_neg (by rw [hq]; simp), Option.bind_some]
      dsimp only
      rw [wrap64 (x := (i : Int) + 1) (by omega) (by omega)]
      rfl)
    (fun i hi hq => by
      show b_S_l13Touch_2 b a a.length i = _
      unfold b_S_l13Touch_2
      rw [decide_eq_true (by omega : (i : Int) < (a.length : Int)), cond_true, inB_lt hi, cond_true, toNat_cast, getD_of hi, inner i hi, if_pos hq, Option.bind_some])
    (by
      show b_S_l13Touch_2 b a a.length a.length = _
      unfold b_S_l13Touch_2
      rw [decide_eq_false (Int.lt_irrefl _), cond_false])
  unfold f_S_l13Touch
  rw [show w_S_l13Touch_2 (b, a, (a.length : Int), 0, ()) = _ from outer, Option.bind_some]
  unfold anyT
  cases a.any fun x => b.any fun y => tch x y <;> rfl

theorem touch_I {many : Int} {a b : HK} (ha : hunksP many a = true) (hb : hunksP many b = true) {k i : Nat} (hk : k < a.length) (hi : i < b.length) : f_I_touch a[k] b[i] = some ((tch a[k] b[i], ()), ()) := by
  obtain ⟨p1, p2, p3, p4, p5, p6, p7⟩ := hunk_at ha hk
  obtain ⟨q1, q2, q3, q4, q5, q6, q7⟩ := hunk_at hb hi
  unfold f_I_touch tch
  rw [plW q1 q3 q4 q5, plW p1 p3 p4 p5]
  cases decide (a[k].1 ≤ b[i].1 + b[i].2.1) <;> rfl

theorem moves_loop {l m : TX} {a b : HK} (hsa : SmH a) (ha : hunksP (l.length : Int) a = true) (hb : hunksP (l.length : Int) b = true) :
    w_I_MoveHunks_7 (l, a, m, b, b, (b.length : Int), 0, ()) = some (if b.any (fun y => a.any fun x => tch x y) then .inr ([], false, ()) else .inl (m, mv a b, ())) := by
  obtain ⟨_, _, ha20, _⟩ := hunk_facts ha
  obtain ⟨_, _, hb20, _⟩ := hunk_facts hb
  have inner : ∀ (i : Nat) (hi : i < b.length) (out : HK) (cc ff : Bool), ∃ n : Nat, w_I_MoveHunks_93_2 (l, a, m, out, (i : Int), b[i], b, (b.length : Int), (i : Int), cc, (i : Int), b[i], b[i], a, a, ff, a, a, (a.length : Int), 0, ()) =
      some (if a.any (fun x => tch x b[i]) then .inr (l, a, m, out, (i : Int), b[i], b, (b.length : Int), (i : Int), cc, (i : Int), b[i], b[i], a, a, ff, a, (n : Int), ()) else .inl (l, a, m, out, (i : Int), b[i], b, (b.length : Int), (i : Int), cc, (i : Int), b[i], b[i], a, a, ff, a, ())) := by
    intro i hi out cc ff
    refine ⟨_, fix_any (B := fun d => b_I_MoveHunks_93_2 d.1 d.2.1 d.2.2.1 d.2.2.2.1 d.2.2.2.2.1 d.2.2.2.2.2.1 d.2.2.2.2.2.2.1 d.2.2.2.2.2.2.2.1 d.2.2.2.2.2.2.2.2.1 d.2.2.2.2.2.2.2.2.2.1 d.2.2.2.2.2.2.2.2.2.2.1 d.2.2.2.2.2.2.2.2.2.2.2.1 d.2.2.2.2.2.2.2.2.2.2.2.2.1 d.2.2.2.2.2.2.2.2.2.2.2.2.2.1 d.2.2.2.2.2.2.2.2.2.2.2.2.2.2.1 d.2.2.2.2.2.2.2.2.2.2.2.2.2.2.2.1 d.2.2.2.2.2.2.2.2.2.2.2.2.2.2.2.2.1 d.2.2.2.2.2.2.2.2.2.2.2.2.2.2.2.2.2.1 d.2.2.2.2.2.2.2.2.2.2.2.2.2.2.2.2.2.2.1 d.2.2.2.2.2.2.2.2.2.2.2.2.2.2.2.2.2.2.2.1) a (fun x => tch x b[i]) (fun k => (l, a, m, out, (i : Int), b[i], b, (b.length : Int), (i : Int), cc, (i : Int), b[i], b[i], a, a, ff, a, a, (a.length : Int), (k : Int), ()))
      (fun n => .inr (l, a, m, out, (i : Int), b[i], b, (b.length : Int), (i : Int), cc, (i : Int), b[i], b[i], a, a, ff, a, (n : Int), ())) (.inl (l, a, m, out, (i : Int), b[i], b, (b.length : Int), (i : Int), cc, (i : Int), b[i], b[i], a, a, ff, a, ()))
      (fun k hk hq => ?_) (fun k hk hq => ?_) ?_⟩
    · show b_I_MoveHunks_93_2 l a m out i b[i] b b.length i cc i b[i] b[i] a a ff a a a.length k = _
      unfold b_I_MoveHunks_93_2
      rw [decide_eq_true (by omega : (k : Int) < (a.length : Int)), cond_true, inB_lt hk, cond_true, toNat_cast, getD_of hk, touch_I ha hb hk hi, Option.bind_some]
      dsimp only
      rw [hq, cond_false, wrap64 (x := (k : Int) + 1) (by omega) (by omega)]
      rfl
    · show b_I_MoveHunks_93_2 l a m out i b[i] b b.length i cc i b[i] b[i] a a ff a a a.length k = _
      unfold b_I_MoveHunks_93_2
      rw [decide_eq_true (by omega : (k : Int) < (a.length : Int)), cond_true, inB_lt hk, cond_true, toNat_cast, getD_of hk, touch_I ha hb hk hi, Option.bind_some]
      dsimp only
      rw [hq, cond_true]
    · show b_I_MoveHunks_93_2 l a m out i b[i] b b.length i cc i b[i] b[i] a a ff a a a.length a.length = _
      unfold b_I_MoveHunks_93_2
      rw [decide_eq_false (Int.lt_irrefl _), cond_false]
  have outer := fix_any (B := fun d => b_I_MoveHunks_7 d.1 d.2.1 d.2.2.1 d.2.2.2.1 d.2.2.2.2.1 d.2.2.2.2.2.1 d.2.2.2.2.2.2.1) b (fun y => a.any fun x => tch x y) (fun i => (l, a, m, (b.take i).map (mvX a) ++ b.drop i, b, (b.length : Int), (i : Int), ())) (fun _ => .inr ([], false, ())) (.inl (m, mv a b, ()))
    (fun i hi hq => by
      obtain ⟨q1, q2, q3, q4, q5, q6, q7⟩ := hunk_at hb hi
      obtain ⟨n, hin⟩ := inner i hi ((b.take i).map (mvX a) ++ b.drop i) true false
      show b_I_MoveHunks_7 l a m ((b.take i).map (mvX a) ++ b.drop i) b b.length i = _
      unfold b_I_MoveHunks_7
      rw [decide_eq_true (by omega : (i : Int) < (b.length : Int)), cond_true, inB_lt hi, cond_true, toNat_cast, getD_of hi, hin, if_neg (by rw [hq]; simp), Option.bind_some]
      dsimp only
      rw [Option.bind_some]
      dsimp only
      rw [show decide ((-1 : Int) ≥ 0) = false from rfl, cond_false, place_I hsa ha q1 q2 (free_of q3 hq), Option.bind_some]
      dsimp only
      rw [Bool.not_true, cond_false, inB_lt (by rw [mid_len _ (by omega)]; exact hi), cond_true, toNat_cast, mid_get _ hi, mid_set _ hi, wrap64 (x := (i : Int) + 1) (by omega) (by omega)]
      show some (Sum.inl (l, a, m, (b.take i).map (mvX a) ++ mvX a b[i] :: b.drop (i + 1), b, (b.length : Int), ((i : Int) + 1), ())) = _
      rw [mid_next _ hi]
      rfl)
    (fun i hi hq => by
      obtain ⟨n, hin⟩ := inner i hi ((b.take i).map (mvX a) ++ b.drop i) true false
      show b_I_MoveHunks_7 l a m ((b.take i).map (mvX a) ++ b.drop i) b b.length i = _
      unfold b_I_MoveHunks_7
      rw [decide_eq_true (by omega : (i : Int) < (b.length : Int)), cond_true, inB_lt hi, cond_true, toNat_cast, getD_of hi, hin, if_pos hq, Option.bind_some]
      dsimp only
      rw [Option.bind_some]
      dsimp only
      rw [decide_eq_true (by omega : (n : Int) ≥ 0), cond_true])
    (by
      show b_I_MoveHunks_7 l a m ((b.take b.length).map (mvX a) ++ b.drop b.length) b b.length b.length = _
      unfold b_I_MoveHunks_7 mv
      rw [decide_eq_false (Int.lt_irrefl _), cond_false, List.take_length, List.drop_length, List.append_nil])
  rw [← outer]
  rfl

def bothOk (l : TX) (a b : HK) : Bool := patchOk l a && patchOk l b
def mvOk (l : TX) (a b : HK) : Bool := bothOk l a b && (!anyT a b && hunksP ((patchL l a).length : Int) (mv a b))
def mvR (l : TX) (a b : HK) : HK := bif mvOk l a b then mv a b else []

theorem both_at {l : TX} {a b : HK} (h : bothOk l a b = true) : hunksP (l.length : Int) a = true ∧ hunksP (l.length : Int) b = true ∧ patchOk l a = true ∧ patchOk l b = true := by
  unfold bothOk at h
  rw [Bool.and_eq_true] at h
  have h1 := h.1
  have h2 := h.2
  unfold patchOk at h1 h2
  simp only [Bool.and_eq_true] at h1 h2
  exact ⟨h1.2.1, h2.2.1, h.1, h.2⟩

theorem move_I {l : TX} {a b : HK} (hl : Sm l) (ha : SmH a) (hb : SmH b) : f_I_MoveHunks l a b = some ((mvR l a b, mvOk l a b, ()), ()) := by
  unfold f_I_MoveHunks mvR mvOk
  rw [patch_I hl ha, Option.bind_some, patch_I hl hb, Option.bind_some]
  dsimp only
  cases hB : bothOk l a b
  · have hB' := hB
    unfold bothOk at hB'
    cases h1 : patchOk l a
    · rfl
    · rw [h1, Bool.true_and] at hB'
      rw [hB']
      rfl
  · obtain ⟨g1, g2, g3, g4⟩ := both_at hB
    obtain ⟨_, _, h20, _⟩ := hunk_facts g2
    have hn : ∀ x ∈ b, List.length x.2.2.1 ≤ 40 := fun x hx => by
      obtain ⟨i, hi, rfl⟩ := List.mem_iff_getElem.1 hx
      exact (hunk_at g2 hi).2.2.2.2.2.1
    have hp : patchR l a = patchL l a := by unfold patchR; rw [g3, cond_true]
    rw [g3, g4, Bool.not_true, cond_false, Option.bind_some]
    dsimp only
    rw [cond_false, copied_I h20 hn, Option.bind_some]
    dsimp only
    rw [moves_loop ha g1 g2, any_swap, hp]
    cases anyT a b
    · rw [if_neg (by simp), Option.bind_some]
      dsimp only
      rw [hunks_I _ _ (mv_sm hb), Option.bind_some]
      dsimp only
      cases hunksP ((patchL l a).length : Int) (mv a b) <;> rfl
    · rfl

theorem both_S {l : TX} {a b : HK} (hl : Sm l) (ha : SmH a) (hb : SmH b) : f_S_l13Both l a b = some ((bothOk l a b, ()), ()) := by
  unfold f_S_l13Both bothOk
  rw [patch_S hl ha, Option.bind_some, patch_S hl hb, Option.bind_some]
  dsimp only
  cases patchOk l a <;> rfl

theorem move_S {l : TX} {a b : HK} (hl : Sm l) (ha : SmH a) (hb : SmH b) : f_S_MoveHunks l a b = some ((mvR l a b, mvOk l a b, ()), ()) := by
  unfold f_S_MoveHunks mvR mvOk
  rw [both_S hl ha hb, Option.bind_some]
  dsimp only
  cases hB : bothOk l a b
  · rfl
  · obtain ⟨g1, g2, g3, g4⟩ := both_at hB
    obtain ⟨_, _, hlen⟩ := patched_I hl ha g1
    rw [Bool.not_true, cond_false, touch_S g1 g2, Option.bind_some, Option.bind_some]
    dsimp only
    cases hT : anyT a b
    · rw [cond_false, l13Move_S g1 g2 hT, Option.bind_some, patched_S hl ha g1, Option.bind_some]
      dsimp only
      rw [hunks_S _ _ (mv_sm hb) (by omega) (by omega), Option.bind_some]
      dsimp only
      cases hunksP ((patchL l a).length : Int) (mv a b) <;> rfl
    · rfl

theorem mvOk_at {l : TX} {a b : HK} (h : mvOk l a b = true) : bothOk l a b = true ∧ hunksP ((patchL l a).length : Int) (mv a b) = true := by
  unfold mvOk at h
  simp only [Bool.and_eq_true] at h
  exact ⟨h.1, h.2.2⟩

def nxL (l : TX) (a b : HK) : TX := patchL (patchL l a) (mv a b)
def nxOk (l : TX) (a b : HK) : Bool := patchOk (patchL l a) (mv a b)
theorem next_at {l : TX} {a b : HK} (hl : Sm l) (ha : SmH a) (hb : SmH b) (h : mvOk l a b = true) :
    f_I_patched l a = some ((patchL l a, ()), ()) ∧ f_S_l2Patch l a = some ((patchL l a, ()), ()) ∧ f_I_Patch (patchL l a) (mvR l a b) = some ((bif nxOk l a b then nxL l a b else [], nxOk l a b, ()), ()) ∧
    f_S_Patch (patchL l a) (mvR l a b) = some ((bif nxOk l a b then nxL l a b else [], nxOk l a b, ()), ()) ∧ (nxL l a b).length ≤ 1640 := by
  obtain ⟨h1, h2⟩ := mvOk_at h
  obtain ⟨g1, g2, g3, g4⟩ := both_at h1
  obtain ⟨p1, p2, p3⟩ := patched_I hl ha g1
  have hm : mvR l a b = mv a b := by unfold mvR; rw [h, cond_true]
  rw [hm]
  exact ⟨p1, patched_S hl ha g1, patch_I p2 (mv_sm hb), patch_S p2 (mv_sm hb), (patched_I p2 (mv_sm hb) h2).2.2⟩

def inOk (l : TX) (a b : HK) : Bool := mvOk l a b && nxOk l a b
def inR (l : TX) (a b : HK) : TX := bif mvOk l a b then (bif nxOk l a b then nxL l a b else []) else []
theorem inTurn_I {l : TX} {a b : HK} (hl : Sm l) (ha : SmH a) (hb : SmH b) : f_I_inTurn l a b = some ((inR l a b, inOk l a b, ()), ()) := by
  unfold f_I_inTurn inR inOk
  rw [move_I hl ha hb, Option.bind_some]
  dsimp only
  cases hk : mvOk l a b
  · rfl
  · obtain ⟨n1, n2, n3, n4, n5⟩ := next_at hl ha hb hk
    rw [Bool.not_true, cond_false, n1, Option.bind_some]
    dsimp only
    rw [n3, Option.bind_some]
    rfl

def csB (l : TX) (a b : HK) : Bool := (inOk l a b && inOk l b a) && decide (nxL l a b = nxL l b a)
def csR (l : TX) (a b : HK) : Bool := bothOk l a b && csB l a b

theorem canSwap_I {l : TX} {a b : HK} (hl : Sm l) (ha : SmH a) (hb : SmH b) : f_I_CanSwap l a b = some ((csR l a b, bothOk l a b, ()), ()) := by
  unfold f_I_CanSwap csR
  rw [patch_I hl ha, Option.bind_some, patch_I hl hb, Option.bind_some]
  dsimp only
  cases hB : bothOk l a b
  · have hB' := hB
    unfold bothOk at hB'
    cases h1 : patchOk l a
    · rfl
    · rw [h1, Bool.true_and] at hB'
      rw [hB']
      rfl
  · obtain ⟨g1, g2, g3, g4⟩ := both_at hB
    rw [g3, g4, Bool.not_true, cond_false, Option.bind_some]
    dsimp only
    rw [cond_false, inTurn_I hl ha hb, Option.bind_some, inTurn_I hl hb ha, Option.bind_some]
    dsimp only
    unfold csB
    cases h1 : inOk l a b
    · rfl
    · cases h2 : inOk l b a
      · rfl
      · have e1 := h1
        have e2 := h2
        unfold inOk at e1 e2
        rw [Bool.and_eq_true] at e1 e2
        obtain ⟨_, _, _, _, n5⟩ := next_at hl ha hb e1.1
        obtain ⟨_, _, _, _, m5⟩ := next_at hl hb ha e2.1
        have i1 : inR l a b = nxL l a b := by unfold inR; rw [e1.1, e1.2]; rfl
        have i2 : inR l b a = nxL l b a := by unfold inR; rw [e2.1, e2.2]; rfl
        rw [i1, i2, cond_true, cond_true, equal_I _ _ (by omega) (by omega), Option.bind_some]
        rfl

theorem canSwap_S {l : TX} {a b : HK} (hl : Sm l) (ha : SmH a) (hb : SmH b) : f_S_CanSwap l a b = some ((csR l a b, bothOk l a b, ()), ()) := by
  unfold f_S_CanSwap csR
  rw [both_S hl ha hb, Option.bind_some]
  dsimp only
  cases hB : bothOk l a b
  · rfl
  · rw [Bool.not_true, cond_false, move_S hl ha hb, Option.bind_some, move_S hl hb ha, Option.bind_some]
    dsimp only
    unfold csB inOk
    cases h1 : mvOk l a b
    · rfl
    · cases h2 : mvOk l b a
      · cases nxOk l a b <;> rfl
      · obtain ⟨n1, n2, n3, n4, n5⟩ := next_at hl ha hb h1
        obtain ⟨m1, m2, m3, m4, m5⟩ := next_at hl hb ha h2
        rw [Bool.not_true, cond_false, Option.bind_some]
        dsimp only
        rw [cond_false, n2, Option.bind_some]
        dsimp only
        rw [n4, Option.bind_some, m2, Option.bind_some]
        dsimp only
        rw [m4, Option.bind_some]
        dsimp only
        cases nxOk l a b
        · rfl
        · cases nxOk l b a
          · rfl
          · rw [cond_true, cond_true, cond_true, cond_true, sameT_S _ _ (by omega) (by omega), Option.bind_some]
            rfl
end R
end

section
/- The drawn inputs: choices, lines, hunks; what is drawn is small. -/
open Go Go.Dn
namespace R
set_option linter.unusedVariables false

abbrev Cur := PV Y_spec_l1Cur
structure CurOk (K : Int) (c : Cur) : Prop where
  by_ : ∀ x ∈ (c.1 : List Int), 0 ≤ x ∧ x ≤ 255
  a0 : (0 : Int) ≤ c.2.1
  a1 : (c.2.1 : Int) ≤ K
theorem CurOk.up {K K' : Int} {c : Cur} (h : CurOk K c) (hk : K ≤ K') : CurOk K' c := ⟨h.by_, h.a0, Int.le_trans h.a1 hk⟩

theorem wrapU {n : Nat} (h : n ≤ 255) : IntKind.wrap .u64 (n : Int) = n := by
  simp [IntKind.wrap, IntKind.min, IntKind.max, IntKind.signed, IntKind.bits]
  omega
theorem and255 (X : Int) : (BitVec.ofInt (IntKind.bits .u64) X &&& BitVec.ofInt (IntKind.bits .u64) 255).toNat ≤ 255 := by
  rw [BitVec.toNat_and]
  exact Nat.le_trans Nat.and_le_right (by decide)
theorem and255w (X : Int) : 0 ≤ IntKind.wrap .i64 (IntKind.wrap .u64 ((BitVec.ofInt (IntKind.bits .u64) X &&& BitVec.ofInt (IntKind.bits .u64) 255).toNat : Int)) ∧ IntKind.wrap .i64 (IntKind.wrap .u64 ((BitVec.ofInt (IntKind.bits .u64) X &&& BitVec.ofInt (IntKind.bits .u64) 255).toNat : Int)) ≤ 255 := by
  have h := and255 X
  generalize (BitVec.ofInt (IntKind.bits .u64) X &&& BitVec.ofInt (IntKind.bits .u64) 255).toNat = n at *
  rw [wrapU h, wrap64 (by omega) (by omega)]
  omega

theorem next_ok {K : Int} {c : Cur} (h : CurOk K c) (hK : K ≤ 4611686018427387904) : ∃ (r : Int) (c' : Cur), f_S_l1Cur_next c = some ((r, ()), (c', ())) ∧ 0 ≤ r ∧ r ≤ 255 ∧ CurOk (K + 1) c' := by
  obtain ⟨code, at_, seed, u⟩ := c
  obtain ⟨h1, h2, h3⟩ := h
  have h1 : ∀ x ∈ (code : List Int), 0 ≤ x ∧ x ≤ 255 := h1
  have h2 : (0 : Int) ≤ at_ := h2
  have h3 : (at_ : Int) ≤ K := h3
  have e : ∀ a : Int, 0 ≤ a → a ≤ K → IntKind.wrap .i64 (a + 1) = a + 1 ∧ 0 ≤ a + 1 ∧ a + 1 ≤ K + 1 := fun a _ _ => ⟨wrap64 (by omega) (by omega), by omega, by omega⟩
  obtain ⟨e1, e2, e3⟩ := e _ h2 h3
  have fin : ∀ (b : Int), 0 ≤ b → b ≤ 255 → ∃ (r : Int) (c' : Cur), (bif (decide ((IntKind.wrap .i64 (at_ + 1)) ≤ (List.length code : Int))) then
      some ((b, ()), ((code, ((IntKind.wrap .i64 (at_ + 1)), ((IntKind.wrap .u64 ((IntKind.wrap .u64 ((IntKind.wrap .u64 (seed * 6364136223846793005)) + (IntKind.wrap .u64 b))) + 1442695040888963407)), u))), ()))
    else
      bif decide ((0 : Int) ≤ 40) then
        some (((IntKind.wrap .i64 (IntKind.wrap .u64 ((BitVec.ofInt (IntKind.bits .u64) ((IntKind.wrap .u64 ((IntKind.wrap .u64 ((IntKind.wrap .u64 (seed * 6364136223846793005)) + (IntKind.wrap .u64 b))) + 1442695040888963407)).fdiv (2 ^ (min (40 : Int).toNat (IntKind.bits .u64)))) &&& BitVec.ofInt (IntKind.bits .u64) 255).toNat : Int))), ()), ((code, ((IntKind.wrap .i64 (at_ + 1)), ((IntKind.wrap .u64 ((IntKind.wrap .u64 ((IntKind.wrap .u64 (seed * 6364136223846793005)) + (IntKind.wrap .u64 b))) + 1442695040888963407)), u))), ()))
      else
        none : Option (PVs [(.int .i64)] × PVs [Y_spec_l1Cur])) = some ((r, ()), (c', ())) ∧ 0 ≤ r ∧ r ≤ 255 ∧ CurOk (K + 1) c' := by
    intro b b0 b1
    cases decide ((IntKind.wrap .i64 (at_ + 1)) ≤ (List.length code : Int))
    · rw [cond_false, decide_eq_true (by omega : (0 : Int) ≤ 40), cond_true]
      refine ⟨_, _, rfl, (and255w _).1, (and255w _).2, h1, ?_, ?_⟩
      · show 0 ≤ IntKind.wrap .i64 (at_ + 1); rw [e1]; exact e2
      · show IntKind.wrap .i64 (at_ + 1) ≤ K + 1; rw [e1]; exact e3
    · rw [cond_true]
      refine ⟨_, _, rfl, b0, b1, h1, ?_, ?_⟩
      · show 0 ≤ IntKind.wrap .i64 (at_ + 1); rw [e1]; exact e2
      · show IntKind.wrap .i64 (at_ + 1) ≤ K + 1; rw [e1]; exact e3
  unfold f_S_l1Cur_next
  dsimp only
  cases hc : decide (at_ < (List.length code : Int))
  · rw [cond_false, Option.bind_some]
    exact fin 0 (by omega) (by omega)
  · have hlt : at_ < (List.length code : Int) := of_decide_eq_true hc
    obtain ⟨i, rfl⟩ : ∃ i : Nat, at_ = (i : Int) := ⟨at_.toNat, (Int.toNat_of_nonneg h2).symm⟩
    have hi : i < List.length code := Int.ofNat_lt.1 hlt
    obtain ⟨b0, b1⟩ := h1 _ (List.getElem_mem hi)
    rw [cond_true, inB_lt hi, cond_true, Option.bind_some]
    dsimp only
    rw [toNat_cast, getD_of hi]
    have e4 : ∀ b : Int, 0 ≤ b → b ≤ 255 → IntKind.wrap .i64 b = b := fun b _ _ => wrap64 (by omega) (by omega)
    rw [e4 _ b0 b1]
    exact fin _ b0 b1

theorem pick_ok {K n : Int} {c : Cur} (h : CurOk K c) (hK : K ≤ 4611686018427387000) (hn : n ≤ 1000000) : ∃ (r : Int) (c' : Cur), f_S_l1Cur_pick c n = some ((r, ()), (c', ())) ∧ 0 ≤ r ∧ (1 ≤ n → r < n) ∧ (n ≤ 1 → r = 0) ∧ CurOk (K + 2) c' := by
  unfold f_S_l1Cur_pick
  by_cases h1 : n ≤ 1
  · rw [decide_eq_true h1, cond_true]
    exact ⟨0, c, rfl, Int.le_refl _, fun _ => by omega, fun _ => rfl, h.up (by omega)⟩
  · rw [decide_eq_false h1, cond_false]
    obtain ⟨r, c1, q1, q2, q3, q4⟩ := next_ok h (by omega)
    rw [q1, Option.bind_some]
    dsimp only
    have fin : ∀ (x : Int) (c2 : Cur), 0 ≤ x → CurOk (K + 2) c2 → ∃ (r : Int) (c' : Cur), (bif n == 0 then none else some ((x.tmod n, ()), (c2, ())) : Option (PVs [(.int .i64)] × PVs [Y_spec_l1Cur])) = some ((r, ()), (c', ())) ∧ 0 ≤ r ∧ (1 ≤ n → r < n) ∧ (n ≤ 1 → r = 0) ∧ CurOk (K + 2) c' := by
      intro x c2 hx hc
      rw [show (n == 0) = false from by rw [beq_eq_false_iff_ne]; omega, cond_false]
      exact ⟨_, _, rfl, Int.tmod_nonneg n hx, fun _ => Int.tmod_lt_of_pos x (by omega), fun q => absurd q h1, hc⟩
    by_cases h2 : n > 200
    · obtain ⟨r2, c2, p1, p2, p3, p4⟩ := next_ok q4 (by omega)
      rw [decide_eq_true h2, cond_true, p1, Option.bind_some, Option.bind_some]
      dsimp only
      rw [wrap64 (x := r * 256) (by omega) (by omega), wrap64 (x := r * 256 + r2) (by omega) (by omega)]
      exact fin _ _ (by omega) (p4.up (by omega))
    · rw [decide_eq_false h2, cond_false, Option.bind_some]
      exact fin _ _ q2 (q4.up (by omega))

theorem one_ok {K n : Int} {c : Cur} (h : CurOk K c) (hK : K ≤ 4611686018427387000) (hn : n ≤ 1000000) : ∃ (r : Bool) (c' : Cur), f_S_l1Cur_one c n = some ((r, ()), (c', ())) ∧ CurOk (K + 2) c' := by
  obtain ⟨r, c1, q1, _, _, _, q4⟩ := pick_ok h hK hn
  unfold f_S_l1Cur_one
  rw [q1, Option.bind_some]
  exact ⟨_, _, rfl, q4⟩

def wl : List (List UInt8) := [[97], [98], [99], [100], [], [46], [46, 46], [111, 110, 101, 32, 116, 119, 111], [43, 120], [45, 121], [92, 32, 122], [64, 64]]
theorem wl_sm : ∀ i < 12, (wl.getD i []).length ≤ 8 := by decide
def wl3 : List (List UInt8) := [[97], [101, 110, 100], [46]]
theorem wl3_sm : ∀ i < 3, 1 ≤ (wl3.getD i []).length ∧ (wl3.getD i []).length ≤ 8 := by decide

theorem line_ok {K : Int} {c : Cur} (h : CurOk K c) (hK : K ≤ 4611686018427387000) : ∃ (s : List UInt8) (c' : Cur), f_S_l1Cur_line c = some ((s, ()), (c', ())) ∧ s.length ≤ 8 ∧ CurOk (K + 2) c' := by
  obtain ⟨r, c1, q1, q2, q3, _, q4⟩ := pick_ok (n := 12) h hK (by omega)
  have e : f_S_l1Cur_line c = (f_S_l1Cur_pick c 12).bind fun r1 => bif inB r1.1.1 12 then some ((wl.getD r1.1.1.toNat [], ()), (r1.2.1, ())) else none := rfl
  obtain ⟨i, rfl⟩ : ∃ i : Nat, r = (i : Int) := ⟨r.toNat, (Int.toNat_of_nonneg q2).symm⟩
  have hi : i < 12 := by have := q3 (by omega); omega
  rw [e, q1, Option.bind_some]
  dsimp only
  rw [show inB (i : Int) 12 = true from inB_lt hi, cond_true, toNat_cast]
  exact ⟨_, _, rfl, wl_sm i hi, q4⟩

def SmL (l : TX) : Prop := ∀ s ∈ l, 1 ≤ s.length ∧ s.length ≤ 9
theorem SmL.snoc {l : TX} {s : List UInt8} (h : SmL l) (h1 : 1 ≤ s.length) (h2 : s.length ≤ 9) : SmL (l ++ [s]) := by
  intro x hx
  rcases List.mem_append.1 hx with hx | hx
  · exact h x hx
  · obtain rfl := List.mem_singleton.1 hx
    exact ⟨h1, h2⟩
theorem SmL.sm {l : TX} (h : SmL l) (hl : l.length ≤ 1000) : Sm l := ⟨by omega, fun s hs => by have := h s hs; omega⟩

theorem text_loop : ∀ (n : Nat) {K : Int} {c : Cur} {l : TX}, CurOk K c → K + 2 * (n : Int) ≤ 4611686018427380000 → n ≤ 100 → l.length + n ≤ 500 → SmL l → ∃ (c' : Cur) (l' : TX), w_S_l1Cur_text_3 (c, l, (n : Int), ()) = some (c', l', ()) ∧ l'.length = l.length + n ∧ SmL l' ∧ CurOk (K + 2 * n) c'
  | 0, K, c, l, h, hK, hn, hl, hs => by
    refine ⟨c, l, fix_end (B := fun d => b_S_l1Cur_text_3 d.1 d.2.1 d.2.2.1) ?_, rfl, hs, h.up (by omega)⟩
    show b_S_l1Cur_text_3 c l 0 = _
    unfold b_S_l1Cur_text_3
    rw [decide_eq_false (by omega : ¬ ((0 : Int) > 0)), cond_false]
  | n + 1, K, c, l, h, hK, hn, hl, hs => by
    obtain ⟨s, c1, q1, q2, q3⟩ := line_ok h (by omega)
    obtain ⟨c', l', p1, p2, p3, p4⟩ := text_loop n (c := c1) (l := l ++ [s ++ [10]]) q3 (by omega) (by omega) (by simp; omega) (hs.snoc (by simp) (by simp; omega))
    refine ⟨c', l', ?_, by rw [p2]; simp; omega, p3, p4.up (by omega)⟩
    rw [← p1]
    refine fix_go (B := fun d => b_S_l1Cur_text_3 d.1 d.2.1 d.2.2.1) ?_
    show b_S_l1Cur_text_3 c l ((n + 1 : Nat) : Int) = _
    unfold b_S_l1Cur_text_3
    rw [decide_eq_true (by omega : ((n + 1 : Nat) : Int) > 0), cond_true, q1, Option.bind_some]
    dsimp only
    rw [decide_eq_true (by rw [List.length_cons, List.length_nil]; omega), cond_true, roomB_ok (by rw [List.length_cons, List.length_nil]; omega), cond_true, show IntKind.wrap .i64 (((n + 1 : Nat) : Int) - 1) = (n : Int) from by rw [wrap64 (by omega) (by omega)]; omega]

theorem text_ok {K : Int} {c : Cur} (h : CurOk K c) (hK : K ≤ 4611686018427370000) : ∃ (l : TX) (c' : Cur), f_S_l1Cur_text c = some ((l, ()), (c', ())) ∧ l.length ≤ 9 ∧ SmL l ∧ CurOk (K + 30) c' := by
  obtain ⟨r, c1, q1, q2, q3, _, q4⟩ := pick_ok (n := 9) h (by omega) (by omega)
  obtain ⟨n, rfl⟩ : ∃ n : Nat, r = (n : Int) := ⟨r.toNat, (Int.toNat_of_nonneg q2).symm⟩
  have hn : n < 9 := by have := q3 (by omega); omega
  obtain ⟨c2, l, p1, p2, p3, p4⟩ := text_loop n (l := []) q4 (by omega) (by omega) (by simp; omega) (fun s hs => by cases hs)
  obtain ⟨b, c3, o1, o2⟩ := one_ok (n := 5) p4 (by omega) (by omega)
  have hl : l.length ≤ 8 := by rw [p2]; simp; omega
  unfold f_S_l1Cur_text
  rw [q1, Option.bind_some]
  dsimp only
  rw [p1, Option.bind_some]
  dsimp only
  rw [o1, Option.bind_some]
  dsimp only
  cases b
  · rw [cond_false, Option.bind_some]
    exact ⟨_, _, rfl, by show List.length l ≤ 9; omega, p3, o2.up (by omega)⟩
  · obtain ⟨r4, c4, s1, s2, s3, _, s4⟩ := pick_ok (n := 3) o2 (by omega) (by omega)
    obtain ⟨i, rfl⟩ : ∃ i : Nat, r4 = (i : Int) := ⟨r4.toNat, (Int.toNat_of_nonneg s2).symm⟩
    have hi : i < 3 := by have := s3 (by omega); omega
    rw [cond_true, show ([[97], [101, 110, 100], [46]].length : Int) = 3 from rfl, s1, Option.bind_some]
    dsimp only
    rw [show inB (i : Int) [[97], [101, 110, 100], [46]].length = true from inB_lt hi, cond_true, roomB_ok (by rw [List.length_cons, List.length_nil]; omega), cond_true, Option.bind_some, toNat_cast]
    have hw := wl3_sm i hi
    exact ⟨_, _, rfl, by rw [List.length_append, List.length_cons, List.length_nil]; omega, p3.snoc hw.1 (by have := hw.2; show List.length (wl3.getD i []) ≤ 9; omega), s4.up (by omega)⟩

def SmX (x : PV Y_impl_Hunk) : Prop := List.length x.2.2.1 ≤ 200 ∧ SmL x.2.2.1

theorem new_loop : ∀ (n : Nat) {K : Int} {c : Cur} {x : PV Y_impl_Hunk} (l : TX) (out : HK) (p len : Int) (bb : Bool), CurOk K c → K + 2 * (n : Int) ≤ 4611686018427380000 → n ≤ 10 → List.length x.2.2.1 + n ≤ 100 → SmL x.2.2.1 →
    ∃ (c' : Cur) (x' : PV Y_impl_Hunk), w_S_l1Cur_hunks_6 (c, l, out, p, x, (n : Int), len, bb, ()) = some (c', l, out, p, x', len, bb, ()) ∧ x'.1 = x.1 ∧ x'.2.1 = x.2.1 ∧ List.length x'.2.2.1 = List.length x.2.2.1 + n ∧ SmL x'.2.2.1 ∧ CurOk (K + 2 * n) c'
  | 0, K, c, x, l, out, p, len, bb, h, hK, hn, hl, hs => by
    refine ⟨c, x, fix_end (B := fun d => b_S_l1Cur_hunks_6 d.1 d.2.1 d.2.2.1 d.2.2.2.1 d.2.2.2.2.1 d.2.2.2.2.2.1 d.2.2.2.2.2.2.1 d.2.2.2.2.2.2.2.1) ?_, rfl, rfl, rfl, hs, h.up (by omega)⟩
    show b_S_l1Cur_hunks_6 c l out p x 0 len bb = _
    unfold b_S_l1Cur_hunks_6
    rw [decide_eq_false (by omega : ¬ ((0 : Int) > 0)), cond_false]
  | n + 1, K, c, x, l, out, p, len, bb, h, hK, hn, hl, hs => by
    obtain ⟨s, c1, q1, q2, q3⟩ := line_ok h (by omega)
    obtain ⟨c', x', p1, p2, p3, p4, p5, p6⟩ := new_loop n (c := c1) (x := (x.1, (x.2.1, ((x.2.2.1 ++ [s ++ [10]]), x.2.2.2)))) l out p len bb q3 (by omega) (by omega) (by show List.length (x.2.2.1 ++ [s ++ [10]]) + n ≤ 100; rw [List.length_append, List.length_cons, List.length_nil]; omega) (hs.snoc (by simp) (by simp; omega))
    refine ⟨c', x', ?_, p2, p3, by rw [p4]; show List.length (x.2.2.1 ++ [s ++ [10]]) + n = _; rw [List.length_append, List.length_cons, List.length_nil]; omega, p5, p6.up (by omega)⟩
    rw [← p1]
    refine fix_go (B := fun d => b_S_l1Cur_hunks_6 d.1 d.2.1 d.2.2.1 d.2.2.2.1 d.2.2.2.2.1 d.2.2.2.2.2.1 d.2.2.2.2.2.2.1 d.2.2.2.2.2.2.2.1) ?_
    show b_S_l1Cur_hunks_6 c l out p x ((n + 1 : Nat) : Int) len bb = _
    unfold b_S_l1Cur_hunks_6
    rw [decide_eq_true (by omega : ((n + 1 : Nat) : Int) > 0), cond_true, q1, Option.bind_some]
    dsimp only
    rw [decide_eq_true (by rw [List.length_cons, List.length_nil]; omega), cond_true, roomB_ok (by rw [List.length_cons, List.length_nil]; omega), cond_true, show IntKind.wrap .i64 (((n + 1 : Nat) : Int) - 1) = (n : Int) from by rw [wrap64 (by omega) (by omega)]; omega]

theorem least_S (a b : Int) : f_S_l1Least a b = some ((if a < b then a else b, ()), ()) := by
  unfold f_S_l1Least
  by_cases h : a < b
  · rw [decide_eq_true h, if_pos h]; rfl
  · rw [decide_eq_false h, if_neg h]; rfl

theorem whole_S {l : TX} (hl : l.length ≤ 100) (hs : SmL l) : ∃ b : Bool, f_S_l1Whole l = some ((b, ()), ()) := by
  unfold f_S_l1Whole
  by_cases h : l.length = 0
  · rw [show ((l.length : Int) == 0) = true from by rw [h]; rfl]
    exact ⟨_, rfl⟩
  · have hi : l.length - 1 < l.length := by omega
    obtain ⟨h1, h2⟩ := hs _ (List.getElem_mem hi)
    rw [show ((l.length : Int) == 0) = false from by rw [beq_eq_false_iff_ne]; omega, cond_false, show IntKind.wrap .i64 ((l.length : Int) - 1) = ((l.length - 1 : Nat) : Int) from by rw [wrap64 (by omega) (by omega)]; omega, inB_lt hi, cond_true, toNat_cast, getD_of hi, ends_S _ h1 (by omega), Option.bind_some]
    exact ⟨_, rfl⟩

def SmHK (h : HK) : Prop := ∀ x ∈ h, SmX x
theorem hunks_loop {l : TX} (hl : l.length ≤ 100) (hs : SmL l) : ∀ (f : Nat) {K : Int} {c : Cur} {out : HK} {p : Int}, CurOk K c → K + 20 * (f : Int) ≤ 4611686018427300000 → f ≤ 200 → (l.length : Int) + 1 - p ≤ f → 0 ≤ p → p ≤ 1000 → out.length ≤ 6 → SmHK out →
    ∃ (c' : Cur) (h : HK), w_S_l1Cur_hunks_3 (c, l, out, p, ()) = some (c', h, ()) ∧ h.length ≤ 6 ∧ SmHK h ∧ CurOk (K + 20 * f) c' := by
  have stop : ∀ {K : Int} {c : Cur} {out : HK} {p : Int}, ¬ (p ≤ (l.length : Int) ∧ (out.length : Int) < 6) → w_S_l1Cur_hunks_3 (c, l, out, p, ()) = some (c, out, ()) := by
    intro K c out p hp
    refine fix_end (B := fun d => b_S_l1Cur_hunks_3 d.1 d.2.1 d.2.2.1 d.2.2.2.1) ?_
    show b_S_l1Cur_hunks_3 c l out p = _
    unfold b_S_l1Cur_hunks_3
    by_cases h1 : p ≤ (l.length : Int)
    · rw [decide_eq_true h1, cond_true, decide_eq_false (fun q => hp ⟨h1, q⟩), cond_false]
    · rw [decide_eq_false h1, cond_false]
  intro f
  induction f with
  | zero =>
    intro K c out p h hK hf hm hp0 hp1 ho hso
    exact ⟨c, out, stop (K := K) (fun q => by omega), ho, hso, h.up (by omega)⟩
  | succ f ih =>
    intro K c out p h hK hf hm hp0 hp1 ho hso
    by_cases hg : p ≤ (l.length : Int) ∧ (out.length : Int) < 6
    · obtain ⟨g1, g2⟩ := hg
      generalize hL : (if (3 : Int) < (l.length : Int) - p then (3 : Int) else (l.length : Int) - p) = m
      have hm0 : 0 ≤ m ∧ m ≤ 3 := by rw [← hL]; split <;> omega
      obtain ⟨r1, c1, a1, a2, a3, a4, a5⟩ := pick_ok (n := m + 1) h (by omega) (by omega)
      have a3 := a3 (by omega)
      obtain ⟨r2, c2, b1, b2, b3, b4, b5⟩ := pick_ok (n := 3) a5 (by omega) (by omega)
      have b3 := b3 (by omega)
      obtain ⟨n, rfl⟩ : ∃ n : Nat, r2 = (n : Int) := ⟨r2.toNat, (Int.toNat_of_nonneg b2).symm⟩
      obtain ⟨c3, x, d1, d2, d3, d4, d5, d6⟩ := new_loop n (x := (p, (r1, (([] : PV S_string), ())))) l out p (out.length : Int) (decide ((out.length : Int) < 6)) b5 (by omega) (by omega) (by show 0 + n ≤ 100; omega) (fun s hs => by cases hs)
      have d4 : List.length x.2.2.1 = n := by rw [d4]; show 0 + n = n; omega
      obtain ⟨r3, c4, e1, e2, e3, e4, e5⟩ := pick_ok (n := 3) d6 (by omega) (by omega)
      have e3 := e3 (by omega)
      obtain ⟨wb, hw⟩ := whole_S hl hs
      have hx : SmX x := ⟨by omega, d5⟩
      have key : ∃ out2 : HK, out2.length ≤ 6 ∧ SmHK out2 ∧ w_S_l1Cur_hunks_3 (c, l, out, p, ()) = w_S_l1Cur_hunks_3 (c4, l, out2, p + (r1 + 1 + r3), ()) := by
        have hgo : ∀ {s t}, b_S_l1Cur_hunks_3 s.1 s.2.1 s.2.2.1 s.2.2.2.1 = some (.inl t) → w_S_l1Cur_hunks_3 s = w_S_l1Cur_hunks_3 t := fun hh => fix_go (B := fun d => b_S_l1Cur_hunks_3 d.1 d.2.1 d.2.2.1 d.2.2.2.1) hh
        have hbody : ∃ bb : Bool, b_S_l1Cur_hunks_3 c l out p = some (.inl (c4, l, (if bb then out ++ [x] else out), p + (r1 + 1 + r3), ())) := by
          unfold b_S_l1Cur_hunks_3
          rw [decide_eq_true g1, cond_true, decide_eq_true g2, cond_true, wrap64 (x := (l.length : Int) - p) (by omega) (by omega), least_S, Option.bind_some]
          dsimp only
          rw [hL, wrap64 (x := m + 1) (by omega) (by omega), a1, Option.bind_some]
          dsimp only
          rw [b1, Option.bind_some]
          dsimp only
          rw [decide_eq_true g2] at d1
          rw [d1, Option.bind_some]
          dsimp only
          rw [d3, hw, Option.bind_some]
          dsimp only
          have w1 : IntKind.wrap .i64 (p + IntKind.wrap .i64 (IntKind.wrap .i64 (r1 + 1) + r3)) = p + (r1 + 1 + r3) := by
            rw [wrap64 (x := r1 + 1) (by omega) (by omega), wrap64 (x := r1 + 1 + r3) (by omega) (by omega), wrap64 (by omega) (by omega)]
          have hroom : roomB (out.length + [x].length) = true := roomB_ok (by rw [List.length_cons, List.length_nil]; omega)
          cases decide (IntKind.wrap .i64 (r1 + (List.length x.2.2.1 : Int)) > 0)
          · refine ⟨false, ?_⟩
            rw [cond_false, Option.bind_some]
            dsimp only
            rw [cond_false, Option.bind_some]
            dsimp only
            rw [e1, Option.bind_some]
            dsimp only
            rw [d3, w1]
            rfl
          · rw [cond_true]
            have tail : ∀ q : Bool, ∃ bb : Bool, ((((some (c3, l, out, p, x, (out.length : Int), true, q, ()) : Option (PV Y_spec_l1Cur × PV S_string × PV S_impl_Hunk × PV (.int .i64) × PV Y_impl_Hunk × PV (.int .i64) × PV .bool × PV .bool × Unit)).bind fun j33 =>
                    bif j33.2.2.2.2.2.2.2.1 then
                      bif roomB (j33.2.2.1.length + [j33.2.2.2.2.1].length) then
                        some (j33.1, j33.2.1, (j33.2.2.1 ++ [j33.2.2.2.2.1]), j33.2.2.2.1, j33.2.2.2.2.1, j33.2.2.2.2.2.1, j33.2.2.2.2.2.2.1, ())
                      else
                        none
                    else
                      some (j33.1, j33.2.1, j33.2.2.1, j33.2.2.2.1, j33.2.2.2.2.1, j33.2.2.2.2.2.1, j33.2.2.2.2.2.2.1, ()) : Option ((PV Y_spec_l1Cur × PV S_string × PV S_impl_Hunk × PV (.int .i64) × PV Y_impl_Hunk × PV (.int .i64) × PV .bool × Unit))).bind fun j34 =>
                (f_S_l1Cur_pick j34.1 3).bind fun r35 =>
                  some (.inl (r35.2.1, j34.2.1, j34.2.2.1, (IntKind.wrap .i64 (j34.2.2.2.1 + (IntKind.wrap .i64 ((IntKind.wrap .i64 (j34.2.2.2.2.1.2.1 + 1)) + r35.1.1)))), ()))) : Option ((PV Y_spec_l1Cur × PV S_string × PV S_impl_Hunk × PV (.int .i64) × Unit) ⊕ ((PV Y_spec_l1Cur × PV S_impl_Hunk × Unit)))) = some (.inl (c4, l, (if bb then out ++ [x] else out), p + (r1 + 1 + r3), ())) := by
              intro q
              refine ⟨q, ?_⟩
              rw [Option.bind_some]
              dsimp only
              cases q
              · rw [cond_false, Option.bind_some]
                dsimp only
                rw [e1, Option.bind_some]
                dsimp only
                rw [d3, w1]
                rfl
              · rw [cond_true, hroom, cond_true, Option.bind_some]
                dsimp only
                rw [e1, Option.bind_some]
                dsimp only
                rw [d3, w1]
                rfl
            cases decide (IntKind.wrap .i64 (p + r1) < (l.length : Int))
            · rw [cond_false]
              cases wb
              · exact tail _
              · exact tail true
            · exact tail true
        obtain ⟨bb, hbody⟩ := hbody
        refine ⟨if bb then out ++ [x] else out, ?_, ?_, hgo (s := (c, l, out, p, ())) hbody⟩
        · cases bb
          · exact ho
          · rw [if_pos rfl, List.length_append, List.length_cons, List.length_nil]; omega
        · cases bb
          · exact hso
          · intro y hy
            rw [if_pos rfl] at hy
            rcases List.mem_append.1 hy with hy | hy
            · exact hso y hy
            · obtain rfl := List.mem_singleton.1 hy
              exact hx
      obtain ⟨out2, k1, k2, k3⟩ := key
      obtain ⟨c', h', i1, i2, i3, i4⟩ := ih (out := out2) (p := p + (r1 + 1 + r3)) e5 (by omega) (by omega) (by omega) (by omega) (by omega) k1 k2
      exact ⟨c', h', k3.trans i1, i2, i3, i4.up (by omega)⟩
    · exact ⟨c, out, stop (K := K) hg, ho, hso, h.up (by omega)⟩

theorem hunks_ok {l : TX} (hl : l.length ≤ 100) (hs : SmL l) {K : Int} {c : Cur} (h : CurOk K c) (hK : K ≤ 4611686018427200000) : ∃ (hh : HK) (c' : Cur), f_S_l1Cur_hunks c l = some ((hh, ()), (c', ())) ∧ hh.length ≤ 6 ∧ SmHK hh ∧ CurOk (K + 5000) c' := by
  obtain ⟨r, c1, q1, q2, q3, _, q4⟩ := pick_ok (n := 3) h (by omega) (by omega)
  have q3 := q3 (by omega)
  obtain ⟨c2, hh, p1, p2, p3, p4⟩ := hunks_loop hl hs 150 (out := []) (p := r) q4 (by omega) (by omega) (by omega) q2 (by omega) (by simp) (fun x hx => by cases hx)
  unfold f_S_l1Cur_hunks
  rw [q1, Option.bind_some]
  dsimp only
  rw [p1, Option.bind_some]
  exact ⟨_, _, rfl, p2, p3, p4.up (by omega)⟩

theorem SmHK.sm {h : HK} (hl : h.length ≤ 1000) (hs : SmHK h) : SmH h := ⟨by omega, fun x hx => (hs x hx).2.sm (by have := (hs x hx).1; omega)⟩
theorem cutH_mem {h : HK} {a b : Int} {x : PV Y_impl_Hunk} (hx : x ∈ cutL a b h) : x ∈ h := List.mem_of_mem_take (List.mem_of_mem_drop hx)
theorem cutH_len {h : HK} {a b : Int} : (cutL a b h).length ≤ h.length := by
  unfold cutL
  simp
  omega
theorem cutH_sm {h : HK} {a b : Int} (hl : h.length ≤ 1000) (hs : SmHK h) : SmH (cutL a b h) :=
  SmHK.sm (Nat.le_trans cutH_len hl) (fun x hx => hs x (cutH_mem hx))

theorem drawMove_ok {t : PV S_uint8} (hw : WfV S_uint8 t) : ∃ (l : TX) (a b : HK), f_S_DrawMoveHunks t = some ((l, a, b, ()), ()) ∧ Sm l ∧ SmH a ∧ SmH b := by
  have h0 : CurOk 0 ((t, (0, (0, ()))) : Cur) := ⟨fun x hx => by have := hw.2 x hx; exact this, Int.le_refl _, Int.le_refl _⟩
  obtain ⟨l, c1, a1, a2, a3, a4⟩ := text_ok h0 (by omega)
  obtain ⟨ha, c2, b1, b2, b3, b4⟩ := hunks_ok (by omega) a3 a4 (by omega)
  obtain ⟨hb, c3, d1, d2, d3, d4⟩ := hunks_ok (by omega) a3 b4 (by omega)
  obtain ⟨o, c4, e1, e2⟩ := one_ok (n := 2) d4 (by omega) (by omega)
  have hl : Sm l := a3.sm (by omega)
  have cut1 : ∀ {h : HK}, 1 ≤ h.length → cutB 0 1 h.length = true := fun hh => cutB_ok (by omega) (by omega) (by omega)
  have cut2 : ∀ {h : HK}, 1 ≤ h.length → cutB 1 (h.length : Int) h.length = true := fun hh => cutB_ok (by omega) (by omega) (by omega)
  unfold f_S_DrawMoveHunks
  rw [a1, Option.bind_some]
  dsimp only
  rw [b1, Option.bind_some]
  dsimp only
  rw [d1, Option.bind_some]
  dsimp only
  have tail : ∃ (l' : TX) (a b : HK), ((((bif (decide ((hb.length : Int) > 1)) then
                  bif cutB 1 (hb.length : Int) hb.length then
                    some (l, ha, (cutL 1 (hb.length : Int) hb), ())
                  else
                    none
                else
                  some (l, ha, hb, ()) : Option ((PV S_string × PV S_impl_Hunk × PV S_impl_Hunk × Unit)))).bind fun j12 =>
              (f_S_l1Least 1 (j12.2.1.length : Int)).bind fun r13 =>
                bif cutB 0 r13.1.1 j12.2.1.length then
                  some ((j12.1, (cutL 0 r13.1.1 j12.2.1), j12.2.2.1, ()), ())
                else
                  none) : Option (PVs [S_string, S_impl_Hunk, S_impl_Hunk] × PVs [])) = some ((l', a, b, ()), ()) ∧ Sm l' ∧ SmH a ∧ SmH b := by
    have t2 : ∀ hb' : HK, SmH hb' → ∃ (l' : TX) (a b : HK), ((some (l, ha, hb', ()) : Option ((PV S_string × PV S_impl_Hunk × PV S_impl_Hunk × Unit))).bind fun j12 =>
              (f_S_l1Least 1 (j12.2.1.length : Int)).bind fun r13 =>
                bif cutB 0 r13.1.1 j12.2.1.length then
                  some ((j12.1, (cutL 0 r13.1.1 j12.2.1), j12.2.2.1, ()), ())
                else
                  (none : Option (PVs [S_string, S_impl_Hunk, S_impl_Hunk] × PVs []))) = some ((l', a, b, ()), ()) ∧ Sm l' ∧ SmH a ∧ SmH b := by
      intro hb' hsm
      rw [Option.bind_some]
      dsimp only
      rw [least_S, Option.bind_some]
      dsimp only
      rw [show cutB 0 (if (1 : Int) < (ha.length : Int) then 1 else (ha.length : Int)) ha.length = true from by split <;> exact cutB_ok (by omega) (by omega) (by omega), cond_true]
      exact ⟨_, _, _, rfl, hl, cutH_sm (by omega) b3, hsm⟩
    by_cases h1 : (hb.length : Int) > 1
    · rw [decide_eq_true h1, cond_true, cut2 (by omega), cond_true]
      exact t2 _ (cutH_sm (by omega) d3)
    · rw [decide_eq_false h1, cond_false]
      exact t2 _ (SmHK.sm (by omega) d3)
  by_cases h1 : (ha.length : Int) > 1
  · rw [decide_eq_true h1, cond_true, e1, Option.bind_some, Option.bind_some]
    dsimp only
    cases o
    · rw [cond_false]
      exact tail
    · rw [cond_true, cut1 (by omega), cond_true, cut2 (by omega), cond_true]
      exact ⟨_, _, _, rfl, hl, cutH_sm (by omega) b3, cutH_sm (by omega) b3⟩
  · rw [decide_eq_false h1, cond_false, Option.bind_some]
    dsimp only
    rw [cond_false]
    exact tail
end R
end

section
/- Swapped: what is drawn may be done in either order. -/
open Go Go.Dn
namespace R
set_option linter.unusedVariables false

theorem sameTexts_L (a b : TX) (ha : a.length ≤ 4611686018427387904) (hb : b.length ≤ 4611686018427387904) : f_L_sameTexts a b = some ((decide (a = b), ()), ()) := by
  unfold f_L_sameTexts
  by_cases hab : a.length = b.length
  · rw [show ((a.length : Int) == (b.length : Int)) = true from by rw [hab]; exact beq_self_eq_true _, Bool.not_true, cond_false]
    rw [show w_L_sameTexts_4 (a, b, (a.length : Int), 0, ()) = _ from same_core (B := fun d => b_L_sameTexts_4 d.1 d.2.1 d.2.2.1 d.2.2.2.1) hab
      (fun i hi => by
        show b_L_sameTexts_4 a b a.length i = _
        unfold b_L_sameTexts_4
        rw [decide_eq_true (by omega : (i : Int) < (a.length : Int)), cond_true, inB_lt hi, cond_true, inB_lt (by omega), cond_true, toNat_cast]
        cases (a.getD i [] == b.getD i [])
        · rfl
        · simp only [Bool.not_true, cond_false]
          rw [wrap64 (by omega) (by omega)]
          rfl)
      (by
        show b_L_sameTexts_4 a b a.length a.length = _
        unfold b_L_sameTexts_4
        rw [decide_eq_false (Int.lt_irrefl _), cond_false])]
    cases decide (a = b) <;> rfl
  · rw [show ((a.length : Int) == (b.length : Int)) = false from by rw [beq_eq_false_iff_ne]; omega, Bool.not_false, cond_true]
    rw [decide_eq_false (by rintro rfl; exact hab rfl)]


theorem big_L {t0 t1 : PV S_uint8} (h0 : WfV S_uint8 t0) (h1 : WfV S_uint8 t1) : ∃ b : Bool, f_L_big t0 t1 = some ((b, ()), ()) := by
  unfold f_L_big
  cases decide ((List.length t0 : Int) > 1048576)
  · exact ⟨_, rfl⟩
  · exact ⟨_, rfl⟩

theorem both_comm (l : TX) (a b : HK) : bothOk l b a = bothOk l a b := by unfold bothOk; rw [Bool.and_comm]
theorem csB_comm (l : TX) (a b : HK) : csB l b a = csB l a b := by
  unfold csB
  rw [Bool.and_comm (inOk l b a), Bool.eq_iff_iff]
  simp only [Bool.and_eq_true, decide_eq_true_eq]
  exact ⟨fun h => ⟨h.1, h.2.symm⟩, fun h => ⟨h.1, h.2.symm⟩⟩
theorem csR_comm (l : TX) (a b : HK) : csR l b a = csR l a b := by unfold csR; rw [both_comm, csB_comm]

theorem law_Swapped (t0 t1 : PV S_uint8) (hw : WfV S_uint8 t0) (hw1 : WfV S_uint8 t1) : f_L_FnSwapped t0 t1 = some ((true, ()), ()) := by
  obtain ⟨bg, hbg⟩ := big_L hw hw1
  obtain ⟨l, a, b, hd, hl, ha, hb⟩ := drawMove_ok hw
  obtain ⟨l2, a2, b2, hd2, hl2, ha2, hb2⟩ := drawMove_ok hw1
  have fin : ((f_S_DrawCanSwap t1).bind fun r48 =>
                        (f_I_CanSwap r48.1.1 r48.1.2.1 r48.1.2.2.1).bind fun r50 =>
                          (f_S_CanSwap r48.1.1 r48.1.2.1 r48.1.2.2.1).bind fun r52 =>
                            bif (r50.1.2.1 == r52.1.2.1) then
                              some (((r50.1.1 == r52.1.1), ()), ())
                            else
                              some ((false, ()), ()) : Option (PVs [.bool] × PVs [])) = some ((true, ()), ()) := by
    unfold f_S_DrawCanSwap
    rw [hd2]
    simp only [Option.bind_some]
    rw [canSwap_I hl2 ha2 hb2, Option.bind_some, canSwap_S hl2 ha2 hb2, Option.bind_some]
    dsimp only
    rw [beq_self_eq_true, beq_self_eq_true]
    rfl
  unfold f_L_FnSwapped
  rw [hbg, Option.bind_some]
  dsimp only
  cases bg
  · rw [cond_false]
    rw [show f_S_DrawCanSwap t0 = some ((l, a, b, ()), ()) from by unfold f_S_DrawCanSwap; rw [hd]; rfl, Option.bind_some]
    dsimp only
    rw [canSwap_I hl ha hb, Option.bind_some, canSwap_S hl ha hb, Option.bind_some, canSwap_I hl hb ha, Option.bind_some, both_comm l a b, csR_comm l a b]
    dsimp only
    simp only [beq_self_eq_true, Bool.not_true, cond_false, Option.bind_some]
    cases hB : bothOk l a b
    · rw [cond_false, Option.bind_some]
      dsimp only
      rw [cond_false, Option.bind_some]
      exact fin
    · rw [cond_true, Option.bind_some]
      dsimp only
      cases hC : csR l a b
      · rw [cond_false, Option.bind_some]
        exact fin
      · have hc := hC
        unfold csR csB inOk at hc
        simp only [Bool.and_eq_true, decide_eq_true_eq] at hc
        obtain ⟨_, ⟨⟨h1, h2⟩, h3, h4⟩, h5⟩ := hc
        obtain ⟨g1, g2, g3, g4⟩ := both_at hB
        obtain ⟨n1, n2, n3, n4, n5⟩ := next_at hl ha hb h1
        obtain ⟨m1, m2, m3, m4, m5⟩ := next_at hl hb ha h3
        have e1 : patchR l a = patchL l a := by unfold patchR; rw [g3, cond_true]
        have e2 : patchR l b = patchL l b := by unfold patchR; rw [g4, cond_true]
        rw [h2, cond_true] at n3
        rw [h4, cond_true] at m3
        rw [cond_true, patch_I hl ha, Option.bind_some, move_I hl ha hb, Option.bind_some]
        dsimp only
        rw [e1, n3, Option.bind_some, patch_I hl hb, Option.bind_some, move_I hl hb ha, Option.bind_some]
        dsimp only
        rw [e2, m3, Option.bind_some]
        dsimp only
        rw [g3, g4, h1, h3, Bool.not_true, cond_false, cond_false, cond_false, cond_false, cond_false, cond_false, sameTexts_L _ _ (by omega) (by omega), Option.bind_some, h5, decide_eq_true rfl, Option.bind_some]
        dsimp only
        rw [Bool.not_true, cond_false, Option.bind_some]
        exact fin
  · rfl
end R
end
