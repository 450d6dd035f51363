/- Parts of the proof: PbJ Qk1 Qk5 Qk6 Qk2 Qk3 Qk4 Qk7 Qk8 Qk9 Qi5 Qi6 Qi7 Qi8 Qi9 Qi10 Qi11 Qi12 Qi13 Qi14 Qi18 Qi19. -/
import Derived.Test.YtmkcdiobiphkhaaGreatDoorPaJ
import Derived.Test.YtmkcdiobiphkhaaGreatDoorL3
import Derived.Lib.ItoaLen
section
/- Plain laws of the helpers: none are wanted. -/
end

section
/- Lines: both sides' tests of lines answer the same. -/
open Go Go.Dn
namespace R
set_option linter.unusedVariables false

theorem in_I (a b c : Int) : f_I_in a b c = some ((decide (a ≥ b) && decide (a ≤ c), ()), ()) := by
  unfold f_I_in
  cases decide (a ≥ b) <;> rfl
theorem in_S (a b c : Int) : f_S_l1In a b c = some ((decide (a ≥ b) && decide (a ≤ c), ()), ()) := by
  unfold f_S_l1In
  cases decide (a ≥ b) <;> rfl

def inI (a b c : Int) : Bool := decide (a ≥ b) && decide (a ≤ c)
def hasEnd (s : List UInt8) : Bool := (s.take (s.length - 1)).contains 10
def lineP (s : List UInt8) : Bool := inI (s.length : Int) 1 30 && !hasEnd s
def endP (s : List UInt8) : Bool := s.drop (s.length - 1) == [10]

theorem line_len {s : List UInt8} (h : lineP s = true) : 1 ≤ s.length ∧ s.length ≤ 30 := by
  unfold lineP inI at h
  simp only [Bool.and_eq_true, decide_eq_true_eq] at h
  omega

theorem line_S (s : List UInt8) (hs : s.length ≤ 4611686018427387904) : f_S_l1Line s = some ((lineP s, ()), ()) := by
  unfold f_S_l1Line
  have hw : IntKind.wrap .i64 ((s.length : Int) - 1) = (s.length : Int) - 1 := wrap64 (by omega) (by omega)
  rw [show w_S_l1Line_2 (s, 0, ()) = _ from fix_anyN (B := fun d => b_S_l1Line_2 d.1 d.2.1) (s.length - 1) (fun i => s.getD i 0 == 10) (fun i => (s, (i : Int), ())) (fun _ => .inr (false, ())) (.inl (s, ()))
    (fun i hi hq => by
      show b_S_l1Line_2 s i = _
      unfold b_S_l1Line_2
      rw [hw, decide_eq_true (by omega : (i : Int) < (s.length : Int) - 1), cond_true, inB_lt (by omega), cond_true, toNat_cast]
      rw [show ((((s.getD i 0 : UInt8).toNat : Nat) : Int) == 10) = (s.getD i 0 == 10) from byte_eq (n := 10) (by omega), hq, cond_false, wrap64 (by omega) (by omega)]
      simp)
    (fun i hi hq => by
      show b_S_l1Line_2 s i = _
      unfold b_S_l1Line_2
      rw [hw, decide_eq_true (by omega : (i : Int) < (s.length : Int) - 1), cond_true, inB_lt (by omega), cond_true, toNat_cast]
      rw [show ((((s.getD i 0 : UInt8).toNat : Nat) : Int) == 10) = (s.getD i 0 == 10) from byte_eq (n := 10) (by omega), hq, cond_true])
    (by
      show b_S_l1Line_2 s ((s.length - 1 : Nat) : Int) = _
      unfold b_S_l1Line_2
      rw [hw, decide_eq_false (by omega : ¬ (((s.length - 1 : Nat) : Int) < (s.length : Int) - 1)), cond_false])]
  rw [contains_take (by omega)]
  unfold lineP hasEnd
  cases (s.take (s.length - 1)).contains 10
  · simp only [Bool.false_eq_true, if_false, Option.bind_some, in_S]; simp [inI]
  · simp

theorem ends_S (s : List UInt8) (h1 : 1 ≤ s.length) (hs : s.length ≤ 4611686018427387904) : f_S_l1Ends s = some ((endP s, ()), ()) := by
  unfold f_S_l1Ends
  have hw : IntKind.wrap .i64 ((s.length : Int) - 1) = ((s.length - 1 : Nat) : Int) := by rw [wrap64 (by omega) (by omega)]; omega
  rw [hw, inB_lt (by omega), cond_true, toNat_cast]
  rw [show ((((s.getD (s.length - 1) 0 : UInt8).toNat : Nat) : Int) == 10) = (s.getD (s.length - 1) 0 == 10) from byte_eq (n := 10) (by omega)]
  unfold endP
  rw [List.drop_eq_getElem_cons (by omega : s.length - 1 < s.length), List.drop_of_length_le (by omega), getD_of (by omega)]
  simp

theorem line_I (s : List UInt8) (hs : s.length ≤ 4611686018427387904) : f_I_isLine s = some ((lineP s, ()), ()) := by
  unfold f_I_isLine
  rw [in_I, Option.bind_some]
  dsimp only
  unfold lineP
  cases h : inI (s.length : Int) 1 30
  · unfold inI at h; rw [h]; rfl
  · have h' := h
    unfold inI at h'
    rw [h', cond_true]
    simp only [Bool.and_eq_true, decide_eq_true_eq] at h'
    rw [wrap64 (by omega) (by omega)]
    rw [show cutB 0 ((s.length : Int) - 1) s.length = true from by unfold cutB; simp; omega, cond_true]
    unfold f_strings_Contains containsF
    rw [Option.bind_some]
    unfold hasEnd cutL
    rw [show ((s.length : Int) - 1).toNat = s.length - 1 from by omega]
    simp

theorem ends_I (s : List UInt8) (hs : s.length ≤ 4611686018427387904) : f_I_isEnded s = some ((endP s, ()), ()) := by
  unfold f_I_isEnded f_strings_HasSuffix f_internal_stringslite_HasSuffix endP
  by_cases h : 1 ≤ s.length
  · rw [decide_eq_true (by simp; omega : (s.length : Int) ≥ (([10] : List UInt8).length : Int)), cond_true]
    have hw : IntKind.wrap .i64 ((s.length : Int) - (([10] : List UInt8).length : Int)) = ((s.length - 1 : Nat) : Int) := by
      rw [show ((([10] : List UInt8).length : Nat) : Int) = 1 from rfl, wrap64 (by omega) (by omega)]; omega
    rw [hw, show cutB ((s.length - 1 : Nat) : Int) (s.length : Int) s.length = true from by unfold cutB; simp, cond_true]
    unfold cutL
    simp
  · have : s = [] := List.eq_nil_of_length_eq_zero (by omega)
    subst this
    rfl

/-- Lines, each by itself, and not too many. -/
def linesP (l : List (List UInt8)) : Bool := decide (l.length ≤ 40) && !(l.any fun s => !lineP s)
def endsP (l : List (List UInt8)) : Bool := !(anyN l.length fun k => decide ((k : Int) < (l.length : Int) - 1) && !(endP (l.getD k [])))
def goodP (l : List (List UInt8)) : Bool := linesP l && endsP l

def Sm (l : List (List UInt8)) : Prop := l.length ≤ 4611686018427387904 ∧ ∀ s ∈ l, s.length ≤ 4611686018427387904

theorem Sm.len {l : List (List UInt8)} (h : Sm l) : l.length ≤ 4611686018427387904 := h.1
theorem Sm.mem {l : List (List UInt8)} (h : Sm l) {i : Nat} (hi : i < l.length) : (l[i]).length ≤ 4611686018427387904 := h.2 _ (List.getElem_mem hi)
theorem Sm.of {l : List (List UInt8)} {n : Nat} (h : tot (.slice 9 .str) l ≤ n) (hn : n ≤ 4611686018427387904) : Sm l := by
  refine ⟨?_, fun s hs => ?_⟩
  · have h' := h
    rw [tot_slice] at h'
    omega
  · obtain ⟨i, hi, rfl⟩ := List.mem_iff_getElem.1 hs
    have := Nat.le_trans (tot_mem (e := 9) (t := .str) (xs := l) hi) h
    rw [tot_str] at this
    omega

theorem areLines_I (t0 : List (List UInt8)) (hs : Sm t0) : f_I_areLines t0 = some ((linesP t0, ()), ()) := by
  unfold f_I_areLines linesP
  by_cases hl : t0.length ≤ 40
  · rw [decide_eq_true (by omega : (t0.length : Int) ≤ 40), cond_true, decide_eq_true hl, Bool.true_and]
    rw [show w_I_areLines_146_2 (t0, false, t0, (t0.length : Int), true, true, t0, t0, false, t0, t0, (t0.length : Int), 0, ()) = _ from
      fix_any (B := fun d => b_I_areLines_146_2 d.1 d.2.1 d.2.2.1 d.2.2.2.1 d.2.2.2.2.1 d.2.2.2.2.2.1 d.2.2.2.2.2.2.1 d.2.2.2.2.2.2.2.1 d.2.2.2.2.2.2.2.2.1 d.2.2.2.2.2.2.2.2.2.1 d.2.2.2.2.2.2.2.2.2.2.1 d.2.2.2.2.2.2.2.2.2.2.2.1 d.2.2.2.2.2.2.2.2.2.2.2.2.1) t0 (fun s => !lineP s)
      (fun i => (t0, false, t0, (t0.length : Int), true, true, t0, t0, false, t0, t0, (t0.length : Int), (i : Int), ())) (fun i => .inr (t0, false, t0, (t0.length : Int), true, true, t0, t0, false, t0, (i : Int), ())) (.inl (t0, false, t0, (t0.length : Int), true, true, t0, t0, false, t0, ()))
      (fun i hi hq => by
        show b_I_areLines_146_2 _ _ _ _ _ _ _ _ _ _ t0 t0.length i = _
        unfold b_I_areLines_146_2 f_I_areLines_1
        rw [decide_eq_true (by omega : (i : Int) < (t0.length : Int)), cond_true, inB_lt hi, cond_true, toNat_cast, getD_of hi, line_I _ (hs.mem hi), Option.bind_some, Option.bind_some]
        dsimp only
        rw [hq, cond_false, wrap64 (by omega) (by omega)]; rfl)
      (fun i hi hq => by
        show b_I_areLines_146_2 _ _ _ _ _ _ _ _ _ _ t0 t0.length i = _
        unfold b_I_areLines_146_2 f_I_areLines_1
        rw [decide_eq_true (by omega : (i : Int) < (t0.length : Int)), cond_true, inB_lt hi, cond_true, toNat_cast, getD_of hi, line_I _ (hs.mem hi), Option.bind_some, Option.bind_some]
        dsimp only
        rw [hq, cond_true])
      (by
        show b_I_areLines_146_2 _ _ _ _ _ _ _ _ _ _ t0 t0.length t0.length = _
        unfold b_I_areLines_146_2
        rw [decide_eq_false (Int.lt_irrefl _), cond_false])]
    cases h : t0.any fun s => !lineP s
    · rfl
    · simp
  · rw [decide_eq_false (by omega : ¬ (t0.length : Int) ≤ 40), cond_false, decide_eq_false hl]; rfl

theorem goodLines_I (t0 : List (List UInt8)) (hs : Sm t0) : f_I_goodLines t0 = some ((goodP t0, ()), ()) := by
  have hl := hs.len
  unfold f_I_goodLines goodP
  rw [areLines_I t0 hs, Option.bind_some]
  dsimp only
  cases linesP t0
  · rfl
  · rw [Bool.not_true, cond_false]
    have hw : IntKind.wrap .i64 ((t0.length : Int) - 1) = (t0.length : Int) - 1 := wrap64 (by omega) (by omega)
    have hr : ∀ i, i < t0.length → ((bif decide ((i : Int) < (t0.length : Int) - 1) then (f_I_isEnded (t0.getD i [])).bind fun r7 => some (t0, t0, (t0.length : Int), (i : Int), !r7.1.1, ()) else some (t0, t0, (t0.length : Int), (i : Int), false, ())) : Option (PV S_string × PV S_string × Int × Int × Bool × Unit)) =
        some (t0, t0, (t0.length : Int), (i : Int), decide ((i : Int) < (t0.length : Int) - 1) && !(endP (t0.getD i [])), ()) := by
      intro i hi
      cases decide ((i : Int) < (t0.length : Int) - 1)
      · rfl
      · rw [cond_true, getD_of hi, ends_I _ (hs.mem hi)]; rfl
    rw [show w_I_goodLines_4 (t0, t0, (t0.length : Int), 0, ()) = _ from fix_anyN (B := fun d => b_I_goodLines_4 d.1 d.2.1 d.2.2.1 d.2.2.2.1) t0.length (fun k => decide ((k : Int) < (t0.length : Int) - 1) && !(endP (t0.getD k [])))
      (fun i => (t0, t0, (t0.length : Int), (i : Int), ())) (fun _ => .inr (false, ())) (.inl ())
      (fun i hi hq => by
        show b_I_goodLines_4 t0 t0 t0.length i = _
        unfold b_I_goodLines_4
        rw [decide_eq_true (by omega : (i : Int) < (t0.length : Int)), cond_true, inB_lt hi, cond_true, toNat_cast, hw, hr i hi, hq, Option.bind_some]
        dsimp only
        rw [cond_false, wrap64 (by omega) (by omega)]; rfl)
      (fun i hi hq => by
        show b_I_goodLines_4 t0 t0 t0.length i = _
        unfold b_I_goodLines_4
        rw [decide_eq_true (by omega : (i : Int) < (t0.length : Int)), cond_true, inB_lt hi, cond_true, toNat_cast, hw, hr i hi, hq, Option.bind_some]
        rfl)
      (by
        show b_I_goodLines_4 t0 t0 t0.length t0.length = _
        unfold b_I_goodLines_4
        rw [decide_eq_false (Int.lt_irrefl _), cond_false])]
    unfold endsP
    cases anyN t0.length fun k => decide ((k : Int) < (t0.length : Int) - 1) && !(endP (t0.getD k [])) <;> rfl

theorem l5Lines_S (t0 : List (List UInt8)) (hs : Sm t0) : f_S_l5Lines t0 = some ((goodP t0, ()), ()) := by
  have hl := hs.len
  unfold f_S_l5Lines
  have hw : IntKind.wrap .i64 ((t0.length : Int) - 1) = (t0.length : Int) - 1 := wrap64 (by omega) (by omega)
  have hr : ∀ i, i < t0.length → (((f_S_l1Line (t0.getD i [])).bind fun r4 => bif !r4.1.1 then some (t0, t0, (t0.length : Int), (i : Int), true, ()) else
      bif decide ((i : Int) < (t0.length : Int) - 1) then (f_S_l1Ends (t0.getD i [])).bind fun r5 => some (t0, t0, (t0.length : Int), (i : Int), !r5.1.1, ()) else some (t0, t0, (t0.length : Int), (i : Int), false, ())) : Option (PV S_string × PV S_string × Int × Int × Bool × Unit)) =
      some (t0, t0, (t0.length : Int), (i : Int), !(lineP (t0.getD i [])) || (decide ((i : Int) < (t0.length : Int) - 1) && !(endP (t0.getD i []))), ()) := by
    intro i hi
    rw [getD_of hi, line_S _ (hs.mem hi), Option.bind_some]
    dsimp only
    cases hL : lineP t0[i]
    · rfl
    · rw [Bool.not_true, cond_false, Bool.false_or]
      cases decide ((i : Int) < (t0.length : Int) - 1)
      · rfl
      · rw [cond_true, ends_S _ (line_len hL).1 (hs.mem hi)]; rfl
  rw [show w_S_l5Lines_2 (t0, t0, (t0.length : Int), 0, ()) = _ from fix_anyN (B := fun d => b_S_l5Lines_2 d.1 d.2.1 d.2.2.1 d.2.2.2.1) t0.length (fun k => !(lineP (t0.getD k [])) || (decide ((k : Int) < (t0.length : Int) - 1) && !(endP (t0.getD k []))))
      (fun i => (t0, t0, (t0.length : Int), (i : Int), ())) (fun _ => .inr (false, ())) (.inl (t0, ()))
      (fun i hi hq => by
        show b_S_l5Lines_2 t0 t0 t0.length i = _
        unfold b_S_l5Lines_2
        rw [decide_eq_true (by omega : (i : Int) < (t0.length : Int)), cond_true, inB_lt hi, cond_true, toNat_cast, hw, hr i hi, hq, Option.bind_some]
        dsimp only
        rw [cond_false, wrap64 (by omega) (by omega)]; rfl)
      (fun i hi hq => by
        show b_S_l5Lines_2 t0 t0 t0.length i = _
        unfold b_S_l5Lines_2
        rw [decide_eq_true (by omega : (i : Int) < (t0.length : Int)), cond_true, inB_lt hi, cond_true, toNat_cast, hw, hr i hi, hq, Option.bind_some]
        rfl)
      (by
        show b_S_l5Lines_2 t0 t0 t0.length t0.length = _
        unfold b_S_l5Lines_2
        rw [decide_eq_false (Int.lt_irrefl _), cond_false])]
  rw [anyN_or, show (anyN t0.length fun k => !(lineP (t0.getD k []))) = t0.any fun s => !lineP s from anyN_list (f := fun s => !lineP s)]
  unfold goodP linesP endsP
  cases t0.any fun s => !lineP s
  · cases anyN t0.length fun k => decide ((k : Int) < (t0.length : Int) - 1) && !(endP (t0.getD k []))
    · simp; omega
    · simp
  · simp
theorem l1Good_S (t0 : List (List UInt8)) (hs : Sm t0) : f_S_l1Good t0 = some ((goodP t0, ()), ()) := by
  have hl := hs.len
  unfold f_S_l1Good
  have hw : IntKind.wrap .i64 ((t0.length : Int) - 1) = (t0.length : Int) - 1 := wrap64 (by omega) (by omega)
  have hr : ∀ i, i < t0.length → (((f_S_l1Line (t0.getD i [])).bind fun r4 => bif !r4.1.1 then some (t0, t0, (t0.length : Int), (i : Int), true, ()) else
      bif decide ((i : Int) < (t0.length : Int) - 1) then (f_S_l1Ends (t0.getD i [])).bind fun r5 => some (t0, t0, (t0.length : Int), (i : Int), !r5.1.1, ()) else some (t0, t0, (t0.length : Int), (i : Int), false, ())) : Option (PV S_string × PV S_string × Int × Int × Bool × Unit)) =
      some (t0, t0, (t0.length : Int), (i : Int), !(lineP (t0.getD i [])) || (decide ((i : Int) < (t0.length : Int) - 1) && !(endP (t0.getD i []))), ()) := by
    intro i hi
    rw [getD_of hi, line_S _ (hs.mem hi), Option.bind_some]
    dsimp only
    cases hL : lineP t0[i]
    · rfl
    · rw [Bool.not_true, cond_false, Bool.false_or]
      cases decide ((i : Int) < (t0.length : Int) - 1)
      · rfl
      · rw [cond_true, ends_S _ (line_len hL).1 (hs.mem hi)]; rfl
  rw [show w_S_l1Good_2 (t0, t0, (t0.length : Int), 0, ()) = _ from fix_anyN (B := fun d => b_S_l1Good_2 d.1 d.2.1 d.2.2.1 d.2.2.2.1) t0.length (fun k => !(lineP (t0.getD k [])) || (decide ((k : Int) < (t0.length : Int) - 1) && !(endP (t0.getD k []))))
      (fun i => (t0, t0, (t0.length : Int), (i : Int), ())) (fun _ => .inr (false, ())) (.inl (t0, ()))
      (fun i hi hq => by
        show b_S_l1Good_2 t0 t0 t0.length i = _
        unfold b_S_l1Good_2
        rw [decide_eq_true (by omega : (i : Int) < (t0.length : Int)), cond_true, inB_lt hi, cond_true, toNat_cast, hw, hr i hi, hq, Option.bind_some]
        dsimp only
        rw [cond_false, wrap64 (by omega) (by omega)]; rfl)
      (fun i hi hq => by
        show b_S_l1Good_2 t0 t0 t0.length i = _
        unfold b_S_l1Good_2
        rw [decide_eq_true (by omega : (i : Int) < (t0.length : Int)), cond_true, inB_lt hi, cond_true, toNat_cast, hw, hr i hi, hq, Option.bind_some]
        rfl)
      (by
        show b_S_l1Good_2 t0 t0 t0.length t0.length = _
        unfold b_S_l1Good_2
        rw [decide_eq_false (Int.lt_irrefl _), cond_false])]
  rw [anyN_or, show (anyN t0.length fun k => !(lineP (t0.getD k []))) = t0.any fun s => !lineP s from anyN_list (f := fun s => !lineP s)]
  unfold goodP linesP endsP
  cases t0.any fun s => !lineP s
  · cases anyN t0.length fun k => decide ((k : Int) < (t0.length : Int) - 1) && !(endP (t0.getD k []))
    · simp; omega
    · simp
  · simp
end R
end

section
/- Good hunks: both sides answer the same. -/
open Go Go.Dn
namespace R
set_option linter.unusedVariables false

abbrev H0 : PV Y_impl_Hunk := dflt Y_impl_Hunk
def badH (many : Int) (x : PV Y_impl_Hunk) : Bool :=
  !(inI x.1 0 many) || (!(inI x.2.1 0 (IntKind.wrap .i64 (many - x.1))) || (!(linesP x.2.2.1) || ((x.2.1 == 0) && ((List.length x.2.2.1 : Int) == 0))))
def badP (h : List (PV Y_impl_Hunk)) (k : Nat) : Bool :=
  decide ((k : Int) > 0) && decide ((h.getD k H0).1 ≤ IntKind.wrap .i64 ((h.getD (k - 1) H0).1 + (h.getD (k - 1) H0).2.1))
def badK (many : Int) (h : List (PV Y_impl_Hunk)) (k : Nat) : Bool := badH many (h.getD k H0) || badP h k
def hunksP (many : Int) (h : List (PV Y_impl_Hunk)) : Bool := inI many 0 40 && (decide (h.length ≤ 20) && !(anyN h.length (badK many h)))

def SmH (h : List (PV Y_impl_Hunk)) : Prop := h.length ≤ 4611686018427387904 ∧ ∀ x ∈ h, Sm x.2.2.1
theorem SmH.len {h : List (PV Y_impl_Hunk)} (hs : SmH h) : h.length ≤ 4611686018427387904 := hs.1
theorem SmH.mem {h : List (PV Y_impl_Hunk)} (hs : SmH h) {i : Nat} (hi : i < h.length) : Sm (h.getD i H0).2.2.1 := by
  rw [getD_of hi]
  exact hs.2 _ (List.getElem_mem hi)
theorem SmH.of {e : TypeId} {h : List (PV Y_impl_Hunk)} {n : Nat} (hs : tot (.slice e Y_impl_Hunk) h ≤ n) (hn : n ≤ 4611686018427387904) : SmH h := by
  refine ⟨?_, fun x hx => ?_⟩
  · have h' := hs
    rw [tot_slice] at h'
    omega
  · obtain ⟨i, hi, rfl⟩ := List.mem_iff_getElem.1 hx
    have := Nat.le_trans (tot_mem (e := e) (t := Y_impl_Hunk) (xs := h) hi) hs
    refine Sm.of (n := n) ?_ hn
    simp only [tot] at this ⊢
    omega

def badS (many : Int) (x : PV Y_impl_Hunk) : Bool :=
  decide (x.1 < 0) || (decide (x.2.1 < 0) || (decide (x.2.1 > many) || (decide (x.1 > IntKind.wrap .i64 (many - x.2.1)) || ((IntKind.wrap .i64 (x.2.1 + (List.length x.2.2.1 : Int)) == 0) || decide ((List.length x.2.2.1 : Int) > 40)))))

theorem bad_nums {many A G n : Int} (h0 : 0 ≤ many) (h1 : many ≤ 4611686018427387903) (hn : 0 ≤ n) (hm : n ≤ 4611686018427387904) :
    (decide (A < 0) || (decide (G < 0) || (decide (G > many) || (decide (A > IntKind.wrap .i64 (many - G)) || ((IntKind.wrap .i64 (G + n) == 0) || decide (n > 40)))))) =
      (!(decide (A ≥ 0) && decide (A ≤ many)) || (!(decide (G ≥ 0) && decide (G ≤ IntKind.wrap .i64 (many - A))) || (!(decide (n ≤ 40)) || ((G == 0) && (n == 0))))) := by
  rw [Bool.eq_iff_iff]
  simp only [Bool.or_eq_true, Bool.not_eq_true', decide_eq_true_eq, decide_eq_false_iff_not, beq_iff_eq, Bool.and_eq_false_iff, Bool.and_eq_true]
  by_cases a4 : A ≤ many ∧ 0 ≤ A
  · rw [wrap64 (x := many - A) (by omega) (by omega)]
    by_cases a3 : 0 ≤ G ∧ G ≤ many
    · rw [wrap64 (x := many - G) (by omega) (by omega), wrap64 (x := G + n) (by omega) (by omega)]
      omega
    · constructor
      · intro _; right; left; omega
      · intro _; omega
  · constructor
    · intro _; left; omega
    · intro _
      by_cases a1 : A < 0
      · exact .inl a1
      · by_cases a2 : G < 0
        · exact .inr (.inl a2)
        · by_cases a3 : G > many
          · exact .inr (.inr (.inl a3))
          · right; right; right; left
            rw [wrap64 (x := many - G) (by omega) (by omega)]
            omega

theorem bad_same {many : Int} {x : PV Y_impl_Hunk} (h0 : 0 ≤ many) (h1 : many ≤ 4611686018427387903) (hm : List.length x.2.2.1 ≤ 4611686018427387904) :
    (badS many x || List.any x.2.2.1 fun s => !lineP s) = badH many x := by
  unfold badS badH linesP inI
  have := bad_nums (A := x.1) (G := x.2.1) (n := (List.length x.2.2.1 : Int)) h0 h1 (by omega) (by omega)
  rw [this]
  rw [show decide (List.length x.2.2.1 ≤ 40) = decide ((List.length x.2.2.1 : Int) ≤ 40) from by rw [Bool.eq_iff_iff]; simp; omega]
  cases (decide ((x.1 : Int) ≥ 0) && decide ((x.1 : Int) ≤ many)) <;> cases (decide ((x.2.1 : Int) ≥ 0) && decide ((x.2.1 : Int) ≤ IntKind.wrap .i64 (many - x.1))) <;> cases decide ((List.length x.2.2.1 : Int) ≤ 40) <;>
    cases ((x.2.1 == 0) && ((List.length x.2.2.1 : Int) == 0)) <;> cases (List.any x.2.2.1 fun s => !lineP s) <;> rfl

theorem stepH_S (many : Int) (h : List (PV Y_impl_Hunk)) (hs : SmH h) (h0 : 0 ≤ many) (h1 : many ≤ 4611686018427387903) {i : Nat} (hi : i < h.length) :
    b_S_l2Hunks_2 many h h h.length i = some (if badK many h i then .inr (.inr (false, ())) else .inl (many, h, h, (h.length : Int), (i : Int) + 1, ())) := by
  have hl := hs.len
  have hm := hs.mem hi
  unfold b_S_l2Hunks_2
  rw [decide_eq_true (by omega : (i : Int) < (h.length : Int)), cond_true, inB_lt hi, cond_true, toNat_cast]
  have hq : badK many h i = ((badS many (h.getD i H0) || badP h i) || List.any (h.getD i H0).2.2.1 fun s => !lineP s) := by
    unfold badK
    rw [← bad_same h0 h1 hm.len]
    cases badS many (h.getD i H0) <;> cases badP h i <;> cases List.any (h.getD i H0).2.2.1 fun s => !lineP s <;> rfl
  rw [hq]
  unfold badP
  generalize hx : h.getD i H0 = x at *
  have hr : ∀ f : Bool, (bif f then some (Sum.inr (Sum.inr (false, ()))) else
      (w_S_l2Hunks_7 (many, h, h, (h.length : Int), (i : Int), x.2.2.1, (List.length x.2.2.1 : Int), 0, ())).bind fun x14 =>
            match x14 with
            | .inl l7 =>
              some (.inl (l7.1, l7.2.1, l7.2.2.1, l7.2.2.2.1, (IntKind.wrap .i64 (l7.2.2.2.2.1 + 1)), ()))
            | .inr l8 =>
              some (.inr (.inr (l8.1, ()))) : Option ((PV (.int .i64) × PV S_impl_Hunk × PV S_impl_Hunk × PV (.int .i64) × PV (.int .i64) × Unit) ⊕ ((PV (.int .i64) × PV S_impl_Hunk × Unit) ⊕ (PV .bool × Unit)))) =
      some (if (f || List.any x.2.2.1 fun s => !lineP s) then .inr (.inr (false, ())) else .inl (many, h, h, (h.length : Int), (i : Int) + 1, ())) := by
    intro f
    cases f
    · rw [cond_false, Bool.false_or, show w_S_l2Hunks_7 (many, h, h, (h.length : Int), (i : Int), x.2.2.1, (List.length x.2.2.1 : Int), 0, ()) = _ from
        fix_any (B := fun d => b_S_l2Hunks_7 d.1 d.2.1 d.2.2.1 d.2.2.2.1 d.2.2.2.2.1 d.2.2.2.2.2.1 d.2.2.2.2.2.2.1 d.2.2.2.2.2.2.2.1) x.2.2.1 (fun s => !lineP s) (fun k => (many, h, h, (h.length : Int), (i : Int), x.2.2.1, (List.length x.2.2.1 : Int), (k : Int), ())) (fun _ => .inr (false, ())) (.inl (many, h, h, (h.length : Int), (i : Int), ()))
        (fun k hk hq => by
          have hml := hm.len
          show b_S_l2Hunks_7 many h h h.length i x.2.2.1 (List.length x.2.2.1) k = _
          unfold b_S_l2Hunks_7
          rw [decide_eq_true (by omega : (k : Int) < (List.length x.2.2.1 : Int)), cond_true, inB_lt hk, cond_true, toNat_cast, getD_of hk, line_S _ (hm.mem hk), Option.bind_some]
          dsimp only
          rw [hq, cond_false, wrap64 (by omega) (by omega)]; rfl)
        (fun k hk hq => by
          show b_S_l2Hunks_7 many h h h.length i x.2.2.1 (List.length x.2.2.1) k = _
          unfold b_S_l2Hunks_7
          rw [decide_eq_true (by omega : (k : Int) < (List.length x.2.2.1 : Int)), cond_true, inB_lt hk, cond_true, toNat_cast, getD_of hk, line_S _ (hm.mem hk), Option.bind_some]
          dsimp only
          rw [hq, cond_true])
        (by
          show b_S_l2Hunks_7 many h h h.length i x.2.2.1 (List.length x.2.2.1) (List.length x.2.2.1) = _
          unfold b_S_l2Hunks_7
          rw [decide_eq_false (Int.lt_irrefl _), cond_false])]
      cases List.any x.2.2.1 fun s => !lineP s
      · rw [if_neg (by simp), if_neg (by simp), Option.bind_some]
        dsimp only
        rw [wrap64 (by omega) (by omega)]
      · rfl
    · rfl
  have hb : ∀ j : Bool, ((bif decide ((i : Int) > 0) then bif inB (IntKind.wrap .i64 ((i : Int) - 1)) h.length then bif inB (IntKind.wrap .i64 ((i : Int) - 1)) h.length then
        some (many, h, x, h, (h.length : Int), (i : Int), decide (x.1 ≤ IntKind.wrap .i64 ((h.getD (IntKind.wrap .i64 ((i : Int) - 1)).toNat (dflt Y_impl_Hunk)).1 + (h.getD (IntKind.wrap .i64 ((i : Int) - 1)).toNat (dflt Y_impl_Hunk)).2.1)), ()) else none else none
      else some (many, h, x, h, (h.length : Int), (i : Int), false, ())) : Option ((PV (.int .i64) × PV S_impl_Hunk × PV Y_impl_Hunk × PV S_impl_Hunk × PV (.int .i64) × PV (.int .i64) × PV .bool × Unit))) =
      some (many, h, x, h, (h.length : Int), (i : Int), decide ((i : Int) > 0) && decide (x.1 ≤ IntKind.wrap .i64 ((h.getD (i - 1) H0).1 + (h.getD (i - 1) H0).2.1)), ()) := by
    intro _
    cases i with
    | zero => rw [decide_eq_false (by omega : ¬ (((0 : Nat) : Int) > 0))]; rfl
    | succ j =>
      rw [decide_eq_true (by omega : ((j + 1 : Nat) : Int) > 0), cond_true, show IntKind.wrap .i64 (((j + 1 : Nat) : Int) - 1) = (j : Int) from by rw [wrap64 (by omega) (by omega)]; omega, inB_lt (by omega : j < h.length), cond_true, cond_true, toNat_cast, Bool.true_and, Nat.add_sub_cancel]
  rw [hb true]
  unfold badS
  cases decide (x.1 < 0)
  · rw [cond_false]
    cases decide (x.2.1 < 0)
    · rw [cond_false]
      cases decide (x.2.1 > many)
      · rw [cond_false]
        cases decide (x.1 > IntKind.wrap .i64 (many - x.2.1))
        · rw [cond_false]
          cases (IntKind.wrap .i64 (x.2.1 + (List.length x.2.2.1 : Int)) == 0)
          · rw [cond_false]
            cases decide ((List.length x.2.2.1 : Int) > 40)
            · rw [cond_false, Option.bind_some]
              exact hr _
            · rfl
          · rfl
        · rfl
      · rfl
    · rfl
  · rfl

theorem hunks_S (many : Int) (h : List (PV Y_impl_Hunk)) (hs : SmH h) (h0 : 0 ≤ many) (h1 : many ≤ 4611686018427387903) : f_S_l2Hunks many h = some ((hunksP many h, ()), ()) := by
  have hl := hs.len
  unfold f_S_l2Hunks hunksP
  rw [show w_S_l2Hunks_2 (many, h, h, (h.length : Int), 0, ()) = _ from fix_anyN (B := fun d => b_S_l2Hunks_2 d.1 d.2.1 d.2.2.1 d.2.2.2.1 d.2.2.2.2.1) h.length (badK many h) (fun i => (many, h, h, (h.length : Int), (i : Int), ())) (fun _ => .inr (false, ())) (.inl (many, h, ()))
        (fun i hi hq => by show b_S_l2Hunks_2 many h h h.length i = _; rw [stepH_S many h hs h0 h1 hi, hq]; rfl)
        (fun i hi hq => by show b_S_l2Hunks_2 many h h h.length i = _; rw [stepH_S many h hs h0 h1 hi, hq]; rfl)
        (by
          show b_S_l2Hunks_2 many h h h.length h.length = _
          unfold b_S_l2Hunks_2
          rw [decide_eq_false (Int.lt_irrefl _), cond_false])]
  cases anyN h.length (badK many h)
  · rw [if_neg (by simp), Option.bind_some]
    dsimp only
    rw [in_S, Option.bind_some]
    by_cases hn : h.length ≤ 20
    · rw [decide_eq_true (by omega : (h.length : Int) ≤ 20), cond_true, decide_eq_true hn]
      unfold inI
      cases decide (many ≥ 0) && decide (many ≤ 40) <;> rfl
    · rw [decide_eq_false (by omega : ¬ (h.length : Int) ≤ 20), cond_false, decide_eq_false hn]
      simp
  · rw [if_pos rfl]
    simp
end R
end

section
/- Lines behind hunks: both sides make the same. -/
open Go Go.Dn
namespace R
set_option linter.unusedVariables false

def stepP (l : List (List UInt8)) (a : List (List UInt8) × Int) (x : PV Y_impl_Hunk) : List (List UInt8) × Int := ((a.1 ++ cutL a.2 x.1 l) ++ x.2.2.1, x.1 + x.2.1)
def foldP (l : List (List UInt8)) (h : List (PV Y_impl_Hunk)) : List (List UInt8) × Int := h.foldl (stepP l) ([], 0)
def patchL (l : List (List UInt8)) (h : List (PV Y_impl_Hunk)) : List (List UInt8) := (foldP l h).1 ++ cutL (foldP l h).2 (l.length : Int) l

theorem linesP_len {l : List (List UInt8)} (h : linesP l = true) : l.length ≤ 40 := by
  unfold linesP at h
  simp only [Bool.and_eq_true, decide_eq_true_eq] at h
  exact h.1
theorem goodP_len {l : List (List UInt8)} (h : goodP l = true) : l.length ≤ 40 := by
  unfold goodP at h
  simp only [Bool.and_eq_true] at h
  exact linesP_len h.1

/-- What a good hunk tells. -/
theorem hunk_facts {many : Int} {h : List (PV Y_impl_Hunk)} (hh : hunksP many h = true) : 0 ≤ many ∧ many ≤ 40 ∧ h.length ≤ 20 ∧ ∀ i, i < h.length →
    0 ≤ (h.getD i H0).1 ∧ (h.getD i H0).1 ≤ many ∧ 0 ≤ (h.getD i H0).2.1 ∧ (h.getD i H0).1 + (h.getD i H0).2.1 ≤ many ∧ List.length (h.getD i H0).2.2.1 ≤ 40 ∧ linesP (h.getD i H0).2.2.1 = true ∧
      (0 < i → (h.getD (i - 1) H0).1 + (h.getD (i - 1) H0).2.1 < (h.getD i H0).1) := by
  unfold hunksP inI at hh
  simp only [Bool.and_eq_true, decide_eq_true_eq, Bool.not_eq_true'] at hh
  obtain ⟨⟨h0, h1⟩, h2, h3⟩ := hh
  have hq : ∀ i, i < h.length → badK many h i = false := fun i hi => by
    cases hb : badK many h i with
    | false => rfl
    | true => rw [anyN_iff.2 ⟨i, hi, hb⟩] at h3; cases h3
  have h4 : ∀ i, i < h.length → (0 : Int) ≤ (h.getD i H0).1 ∧ ((h.getD i H0).1 : Int) ≤ many ∧ (0 : Int) ≤ (h.getD i H0).2.1 ∧ ((h.getD i H0).1 : Int) + (h.getD i H0).2.1 ≤ many ∧ linesP (h.getD i H0).2.2.1 = true := by
    intro i hi
    have hb := hq i hi
    unfold badK badH inI at hb
    generalize h.getD i H0 = x at *
    obtain ⟨A, G, N, u⟩ := x
    have e : ∀ (A G : Int), (decide (A ≥ 0) && decide (A ≤ many)) = true → (decide (G ≥ 0) && decide (G ≤ IntKind.wrap .i64 (many - A))) = true → 0 ≤ A ∧ A ≤ many ∧ 0 ≤ G ∧ A + G ≤ many := by
      intro A G p q
      simp only [Bool.and_eq_true, decide_eq_true_eq] at p q
      rw [wrap64 (by omega) (by omega)] at q
      omega
    dsimp only at hb ⊢
    simp only [Bool.or_eq_false_iff, Bool.not_eq_false'] at hb
    obtain ⟨⟨b1, b2, b3, _⟩, _⟩ := hb
    obtain ⟨c1, c2, c3, c4⟩ := e A G b1 b2
    exact ⟨c1, c2, c3, c4, b3⟩
  refine ⟨h0, h1, h2, fun i hi => ?_⟩
  obtain ⟨a1, a2, a3, a4, a5⟩ := h4 i hi
  refine ⟨a1, a2, a3, a4, linesP_len a5, a5, fun hpos => ?_⟩
  have hb := hq i hi
  unfold badK badP at hb
  simp only [Bool.or_eq_false_iff] at hb
  have hb := hb.2
  rw [decide_eq_true (by omega : (i : Int) > 0), Bool.true_and, decide_eq_false_iff_not] at hb
  obtain ⟨b1, b2, b3, b4, _⟩ := h4 (i - 1) (by omega)
  have e : ∀ (A P G : Int), 0 ≤ P → 0 ≤ G → P + G ≤ many → many ≤ 40 → ¬ A ≤ IntKind.wrap .i64 (P + G) → P + G < A := by
    intro A P G p1 p2 p3 p4 q
    rw [wrap64 (by omega) (by omega)] at q
    omega
  exact e _ _ _ b1 b3 b4 h1 hb

theorem cut_len {l : List (List UInt8)} {a b : Int} : (cutL a b l).length ≤ l.length := by
  unfold cutL
  simp
  omega
theorem cut_mem {l : List (List UInt8)} {a b : Int} {s : List UInt8} (h : s ∈ cutL a b l) : s ∈ l := List.mem_of_mem_take (List.mem_of_mem_drop h)

def InvP (l : List (List UInt8)) (h : List (PV Y_impl_Hunk)) (i : Nat) (a : List (List UInt8) × Int) : Prop :=
  a.1.length ≤ 80 * i ∧ 0 ≤ a.2 ∧ a.2 ≤ (l.length : Int) ∧ (i = 0 → a.2 = 0) ∧ (0 < i → a.2 = (h.getD (i - 1) H0).1 + (h.getD (i - 1) H0).2.1) ∧ ∀ s ∈ a.1, s.length ≤ 4611686018427387904

theorem inv_next {l : List (List UInt8)} {h : List (PV Y_impl_Hunk)} (hl : Sm l) (hh : SmH h) (hg : hunksP (l.length : Int) h = true) {i : Nat} (hi : i < h.length) {a : List (List UInt8) × Int} (hI : InvP l h i a) :
    InvP l h (i + 1) (stepP l a h[i]) ∧ 0 ≤ a.2 ∧ a.2 ≤ (h[i].1 : Int) ∧ (h[i].1 : Int) ≤ l.length ∧ 0 ≤ (h[i].2.1 : Int) ∧ (h[i].1 : Int) + h[i].2.1 ≤ l.length ∧ List.length h[i].2.2.1 ≤ 40 ∧ a.1.length ≤ 1600 ∧ l.length ≤ 40 := by
  obtain ⟨f1, f2, f3, f4⟩ := hunk_facts hg
  have f5 := f4 i hi
  rw [getD_of hi] at f5
  obtain ⟨g1, g2, g3, g4, g5, g6, g7⟩ := f5
  obtain ⟨i1, i2, i3, i4, i5, i6⟩ := hI
  have hat : ∀ A : Int, A = h[i].1 → a.2 ≤ A := by
    intro A hA
    rcases Nat.eq_zero_or_pos i with h0 | hp
    · rw [i4 h0, hA]; exact g1
    · rw [i5 hp, hA]; exact Int.le_of_lt (g7 hp)
  have hat := hat _ rfl
  have hc : (cutL a.2 h[i].1 l).length ≤ 40 := Nat.le_trans cut_len (by omega)
  refine ⟨⟨?_, ?_, ?_, fun h => by omega, fun _ => ?_, ?_⟩, i2, hat, g2, g3, g4, g5, by omega, by omega⟩
  · show ((a.1 ++ cutL a.2 h[i].1 l) ++ h[i].2.2.1).length ≤ 80 * (i + 1)
    rw [List.length_append, List.length_append]
    omega
  · exact Int.add_nonneg g1 g3
  · exact g4
  · rw [Nat.add_sub_cancel, getD_of hi]; rfl
  · intro s hs
    rcases List.mem_append.1 hs with hs | hs
    · rcases List.mem_append.1 hs with hs | hs
      · exact i6 s hs
      · exact hl.2 s (cut_mem hs)
    · exact (hh.2 _ (List.getElem_mem hi)).2 s hs

theorem foldl_inv {α σ : Type} (xs : List α) (g : σ → α → σ) (I : Nat → σ → Prop) (h : ∀ i (hi : i < xs.length) a, I i a → I (i + 1) (g a xs[i])) (a : σ) (h0 : I 0 a) : ∀ k, k ≤ xs.length → I k ((xs.take k).foldl g a)
  | 0, _ => h0
  | k + 1, hk => by
    rw [← List.take_append_getElem (by omega : k < xs.length), List.foldl_append]
    exact h k (by omega) _ (foldl_inv xs g I h a h0 k (by omega))
theorem inv_all {l : List (List UInt8)} {h : List (PV Y_impl_Hunk)} (hl : Sm l) (hh : SmH h) (hg : hunksP (l.length : Int) h = true) : InvP l h h.length (foldP l h) := by
  have := foldl_inv h (stepP l) (InvP l h) (fun i hi a hI => (inv_next hl hh hg hi hI).1) ([], 0) ⟨by simp, Int.le_refl _, by simp, fun _ => rfl, fun h => by omega, fun s hs => by cases hs⟩ h.length (Nat.le_refl _)
  rw [List.take_length] at this
  exact this
theorem patchL_sm {l : List (List UInt8)} {h : List (PV Y_impl_Hunk)} (hl : Sm l) (hh : SmH h) (hg : hunksP (l.length : Int) h = true) : Sm (patchL l h) := by
  obtain ⟨f1, f2, f3, _⟩ := hunk_facts hg
  obtain ⟨i1, i2, i3, _, _, i6⟩ := inv_all hl hh hg
  have hc : (cutL (foldP l h).2 (l.length : Int) l).length ≤ 40 := Nat.le_trans cut_len (by omega)
  refine ⟨?_, fun s hs => ?_⟩
  · unfold patchL; rw [List.length_append]; omega
  · rcases List.mem_append.1 hs with hs | hs
    · exact i6 s hs
    · exact hl.2 s (cut_mem hs)

theorem cutB_ok {a b : Int} {n : Nat} (h0 : 0 ≤ a) (h1 : a ≤ b) (h2 : b ≤ (n : Int)) : cutB a b n = true := by
  unfold cutB
  rw [decide_eq_true h0, decide_eq_true h1, decide_eq_true h2]
  rfl

theorem patch_loop_S {l : List (List UInt8)} {h : List (PV Y_impl_Hunk)} (hl : Sm l) (hh : SmH h) (hg : hunksP (l.length : Int) h = true) :
    w_S_l2Patch_4 (l, ([] : List (List UInt8)), 0, h, (h.length : Int), 0, ()) = some (l, (foldP l h).1, (foldP l h).2, ()) := by
  have := fix_fold (B := fun d => b_S_l2Patch_4 d.1 d.2.1 d.2.2.1 d.2.2.2.1 d.2.2.2.2.1 d.2.2.2.2.2.1) h (stepP l) (fun a i => (l, a.1, a.2, h, (h.length : Int), (i : Int), ())) (fun a => (l, a.1, a.2, ())) (InvP l h)
    (fun i hi a hI => by
      obtain ⟨q0, q1, q2, q3, q4, q5, q6, q7, q8⟩ := inv_next hl hh hg hi hI
      refine ⟨q0, ?_⟩
      show b_S_l2Patch_4 l a.1 a.2 h h.length i = _
      have hlen := hh.len
      unfold b_S_l2Patch_4
      rw [decide_eq_true (by omega : (i : Int) < (h.length : Int)), cond_true, inB_lt hi, cond_true, toNat_cast, getD_of hi]
      have hc : (cutL a.2 h[i].1 l).length ≤ 40 := Nat.le_trans cut_len q8
      rw [cutB_ok q1 q2 q3, cond_true, roomB_ok (by omega), cond_true, roomB_ok (by rw [List.length_append]; omega), cond_true]
      have e : ∀ A G : Int, 0 ≤ A → 0 ≤ G → A + G ≤ (l.length : Int) → IntKind.wrap .i64 (A + G) = A + G := fun A G p1 p2 p3 => wrap64 (by omega) (by omega)
      rw [e _ _ (Int.le_trans q1 q2) q4 q5, wrap64 (by omega) (by omega)]
      simp [stepP])
    (fun a _ => by
      show b_S_l2Patch_4 l a.1 a.2 h h.length h.length = _
      unfold b_S_l2Patch_4
      rw [decide_eq_false (Int.lt_irrefl _), cond_false]) ([], 0) ⟨by simp, Int.le_refl _, by simp, fun _ => rfl, fun h => by omega, fun s hs => by cases hs⟩
  exact this.1

theorem patched_S {l : List (List UInt8)} {h : List (PV Y_impl_Hunk)} (hl : Sm l) (hh : SmH h) (hg : hunksP (l.length : Int) h = true) : f_S_l2Patch l h = some ((patchL l h, ()), ()) := by
  have h2 := inv_all hl hh hg
  obtain ⟨f1, f2, f3, _⟩ := hunk_facts hg
  obtain ⟨i1, i2, i3, _, _, i6⟩ := h2
  have hc : (cutL (foldP l h).2 (l.length : Int) l).length ≤ 40 := Nat.le_trans cut_len (by omega)
  unfold f_S_l2Patch
  rw [show w_S_l2Patch_4 (l, [], 0, h, (h.length : Int), 0, ()) = _ from patch_loop_S hl hh hg, Option.bind_some]
  dsimp only
  rw [cutB_ok i2 i3 (Int.le_refl _), cond_true, roomB_ok (by omega), cond_true]
  rfl

/-- What comes of hunks: the lines, if all is good. -/
def patchOk (l : List (List UInt8)) (h : List (PV Y_impl_Hunk)) : Bool := goodP l && (hunksP (l.length : Int) h && goodP (patchL l h))
def patchR (l : List (List UInt8)) (h : List (PV Y_impl_Hunk)) : List (List UInt8) := bif patchOk l h then patchL l h else []

theorem patch_S {l : List (List UInt8)} {h : List (PV Y_impl_Hunk)} (hl : Sm l) (hh : SmH h) : f_S_Patch l h = some ((patchR l h, patchOk l h, ()), ()) := by
  have hlen := hl.len
  unfold f_S_Patch f_S_l2Asked patchR patchOk
  rw [l1Good_S l hl, Option.bind_some]
  dsimp only
  cases hgl : goodP l
  · rfl
  · have := goodP_len hgl
    rw [cond_true, hunks_S _ h hh (by omega) (by omega), Option.bind_some, Option.bind_some]
    dsimp only
    cases hg : hunksP (l.length : Int) h
    · rfl
    · have p2 := patchL_sm hl hh hg
      rw [patched_S hl hh hg, Option.bind_some, l1Good_S _ p2, Option.bind_some]
      simp only [Bool.not_true, cond_false]
      cases goodP (patchL l h) <;> rfl
end R
end

section
/- Groups: both sides test them alike. -/
open Go Go.Dn
namespace R
set_option linter.unusedVariables false

abbrev RW := List (PV Y_impl_Row)
abbrev W0 : PV Y_impl_Row := dflt Y_impl_Row
def kd (rows : RW) (k : Nat) : Int := (rows.getD k W0).1
def badRow (rows : RW) (k : Nat) : Bool :=
  !(inI (kd rows k) 1 3) || (!(lineP (rows.getD k W0).2.1) || (decide ((k : Int) > 0) && ((kd rows k == 2) && (kd rows (k - 1) == 3))))
def chg (rows : RW) (k : Nat) : Bool := !(kd rows k == 1)
def sideL (rows : RW) (c : Int) : List (List UInt8) := (rows.filter fun (r : PV Y_impl_Row) => !(r.1 == c)).map fun r => r.2.1

def SmR (rows : RW) : Prop := rows.length ≤ 1048576 ∧ ∀ r ∈ rows, List.length (r : PV Y_impl_Row).2.1 ≤ 1048576
theorem SmR.line {rows : RW} (h : SmR rows) {k : Nat} (hk : k < rows.length) : List.length (rows.getD k W0).2.1 ≤ 4611686018427387904 := by
  rw [getD_of hk]
  have := h.2 _ (List.getElem_mem hk)
  omega

theorem anyN_succ (n : Nat) (q : Nat → Bool) : anyN (n + 1) q = (anyN n q || q n) := by
  unfold anyN
  rw [List.range_succ, List.any_append]
  simp

theorem side_next {rows : RW} {c : Int} {i : Nat} (hi : i < rows.length) : sideL (rows.take (i + 1)) c = bif !(rows[i].1 == c) then sideL (rows.take i) c ++ [rows[i].2.1] else sideL (rows.take i) c := by
  unfold sideL
  rw [← List.take_append_getElem hi, List.filter_append, List.map_append]
  cases h : (rows[i].1 == c)
  · rw [Bool.not_false, cond_true, List.filter_cons_of_pos (by simp [h])]
    rfl
  · rw [Bool.not_true, cond_false, List.filter_cons_of_neg (by simp [h])]
    simp
theorem side_len {rows : RW} {c : Int} : (sideL rows c).length ≤ rows.length := by
  unfold sideL
  rw [List.length_map]
  exact List.length_filter_le _ _
theorem side_sm {rows : RW} {c : Int} (h : SmR rows) : Sm (sideL rows c) := by
  refine ⟨Nat.le_trans side_len (Nat.le_trans h.1 (by omega)), fun s hs => ?_⟩
  unfold sideL at hs
  obtain ⟨r, hr, rfl⟩ := List.mem_map.1 hs
  exact Nat.le_trans (h.2 r ((List.mem_filter.1 hr).1)) (by omega)

theorem sideOf_I {rows : RW} {c : Int} (h : SmR rows) : f_I_sideOf rows c = some ((sideL rows c, ()), ()) := by
  have hl := h.1
  have := fix_all (B := fun d => b_I_sideOf_3 d.1 d.2.1 d.2.2.1 d.2.2.2.1 d.2.2.2.2.1) (fun i => (c, sideL (rows.take i) c, rows, (rows.length : Int), (i : Int), ())) rows.length (r := (sideL rows c, ()))
    (fun i hi => by
      show b_I_sideOf_3 c (sideL (rows.take i) c) rows rows.length i = _
      unfold b_I_sideOf_3
      have hs : (sideL (rows.take i) c).length ≤ 1048576 := Nat.le_trans side_len (by simp; omega)
      rw [decide_eq_true (by omega : (i : Int) < (rows.length : Int)), cond_true, inB_lt hi, cond_true, toNat_cast, getD_of hi, side_next hi]
      cases (rows[i].1 == c)
      · rw [Bool.not_false, cond_true, roomB_ok (by simp; omega), cond_true, Option.bind_some]
        dsimp only
        rw [wrap64 (by omega) (by omega)]
        rfl
      · rw [Bool.not_true, cond_false, Option.bind_some]
        dsimp only
        rw [wrap64 (by omega) (by omega)]
        rfl)
    (by
      show b_I_sideOf_3 c (sideL (rows.take rows.length) c) rows rows.length rows.length = _
      unfold b_I_sideOf_3
      rw [decide_eq_false (Int.lt_irrefl _), cond_false, List.take_length])
  unfold f_I_sideOf
  rw [show w_I_sideOf_3 (c, ([] : PV S_string), rows, (rows.length : Int), 0, ()) = _ from this]
  rfl

theorem old_S {g : PV Y_impl_Group} (h : SmR g.2.2.1) : f_S_l6Old g = some ((sideL g.2.2.1 3, ()), ()) := by
  have hl := h.1
  have := fix_all (B := fun d => b_S_l6Old_3 d.1 d.2.1 d.2.2.1 d.2.2.2.1) (fun i => (sideL (List.take i g.2.2.1) 3, g.2.2.1, (List.length g.2.2.1 : Int), (i : Int), ())) (List.length g.2.2.1) (r := (sideL g.2.2.1 3, ()))
    (fun i hi => by
      show b_S_l6Old_3 (sideL (List.take i g.2.2.1) 3) g.2.2.1 (List.length g.2.2.1) i = _
      unfold b_S_l6Old_3
      have hs : (sideL (List.take i g.2.2.1) 3).length ≤ 1048576 := Nat.le_trans side_len (by simp; omega)
      rw [decide_eq_true (by omega : (i : Int) < (List.length g.2.2.1 : Int)), cond_true, inB_lt hi, cond_true, toNat_cast, getD_of hi, side_next hi]
      cases (g.2.2.1[i].1 == 3)
      · rw [Bool.not_false, cond_true, roomB_ok (by simp; omega), cond_true, Option.bind_some]
        dsimp only
        rw [wrap64 (by omega) (by omega)]
        rfl
      · rw [Bool.not_true, cond_false, Option.bind_some]
        dsimp only
        rw [wrap64 (by omega) (by omega)]
        rfl)
    (by
      show b_S_l6Old_3 (sideL (List.take (List.length g.2.2.1) g.2.2.1) 3) g.2.2.1 (List.length g.2.2.1) (List.length g.2.2.1) = _
      unfold b_S_l6Old_3
      rw [decide_eq_false (Int.lt_irrefl _), cond_false, List.take_length])
  unfold f_S_l6Old
  rw [show w_S_l6Old_3 ([], g.2.2.1, (List.length g.2.2.1 : Int), 0, ()) = _ from this]
  rfl
theorem new_S {g : PV Y_impl_Group} (h : SmR g.2.2.1) : f_S_l6New g = some ((sideL g.2.2.1 2, ()), ()) := by
  have hl := h.1
  have := fix_all (B := fun d => b_S_l6New_3 d.1 d.2.1 d.2.2.1 d.2.2.2.1) (fun i => (sideL (List.take i g.2.2.1) 2, g.2.2.1, (List.length g.2.2.1 : Int), (i : Int), ())) (List.length g.2.2.1) (r := (sideL g.2.2.1 2, ()))
    (fun i hi => by
      show b_S_l6New_3 (sideL (List.take i g.2.2.1) 2) g.2.2.1 (List.length g.2.2.1) i = _
      unfold b_S_l6New_3
      have hs : (sideL (List.take i g.2.2.1) 2).length ≤ 1048576 := Nat.le_trans side_len (by simp; omega)
      rw [decide_eq_true (by omega : (i : Int) < (List.length g.2.2.1 : Int)), cond_true, inB_lt hi, cond_true, toNat_cast, getD_of hi, side_next hi]
      cases (g.2.2.1[i].1 == 2)
      · rw [Bool.not_false, cond_true, roomB_ok (by simp; omega), cond_true, Option.bind_some]
        dsimp only
        rw [wrap64 (by omega) (by omega)]
        rfl
      · rw [Bool.not_true, cond_false, Option.bind_some]
        dsimp only
        rw [wrap64 (by omega) (by omega)]
        rfl)
    (by
      show b_S_l6New_3 (sideL (List.take (List.length g.2.2.1) g.2.2.1) 2) g.2.2.1 (List.length g.2.2.1) (List.length g.2.2.1) = _
      unfold b_S_l6New_3
      rw [decide_eq_false (Int.lt_irrefl _), cond_false, List.take_length])
  unfold f_S_l6New
  rw [show w_S_l6New_3 ([], g.2.2.1, (List.length g.2.2.1 : Int), 0, ()) = _ from this]
  rfl

theorem prev_eq {rows : RW} {g : PV Y_impl_Group} (hg : g.2.2.1 = rows) {i : Nat} (hi : i < rows.length) (hl : rows.length ≤ 1048576) {x : PV Y_impl_Row} (hx : rows.getD i W0 = x) {c : Bool} :
    ((bif (decide ((i : Int) > 0)) then
        bif (x.1 == 2) then
          bif inB (IntKind.wrap .i64 ((i : Int) - 1)) (List.length g.2.2.1) then
            some (g, c, x, rows, (rows.length : Int), (i : Int), (((List.getD g.2.2.1 (IntKind.wrap .i64 ((i : Int) - 1)).toNat (dflt Y_impl_Row)).1) == 3), ())
          else none
        else some (g, c, x, rows, (rows.length : Int), (i : Int), false, ())
      else some (g, c, x, rows, (rows.length : Int), (i : Int), false, ())) : Option ((PV Y_impl_Group × PV .bool × PV Y_impl_Row × PV S_impl_Row × PV (.int .i64) × PV (.int .i64) × PV .bool × Unit))) =
      some (g, c, x, rows, (rows.length : Int), (i : Int), (decide ((i : Int) > 0) && ((kd rows i == 2) && (kd rows (i - 1) == 3))), ()) := by
  unfold kd
  rw [hx, hg]
  cases i with
  | zero => rw [decide_eq_false (by omega : ¬ (((0 : Nat) : Int) > 0))]; rfl
  | succ j =>
    rw [decide_eq_true (by omega : ((j + 1 : Nat) : Int) > 0), cond_true, Bool.true_and, show IntKind.wrap .i64 (((j + 1 : Nat) : Int) - 1) = (j : Int) from by rw [wrap64 (by omega) (by omega)]; omega, inB_lt (by omega : j < rows.length), toNat_cast, Nat.add_sub_cancel]
    cases (x.1 == 2) <;> rfl

theorem rows_I {g : PV Y_impl_Group} {rows : RW} (hg : g.2.2.1 = rows) (h : SmR rows) :
    w_I_goodGroup_5 (g, false, rows, (rows.length : Int), 0, ()) = some (if anyN rows.length (badRow rows) then .inr (false, ()) else .inl (g, anyN rows.length (chg rows), ())) := by
  have hl := h.1
  have step : ∀ i, i < rows.length → b_I_goodGroup_5 g (anyN i (chg rows)) rows rows.length i = some (if badRow rows i then .inr (.inr (false, ())) else .inl (g, anyN (i + 1) (chg rows), rows, (rows.length : Int), ((i + 1 : Nat) : Int), ())) := by
    intro i hi
    have hln := h.line hi
    unfold b_I_goodGroup_5
    rw [decide_eq_true (by omega : (i : Int) < (rows.length : Int)), cond_true, inB_lt hi, cond_true, toNat_cast, anyN_succ]
    unfold badRow chg
    generalize hx : rows.getD i W0 = x at *
    rw [in_I, Option.bind_some, line_I _ hln, Option.bind_some, prev_eq hg hi hl hx]
    rw [show kd rows i = x.1 from by unfold kd; rw [hx]]
    dsimp only
    unfold inI
    have e : IntKind.wrap .i64 ((i : Int) + 1) = ((i + 1 : Nat) : Int) := by rw [wrap64 (by omega) (by omega)]; omega
    cases decide (x.1 ≥ 1) && decide (x.1 ≤ 3)
    · rfl
    · cases lineP x.2.1
      · rfl
      · simp only [Bool.not_true, cond_false, Option.bind_some, Bool.false_or]
        cases (decide ((i : Int) > 0) && ((x.1 == 2) && (kd rows (i - 1) == 3)))
        · rw [cond_false]
          cases anyN i fun k => !(kd rows k == 1)
          · rw [cond_false, Option.bind_some]
            dsimp only
            rw [e]
            rfl
          · rw [cond_true, Option.bind_some]
            dsimp only
            rw [e]
            rfl
        · rfl
  exact fix_anyN (B := fun d => b_I_goodGroup_5 d.1 d.2.1 d.2.2.1 d.2.2.2.1 d.2.2.2.2.1) rows.length (badRow rows) (fun i => (g, anyN i (chg rows), rows, (rows.length : Int), (i : Int), ())) (fun _ => .inr (false, ())) (.inl (g, anyN rows.length (chg rows), ()))
    (fun i hi hq => by show b_I_goodGroup_5 g (anyN i (chg rows)) rows rows.length i = _; rw [step i hi, hq]; rfl)
    (fun i hi hq => by show b_I_goodGroup_5 g (anyN i (chg rows)) rows rows.length i = _; rw [step i hi, hq]; rfl)
    (by
      show b_I_goodGroup_5 g (anyN rows.length (chg rows)) rows rows.length rows.length = _
      unfold b_I_goodGroup_5
      rw [decide_eq_false (Int.lt_irrefl _), cond_false])

theorem rows_S {g : PV Y_impl_Group} {rows : RW} (hg : g.2.2.1 = rows) (h : SmR rows) :
    w_S_l6Group_3 (g, false, rows, (rows.length : Int), 0, ()) = some (if anyN rows.length (badRow rows) then .inr (false, ()) else .inl (g, anyN rows.length (chg rows), ())) := by
  have hl := h.1
  have step : ∀ i, i < rows.length → b_S_l6Group_3 g (anyN i (chg rows)) rows rows.length i = some (if badRow rows i then .inr (.inr (false, ())) else .inl (g, anyN (i + 1) (chg rows), rows, (rows.length : Int), ((i + 1 : Nat) : Int), ())) := by
    intro i hi
    have hln := h.line hi
    unfold b_S_l6Group_3
    rw [decide_eq_true (by omega : (i : Int) < (rows.length : Int)), cond_true, inB_lt hi, cond_true, toNat_cast, anyN_succ]
    unfold badRow chg
    generalize hx : rows.getD i W0 = x at *
    rw [in_S, Option.bind_some, line_S _ hln, Option.bind_some, prev_eq hg hi hl hx]
    rw [show kd rows i = x.1 from by unfold kd; rw [hx]]
    dsimp only
    unfold inI
    have e : IntKind.wrap .i64 ((i : Int) + 1) = ((i + 1 : Nat) : Int) := by rw [wrap64 (by omega) (by omega)]; omega
    cases decide (x.1 ≥ 1) && decide (x.1 ≤ 3)
    · rfl
    · cases lineP x.2.1
      · rfl
      · simp only [Bool.not_true, cond_false, Option.bind_some, Bool.false_or]
        cases (decide ((i : Int) > 0) && ((x.1 == 2) && (kd rows (i - 1) == 3)))
        · rw [cond_false]
          cases anyN i fun k => !(kd rows k == 1)
          · rw [cond_false, Option.bind_some]
            dsimp only
            rw [e]
            rfl
          · rw [cond_true, Option.bind_some]
            dsimp only
            rw [e]
            rfl
        · rfl
  exact fix_anyN (B := fun d => b_S_l6Group_3 d.1 d.2.1 d.2.2.1 d.2.2.2.1 d.2.2.2.2.1) rows.length (badRow rows) (fun i => (g, anyN i (chg rows), rows, (rows.length : Int), (i : Int), ())) (fun _ => .inr (false, ())) (.inl (g, anyN rows.length (chg rows), ()))
    (fun i hi hq => by show b_S_l6Group_3 g (anyN i (chg rows)) rows rows.length i = _; rw [step i hi, hq]; rfl)
    (fun i hi hq => by show b_S_l6Group_3 g (anyN i (chg rows)) rows rows.length i = _; rw [step i hi, hq]; rfl)
    (by
      show b_S_l6Group_3 g (anyN rows.length (chg rows)) rows rows.length rows.length = _
      unfold b_S_l6Group_3
      rw [decide_eq_false (Int.lt_irrefl _), cond_false])

def goodG (g : PV Y_impl_Group) : Bool :=
  inI g.1 0 999 && (inI g.2.1 0 999 && (inI (List.length g.2.2.1 : Int) 1 80 && (!(anyN (List.length g.2.2.1) (badRow g.2.2.1)) && (anyN (List.length g.2.2.1) (chg g.2.2.1) &&
    (goodP (sideL g.2.2.1 3) && (goodP (sideL g.2.2.1 2) && (decide (IntKind.wrap .i64 (g.1 + ((sideL g.2.2.1 3).length : Int)) ≤ 1000) && decide (IntKind.wrap .i64 (g.2.1 + ((sideL g.2.2.1 2).length : Int)) ≤ 1000))))))))

theorem group_I {g : PV Y_impl_Group} (h : SmR g.2.2.1) : f_I_goodGroup g = some ((goodG g, ()), ()) := by
  unfold f_I_goodGroup goodG f_I_Group_old f_I_Group_fresh
  rw [in_I, in_I, in_I, Option.bind_some, Option.bind_some, Option.bind_some]
  dsimp only
  unfold inI
  cases decide (g.1 ≥ 0) && decide (g.1 ≤ 999)
  · rfl
  · cases decide (g.2.1 ≥ 0) && decide (g.2.1 ≤ 999)
    · rfl
    · cases decide ((List.length g.2.2.1 : Int) ≥ 1) && decide ((List.length g.2.2.1 : Int) ≤ 80)
      · rfl
      · simp only [Bool.not_true, cond_false, Option.bind_some, Bool.true_and]
        rw [rows_I rfl h]
        cases anyN (List.length g.2.2.1) (badRow g.2.2.1)
        · rw [if_neg (by simp), Option.bind_some]
          dsimp only
          rw [sideOf_I h, Option.bind_some, sideOf_I h, Option.bind_some, Option.bind_some, Option.bind_some]
          dsimp only
          rw [goodLines_I _ (side_sm h), Option.bind_some, goodLines_I _ (side_sm h), Option.bind_some]
          dsimp only
          cases anyN (List.length g.2.2.1) (chg g.2.2.1) <;> cases goodP (sideL g.2.2.1 3) <;> cases goodP (sideL g.2.2.1 2) <;> cases decide (IntKind.wrap .i64 (g.1 + ((sideL g.2.2.1 3).length : Int)) ≤ 1000) <;> rfl
        · rfl

theorem group_S {g : PV Y_impl_Group} (h : SmR g.2.2.1) : f_S_l6Group g = some ((goodG g, ()), ()) := by
  unfold f_S_l6Group goodG
  rw [rows_S rfl h]
  cases hb : anyN (List.length g.2.2.1) (badRow g.2.2.1)
  · rw [if_neg (by simp), Option.bind_some]
    dsimp only
    cases hc : anyN (List.length g.2.2.1) (chg g.2.2.1)
    · simp
    · have hpos : 1 ≤ List.length g.2.2.1 := by
        obtain ⟨i, hi, _⟩ := anyN_iff.1 hc
        omega
      rw [cond_true, in_S, in_S, Option.bind_some, Option.bind_some, old_S h, new_S h]
      simp only [Option.bind_some]
      rw [l5Lines_S _ (side_sm h), l5Lines_S _ (side_sm h)]
      simp only [Option.bind_some]
      unfold inI
      rw [decide_eq_true (by omega : (List.length g.2.2.1 : Int) ≥ 1), Bool.true_and]
      cases decide (g.1 ≥ 0) && decide (g.1 ≤ 999) <;> cases decide (g.2.1 ≥ 0) && decide (g.2.1 ≤ 999) <;> cases decide ((List.length g.2.2.1 : Int) ≤ 80) <;> cases goodP (sideL g.2.2.1 3) <;> cases goodP (sideL g.2.2.1 2) <;>
        cases decide (IntKind.wrap .i64 (g.1 + ((sideL g.2.2.1 3).length : Int)) ≤ 1000) <;> cases decide (IntKind.wrap .i64 (g.2.1 + ((sideL g.2.2.1 2).length : Int)) ≤ 1000) <;> rfl
  · simp
end R
end

section
/- Lists of groups: both sides test them alike; groups that lead back. -/
open Go Go.Dn
namespace R
set_option linter.unusedVariables false

abbrev GR := List (PV Y_impl_Group)
abbrev G0 : PV Y_impl_Group := dflt Y_impl_Group
def oldE (x : PV Y_impl_Group) : Int := IntKind.wrap .i64 (x.1 + ((sideL x.2.2.1 3).length : Int))
def newE (x : PV Y_impl_Group) : Int := IntKind.wrap .i64 (x.2.1 + ((sideL x.2.2.1 2).length : Int))
def badGr (g : GR) (k : Nat) : Bool :=
  !(goodG (g.getD k G0)) || (decide ((k : Int) > 0) && (decide ((g.getD k G0).1 < oldE (g.getD (k - 1) G0)) || decide ((g.getD k G0).2.1 < newE (g.getD (k - 1) G0))))
def goodGs (g : GR) : Bool := decide (g.length ≤ 20) && !(anyN g.length (badGr g))
def SmG (g : GR) : Prop := g.length ≤ 1048576 ∧ ∀ x ∈ g, SmR (x : PV Y_impl_Group).2.2.1
theorem SmG.mem {g : GR} (h : SmG g) {i : Nat} (hi : i < g.length) : SmR (g.getD i G0).2.2.1 := by
  rw [getD_of hi]
  exact h.2 _ (List.getElem_mem hi)

theorem stepG_I {g : GR} (hs : SmG g) {i : Nat} (hi : i < g.length) :
    b_I_goodGroups_4 g g g.length i = some (if badGr g i then .inr (.inr (false, ())) else .inl (g, g, (g.length : Int), (i : Int) + 1, ())) := by
  have hl := hs.1
  have hm := hs.mem hi
  unfold b_I_goodGroups_4
  rw [decide_eq_true (by omega : (i : Int) < (g.length : Int)), cond_true, inB_lt hi, cond_true, toNat_cast]
  unfold badGr f_I_Group_old f_I_Group_fresh
  generalize hx : g.getD i G0 = x at *
  rw [group_I hm, Option.bind_some]
  dsimp only
  cases goodG x
  · rfl
  · rw [Bool.not_true, cond_false]
    cases i with
    | zero =>
      rw [decide_eq_false (by omega : ¬ (((0 : Nat) : Int) > 0)), cond_false, Option.bind_some]
      dsimp only
      rw [wrap64 (by omega) (by omega)]
      rfl
    | succ j =>
      have hm' := hs.mem (show j < g.length by omega)
      rw [decide_eq_true (by omega : ((j + 1 : Nat) : Int) > 0), cond_true, show IntKind.wrap .i64 (((j + 1 : Nat) : Int) - 1) = (j : Int) from by rw [wrap64 (by omega) (by omega)]; omega, inB_lt (by omega : j < g.length), cond_true, cond_true, toNat_cast, Nat.add_sub_cancel]
      generalize hy : g.getD j G0 = y at *
      rw [sideOf_I hm', Option.bind_some, Option.bind_some, sideOf_I hm', Option.bind_some, Option.bind_some, cond_true, cond_true]
      dsimp only
      unfold oldE newE
      cases decide (x.1 < IntKind.wrap .i64 (y.1 + ((sideL y.2.2.1 3).length : Int)))
      · rw [cond_false, Option.bind_some]
        dsimp only
        cases decide (x.2.1 < IntKind.wrap .i64 (y.2.1 + ((sideL y.2.2.1 2).length : Int)))
        · rw [cond_false, wrap64 (x := ((j + 1 : Nat) : Int) + 1) (by omega) (by omega)]; rfl
        · rfl
      · rfl

theorem stepG_S {g : GR} (hs : SmG g) {i : Nat} (hi : i < g.length) :
    b_S_l6Good_2 g g g.length i = some (if badGr g i then .inr (.inr (false, ())) else .inl (g, g, (g.length : Int), (i : Int) + 1, ())) := by
  have hl := hs.1
  have hm := hs.mem hi
  unfold b_S_l6Good_2
  rw [decide_eq_true (by omega : (i : Int) < (g.length : Int)), cond_true, inB_lt hi, cond_true, toNat_cast]
  unfold badGr
  generalize hx : g.getD i G0 = x at *
  rw [group_S hm, Option.bind_some]
  dsimp only
  cases goodG x
  · rfl
  · rw [Bool.not_true, cond_false]
    cases i with
    | zero =>
      rw [decide_eq_false (by omega : ¬ (((0 : Nat) : Int) > 0)), cond_false, Option.bind_some]
      dsimp only
      rw [wrap64 (by omega) (by omega)]
      rfl
    | succ j =>
      have hm' := hs.mem (show j < g.length by omega)
      rw [decide_eq_true (by omega : ((j + 1 : Nat) : Int) > 0), cond_true, show IntKind.wrap .i64 (((j + 1 : Nat) : Int) - 1) = (j : Int) from by rw [wrap64 (by omega) (by omega)]; omega, inB_lt (by omega : j < g.length), cond_true, cond_true, toNat_cast, Nat.add_sub_cancel]
      generalize hy : g.getD j G0 = y at *
      rw [old_S hm', Option.bind_some, new_S hm', Option.bind_some, cond_true, cond_true]
      dsimp only
      unfold oldE newE
      cases decide (x.1 < IntKind.wrap .i64 (y.1 + ((sideL y.2.2.1 3).length : Int)))
      · rw [cond_false, Option.bind_some]
        dsimp only
        cases decide (x.2.1 < IntKind.wrap .i64 (y.2.1 + ((sideL y.2.2.1 2).length : Int)))
        · rw [cond_false, wrap64 (x := ((j + 1 : Nat) : Int) + 1) (by omega) (by omega)]; rfl
        · rfl
      · rfl

theorem groups_I {g : GR} (hs : SmG g) : f_I_goodGroups g = some ((goodGs g, ()), ()) := by
  have hl := hs.1
  unfold f_I_goodGroups goodGs
  by_cases hn : g.length ≤ 20
  · rw [decide_eq_false (by omega : ¬ ((g.length : Int) > 20)), cond_false, decide_eq_true hn, Bool.true_and]
    rw [show w_I_goodGroups_4 (g, g, (g.length : Int), 0, ()) = _ from fix_anyN (B := fun d => b_I_goodGroups_4 d.1 d.2.1 d.2.2.1 d.2.2.2.1) g.length (badGr g) (fun i => (g, g, (g.length : Int), (i : Int), ())) (fun _ => .inr (false, ())) (.inl ())
      (fun i hi hq => by show b_I_goodGroups_4 g g g.length i = _; rw [stepG_I hs hi, hq]; rfl)
      (fun i hi hq => by show b_I_goodGroups_4 g g g.length i = _; rw [stepG_I hs hi, hq]; rfl)
      (by
        show b_I_goodGroups_4 g g g.length g.length = _
        unfold b_I_goodGroups_4
        rw [decide_eq_false (Int.lt_irrefl _), cond_false])]
    cases anyN g.length (badGr g) <;> rfl
  · rw [decide_eq_true (by omega : (g.length : Int) > 20), cond_true, decide_eq_false hn]; rfl

theorem groups_S {g : GR} (hs : SmG g) : f_S_l6Good g = some ((goodGs g, ()), ()) := by
  have hl := hs.1
  unfold f_S_l6Good goodGs
  rw [show w_S_l6Good_2 (g, g, (g.length : Int), 0, ()) = _ from fix_anyN (B := fun d => b_S_l6Good_2 d.1 d.2.1 d.2.2.1 d.2.2.2.1) g.length (badGr g) (fun i => (g, g, (g.length : Int), (i : Int), ())) (fun _ => .inr (false, ())) (.inl (g, ()))
      (fun i hi hq => by show b_S_l6Good_2 g g g.length i = _; rw [stepG_S hs hi, hq]; rfl)
      (fun i hi hq => by show b_S_l6Good_2 g g g.length i = _; rw [stepG_S hs hi, hq]; rfl)
      (by
        show b_S_l6Good_2 g g g.length g.length = _
        unfold b_S_l6Good_2
        rw [decide_eq_false (Int.lt_irrefl _), cond_false])]
  cases anyN g.length (badGr g)
  · rw [if_neg (by simp), Option.bind_some]
    dsimp only
    by_cases hn : g.length ≤ 20
    · rw [decide_eq_true (by omega : (g.length : Int) ≤ 20), decide_eq_true hn]; rfl
    · rw [decide_eq_false (by omega : ¬ (g.length : Int) ≤ 20), decide_eq_false hn]; rfl
  · rw [if_pos rfl]; simp

theorem SmG.of {e : TypeId} {g : GR} (h : tot (.slice e Y_impl_Group) g ≤ 1048576) : SmG g := by
  refine ⟨?_, fun x hx => ?_⟩
  · have h' := h
    rw [tot_slice] at h'
    omega
  · have := tot_all h x hx
    refine ⟨?_, fun r hr => ?_⟩
    · simp only [tot] at this
      omega
    · have h2 : tot S_impl_Row x.2.2.1 ≤ 1048576 := by
        simp only [tot] at this ⊢
        omega
      have := tot_all (e := _) h2 r hr
      simp only [tot] at this
      omega
end R
end

section
/- Numbers, ranges and rows as texts: both sides write the same. -/
open Go Go.Dn
namespace R
set_option linter.unusedVariables false

theorem wrap8 {x : Int} (h1 : 0 ≤ x) (h2 : x ≤ 255) : IntKind.wrap .u8 x = x := by
  simp [IntKind.wrap, IntKind.signed, IntKind.bits]
  omega

abbrev dec (n : Nat) : List UInt8 := Lib.decDigits n
theorem dec_len (n : Nat) (h : n ≤ 1000000) : (dec n).length ≤ 21 := by
  have := Lib.itoa_length_le (n : Int) (by omega) (by omega)
  rwa [Lib.itoa_nonneg] at this

theorem dig_one {n : Nat} (h : n < 10) : bytesOfInts [IntKind.wrap .u8 (IntKind.wrap .i64 (48 + (n : Int)))] = [UInt8.ofNat (48 + n)] := by
  rw [wrap64 (by omega) (by omega), wrap8 (by omega) (by omega)]
  show [UInt8.ofNat ((48 + (n : Int)).toNat)] = _
  congr 2

theorem num_n : ∀ (f n : Nat), n < f → n ≤ 1000000 → fn_S_l1Num f (n : Int) = some ((dec n, ()), ())
  | 0, n, h, _ => by omega
  | f + 1, n, h, hb => by
    show fr_S_l1Num (fn_S_l1Num f) (n : Int) = _
    unfold fr_S_l1Num
    by_cases hn : n < 10
    · rw [decide_eq_true (by omega : (n : Int) < 10), cond_true, dig_one hn, show dec n = _ from Lib.decDigits_one hn]
    · rw [decide_eq_false (by omega : ¬ (n : Int) < 10), cond_false, show ((10 : Nat) == 0) = false from rfl, cond_false]
      rw [show (n : Int).tdiv 10 = ((n / 10 : Nat) : Int) from by rw [Int.tdiv_eq_ediv_of_nonneg (by omega)]; omega, show (n : Int).tmod 10 = ((n % 10 : Nat) : Int) from by rw [Int.tmod_eq_emod_of_nonneg (by omega)]; omega]
      rw [wrap64 (x := ((n / 10 : Nat) : Int)) (by omega) (by omega), num_n f (n / 10) (by omega) (by omega), Option.bind_some, cond_false]
      have hl := dec_len (n / 10) (by omega)
      rw [dig_one (by omega)]
      dsimp only
      rw [decide_eq_true (by simp only [List.length_cons, List.length_nil]; omega), cond_true]
      rw [show dec n = dec (n / 10) ++ [UInt8.ofNat (48 + n % 10)] from by
        show Lib.decDigits n = _
        rw [Lib.decDigits, dif_neg hn]]

theorem num_S (n : Nat) (h : n ≤ 1000000) : f_S_l1Num (n : Int) = some ((dec n, ()), ()) := by
  unfold f_S_l1Num
  exact num_n _ n (by simp) h
theorem num_I (n : Nat) (h : n ≤ 1000000) : f_strconv_Itoa (n : Int) = some ((dec n, ()), ()) := by
  unfold f_strconv_Itoa itoaF
  rw [decide_eq_true (by omega), decide_eq_true (by omega : (n : Int) ≤ 9223372036854775807), Lib.itoa_nonneg]
  rfl

def numb (a m : Nat) : Nat := if 0 < m then a + 1 else a
def countT (a m : Nat) : List UInt8 := if m = 1 then dec (numb a m) else dec (numb a m) ++ ([44] ++ dec m)
theorem numb_le {a m : Nat} (h : a ≤ 10000) : numb a m ≤ 10001 := by unfold numb; split <;> omega
theorem countT_len {a m : Nat} (ha : a ≤ 10000) (hm : m ≤ 10000) : (countT a m).length ≤ 43 := by
  have h1 := dec_len (numb a m) (Nat.le_trans (numb_le ha) (by omega))
  have h2 := dec_len m (by omega)
  unfold countT
  split
  · omega
  · simp only [List.length_append, List.length_cons, List.length_nil]; omega

theorem numb_eq (a m : Nat) (ha : a ≤ 10000) : (bif decide ((m : Int) > 0) then some ((IntKind.wrap .i64 ((a : Int) + 1), ()), ()) else some (((a : Int), ()), ()) : Option (PVs [.int .i64] × PVs [])) = some ((((numb a m : Nat) : Int), ()), ()) := by
  unfold numb
  by_cases h : 0 < m
  · rw [decide_eq_true (by omega : (m : Int) > 0), if_pos h, cond_true, wrap64 (by omega) (by omega)]; try rfl
  · rw [decide_eq_false (by omega : ¬ (m : Int) > 0), if_neg h, cond_false]; try rfl
theorem number_S (a m : Nat) (ha : a ≤ 10000) : f_S_l4Number (a : Int) (m : Int) = some ((((numb a m : Nat) : Int), ()), ()) := by unfold f_S_l4Number; exact numb_eq a m ha
theorem number_I (a m : Nat) (ha : a ≤ 10000) : f_I_numberOf (a : Int) (m : Int) = some ((((numb a m : Nat) : Int), ()), ()) := by unfold f_I_numberOf; exact numb_eq a m ha

theorem count_S (a m : Nat) (ha : a ≤ 10000) (hm : m ≤ 10000) : f_S_l4Count (a : Int) (m : Int) = some ((countT a m, ()), ()) := by
  have hn := numb_le (m := m) ha
  have h1 := dec_len (numb a m) (by omega)
  have h2 := dec_len m (by omega)
  unfold f_S_l4Count
  rw [number_S a m ha, Option.bind_some]
  dsimp only
  rw [num_S _ (by omega), Option.bind_some, num_S m (by omega), Option.bind_some]
  dsimp only
  unfold countT
  by_cases h : m = 1
  · rw [show ((m : Int) == 1) = true from by rw [beq_iff_eq]; omega, if_pos h]; rfl
  · rw [show ((m : Int) == 1) = false from by rw [beq_eq_false_iff_ne]; omega, if_neg h, Bool.not_false, cond_true, decide_eq_true (by simp only [List.length_cons, List.length_nil]; omega), cond_true, decide_eq_true (by simp only [List.length_append, List.length_cons, List.length_nil]; omega), cond_true]; rfl
theorem count_I (a m : Nat) (ha : a ≤ 10000) (hm : m ≤ 10000) : f_I_countOf (a : Int) (m : Int) = some ((countT a m, ()), ()) := by
  have hn := numb_le (m := m) ha
  have h1 := dec_len (numb a m) (by omega)
  have h2 := dec_len m (by omega)
  unfold f_I_countOf
  rw [number_I a m ha, Option.bind_some]
  dsimp only
  rw [num_I _ (by omega), Option.bind_some, num_I m (by omega), Option.bind_some]
  dsimp only
  unfold countT
  by_cases h : m = 1
  · rw [show ((m : Int) == 1) = true from by rw [beq_iff_eq]; omega, if_pos h]; rfl
  · rw [show ((m : Int) == 1) = false from by rw [beq_eq_false_iff_ne]; omega, if_neg h, Bool.not_false, cond_true, decide_eq_true (by simp only [List.length_cons, List.length_nil]; omega), cond_true, decide_eq_true (by simp only [List.length_append, List.length_cons, List.length_nil]; omega), cond_true]; rfl

/-! ### rows -/
def none10 : List UInt8 := [10, 92, 32, 110, 111, 110, 101, 10]
def shownT (sg s : List UInt8) : List UInt8 := bif endP s then sg ++ s else (sg ++ s) ++ none10
theorem shownT_len (sg s : List UInt8) : (shownT sg s).length ≤ sg.length + s.length + 8 := by
  unfold shownT none10
  cases endP s
  · simp only [cond_false, List.length_append, List.length_cons, List.length_nil]; omega
  · simp only [cond_true, List.length_append]; omega

theorem shown_S (sg s : List UInt8) (h0 : sg.length ≤ 10) (h1 : 1 ≤ s.length) (h2 : s.length ≤ 100) : f_S_l5Shown sg s = some ((shownT sg s, ()), ()) := by
  unfold f_S_l5Shown shownT none10
  rw [ends_S s h1 (by omega), Option.bind_some]
  dsimp only
  rw [decide_eq_true (by omega), cond_true, cond_true, decide_eq_true (by simp only [List.length_append, List.length_cons, List.length_nil]; omega), cond_true]
  cases endP s <;> rfl
theorem shown_I (sg s : List UInt8) (h0 : sg.length ≤ 10) (h2 : s.length ≤ 100) : f_I_shown sg s = some ((shownT sg s, ()), ()) := by
  unfold f_I_shown shownT none10
  rw [ends_I s (by omega), Option.bind_some]
  dsimp only
  rw [decide_eq_true (by omega), cond_true, cond_true, decide_eq_true (by simp only [List.length_append, List.length_cons, List.length_nil]; omega), cond_true, decide_eq_true (by simp only [List.length_append, List.length_cons, List.length_nil]; omega), cond_true]
  cases endP s
  · rw [cond_false, cond_false, List.append_assoc (sg ++ s)]; rfl
  · rfl

def RowOk (r : PV Y_impl_Row) : Prop := (r.1 = 1 ∨ r.1 = 2 ∨ r.1 = 3) ∧ 1 ≤ List.length r.2.1 ∧ List.length r.2.1 ≤ 30
theorem rowsOk {g : PV Y_impl_Group} (h : goodG g = true) : List.length g.2.2.1 ≤ 80 ∧ ∀ r ∈ (g.2.2.1 : RW), RowOk r := by
  unfold goodG inI at h
  simp only [Bool.and_eq_true, decide_eq_true_eq, Bool.not_eq_true'] at h
  obtain ⟨_, _, ⟨h1, h2⟩, h3, _⟩ := h
  refine ⟨by omega, fun r hr => ?_⟩
  obtain ⟨k, hk, rfl⟩ := List.mem_iff_getElem.1 hr
  have hb : badRow g.2.2.1 k = false := by
    cases hb : badRow g.2.2.1 k with
    | false => rfl
    | true => rw [anyN_iff.2 ⟨k, hk, hb⟩] at h3; cases h3
  unfold badRow inI kd at hb
  rw [getD_of hk] at hb
  simp only [Bool.or_eq_false_iff, Bool.not_eq_false', Bool.and_eq_true, decide_eq_true_eq] at hb
  obtain ⟨⟨b1, b2⟩, b3, _⟩ := hb
  have := line_len b3
  have e : ∀ z : Int, z ≥ 1 → z ≤ 3 → z = 1 ∨ z = 2 ∨ z = 3 := fun z _ _ => by omega
  exact ⟨e _ b1 b2, this.1, this.2⟩

def signT (k : Int) : List UInt8 := cutL k (IntKind.wrap .i64 (k + 1)) [63, 32, 45, 43]
def rowT (r : PV Y_impl_Row) : List UInt8 := shownT (signT r.1) r.2.1
def rowsT (rows : RW) : List UInt8 := rows.flatMap rowT
theorem sign_ok {k : Int} (h : k = 1 ∨ k = 2 ∨ k = 3) : cutB k (IntKind.wrap .i64 (k + 1)) ([63, 32, 45, 43] : List Nat).length = true ∧ (signT k).length = 1 := by
  rcases h with rfl | rfl | rfl <;> exact ⟨by decide, by decide⟩
theorem sign_S {k : Int} (h : k = 1 ∨ k = 2 ∨ k = 3) : f_S_l7Sign k = some ((signT k, ()), ()) := by
  unfold f_S_l7Sign
  rw [(sign_ok h).1]; rfl
theorem sign_I {r : PV Y_impl_Row} (h : r.1 = 1 ∨ r.1 = 2 ∨ r.1 = 3) : f_I_Row_sign r = some ((signT r.1, ()), ()) := by
  unfold f_I_Row_sign
  rw [(sign_ok h).1]; rfl
theorem rowT_len {r : PV Y_impl_Row} (h : RowOk r) : (rowT r).length ≤ 39 := by
  have h1 := shownT_len (signT r.1) r.2.1
  have h2 := (sign_ok h.1).2
  have h3 := h.2.2
  unfold rowT
  omega

theorem foldl_app {α : Type} (f : α → List UInt8) : ∀ (l : List α) (a : List UInt8), l.foldl (fun a r => a ++ f r) a = a ++ l.flatMap f
  | [], a => by simp
  | x :: l, a => by rw [List.foldl_cons, foldl_app f l, List.flatMap_cons, List.append_assoc]

theorem flat_len {α : Type} (f : α → List UInt8) (n : Nat) : ∀ (l : List α), (∀ x ∈ l, (f x).length ≤ n) → (l.flatMap f).length ≤ n * l.length
  | [], _ => by simp
  | x :: l, h => by
    have h1 := h x (List.mem_cons_self ..)
    have h2 := flat_len f n l fun y hy => h y (List.mem_cons_of_mem _ hy)
    rw [List.flatMap_cons, List.length_append, List.length_cons, Nat.mul_add]
    omega

theorem rowsT_len {rows : RW} (hl : rows.length ≤ 80) (hr : ∀ r ∈ rows, RowOk r) : (rowsT rows).length ≤ 3120 := by
  have := flat_len rowT 39 rows fun r h => rowT_len (hr r h)
  unfold rowsT
  omega

theorem rowsText_I {rows : RW} (hl : rows.length ≤ 80) (hr : ∀ r ∈ rows, RowOk r) : f_I_rowsText rows = some ((rowsT rows, ()), ()) := by
  have hf := fix_fold (B := fun d => b_I_rowsText_3 d.1 d.2.1 d.2.2.1 d.2.2.2.1) rows (fun a r => a ++ rowT r) (fun a i => (a, rows, (rows.length : Int), (i : Int), ())) (fun a => (a, ())) (fun i a => a.length ≤ 39 * i)
    (fun i hi a hI => by
      have hx := hr _ (List.getElem_mem hi)
      have ht := rowT_len hx
      refine ⟨by rw [List.length_append]; omega, ?_⟩
      show b_I_rowsText_3 a rows rows.length i = _
      unfold b_I_rowsText_3
      rw [decide_eq_true (by omega : (i : Int) < (rows.length : Int)), cond_true, inB_lt hi, cond_true, toNat_cast, getD_of hi, sign_I hx.1, Option.bind_some, shown_I _ _ (by show (signT rows[i].1).length ≤ _; have := (sign_ok hx.1).2; omega) (by have := hx.2.2; omega), Option.bind_some]
      dsimp only
      rw [show shownT (signT rows[i].1) rows[i].2.1 = rowT rows[i] from rfl, decide_eq_true (by omega), cond_true, wrap64 (by omega) (by omega)]
      rfl)
    (fun a _ => by
      show b_I_rowsText_3 a rows rows.length rows.length = _
      unfold b_I_rowsText_3
      rw [decide_eq_false (Int.lt_irrefl _), cond_false]) [] (Nat.zero_le _)
  unfold f_I_rowsText
  rw [show w_I_rowsText_3 ([], rows, (rows.length : Int), 0, ()) = _ from hf.1, Option.bind_some, foldl_app]
  rfl

def headT (x : PV Y_impl_Group) : List UInt8 :=
  ((([64, 64, 32, 45] ++ countT x.1.toNat (sideL x.2.2.1 3).length) ++ [32, 43]) ++ countT x.2.1.toNat (sideL x.2.2.1 2).length) ++ [32, 64, 64, 10]
def groupT (x : PV Y_impl_Group) : List UInt8 := headT x ++ rowsT x.2.2.1
def textG (g : GR) : List UInt8 := g.flatMap groupT

theorem group_facts {x : PV Y_impl_Group} (h : goodG x = true) : (∃ a : Nat, x.1 = (a : Int) ∧ a ≤ 999) ∧ (∃ b : Nat, x.2.1 = (b : Int) ∧ b ≤ 999) ∧ (sideL x.2.2.1 3).length ≤ 80 ∧ (sideL x.2.2.1 2).length ≤ 80 := by
  obtain ⟨h80, _⟩ := rowsOk h
  unfold goodG inI at h
  simp only [Bool.and_eq_true, decide_eq_true_eq, Bool.not_eq_true'] at h
  obtain ⟨⟨a1, a2⟩, ⟨b1, b2⟩, _⟩ := h
  have e : ∀ z : Int, z ≥ 0 → z ≤ 999 → ∃ a : Nat, z = (a : Int) ∧ a ≤ 999 := fun z _ _ => ⟨z.toNat, by omega, by omega⟩
  refine ⟨e _ a1 a2, e _ b1 b2, Nat.le_trans side_len h80, Nat.le_trans side_len h80⟩
theorem headT_len {x : PV Y_impl_Group} (h : goodG x = true) : (headT x).length ≤ 100 := by
  obtain ⟨⟨a, ea, ha⟩, ⟨b, eb, hb⟩, h3, h4⟩ := group_facts h
  unfold headT
  have c1 := countT_len (a := a) (m := (sideL x.2.2.1 3).length) (by omega) (by omega)
  have c2 := countT_len (a := b) (m := (sideL x.2.2.1 2).length) (by omega) (by omega)
  rw [ea, eb, toNat_cast, toNat_cast]
  simp only [List.length_append, List.length_cons, List.length_nil]
  omega
theorem groupT_len {x : PV Y_impl_Group} (h : goodG x = true) : (groupT x).length ≤ 3220 := by
  have h1 := headT_len h
  have h2 := rowsT_len (rowsOk h).1 (rowsOk h).2
  unfold groupT
  rw [List.length_append]
  omega

theorem good_mem' {g : GR} (hg : goodGs g = true) {i : Nat} (hi : i < g.length) : goodG g[i] = true ∧ g.length ≤ 20 := by
  unfold goodGs at hg
  simp only [Bool.and_eq_true, decide_eq_true_eq, Bool.not_eq_true'] at hg
  obtain ⟨h1, h2⟩ := hg
  refine ⟨?_, h1⟩
  cases hb : goodG g[i] with
  | true => rfl
  | false =>
    have : anyN g.length (badGr g) = true := anyN_iff.2 ⟨i, hi, by unfold badGr; rw [getD_of hi, hb]; rfl⟩
    rw [this] at h2; cases h2

theorem groupsText_I' {g : GR} (hs : SmG g) (hg : goodGs g = true) : f_I_groupsText g = some ((textG g, ()), ()) := by
  have hl := hs.1
  have hf := fix_fold (B := fun d => b_I_groupsText_3 d.1 d.2.1 d.2.2.1 d.2.2.2.1) g (fun a x => a ++ groupT x) (fun a i => (a, g, (g.length : Int), (i : Int), ())) (fun a => (a, ())) (fun i a => a.length ≤ 3220 * i)
    (fun i hi a hI => by
      have hm := hs.2 _ (List.getElem_mem hi)
      obtain ⟨hx, h20⟩ := good_mem' hg hi
      have ht := groupT_len hx
      obtain ⟨⟨p, ep, hp⟩, ⟨q, eq, hq⟩, h3, h4⟩ := group_facts hx
      obtain ⟨r1, r2⟩ := rowsOk hx
      refine ⟨by rw [List.length_append]; omega, ?_⟩
      show b_I_groupsText_3 a g g.length i = _
      unfold b_I_groupsText_3 f_I_Group_old f_I_Group_fresh f_I_headText
      have c1 := countT_len (a := p) (m := (sideL g[i].2.2.1 3).length) (by omega) (by omega)
      have c2 := countT_len (a := q) (m := (sideL g[i].2.2.1 2).length) (by omega) (by omega)
      have hh := headT_len hx
      have hr := rowsT_len r1 r2
      rw [decide_eq_true (by omega : (i : Int) < (g.length : Int)), cond_true, inB_lt hi, cond_true, toNat_cast, getD_of hi, sideOf_I hm, Option.bind_some, Option.bind_some, sideOf_I hm]
      dsimp only
      rw [ep, count_I p _ (by omega) (by omega), Option.bind_some, Option.bind_some, Option.bind_some]
      dsimp only
      rw [eq, count_I q _ (by omega) (by omega), Option.bind_some]
      dsimp only
      rw [decide_eq_true (by simp only [List.length_cons, List.length_nil]; omega), cond_true, decide_eq_true (by simp only [List.length_append, List.length_cons, List.length_nil]; omega), cond_true, decide_eq_true (by simp only [List.length_append, List.length_cons, List.length_nil]; omega), cond_true, decide_eq_true (by simp only [List.length_append, List.length_cons, List.length_nil]; omega), cond_true, Option.bind_some]
      dsimp only
      rw [rowsText_I r1 r2, Option.bind_some]
      dsimp only
      have e : ((([64, 64, 32, 45] ++ countT p (sideL g[i].2.2.1 3).length) ++ [32, 43]) ++ countT q (sideL g[i].2.2.1 2).length) ++ [32, 64, 64, 10] = headT g[i] := by
        unfold headT
        rw [ep, eq, toNat_cast, toNat_cast]
      rw [e, decide_eq_true (by omega), cond_true, decide_eq_true (by rw [List.length_append]; omega), cond_true, wrap64 (by omega) (by omega)]
      rfl)
    (fun a _ => by
      show b_I_groupsText_3 a g g.length g.length = _
      unfold b_I_groupsText_3
      rw [decide_eq_false (Int.lt_irrefl _), cond_false]) [] (Nat.zero_le _)
  unfold f_I_groupsText
  rw [show w_I_groupsText_3 ([], g, (g.length : Int), 0, ()) = _ from hf.1, Option.bind_some, foldl_app]
  rfl

theorem rows_loop_S {rows : RW} (hl : rows.length ≤ 80) (hr : ∀ r ∈ rows, RowOk r) (t3 : List UInt8) (ht3 : t3.length ≤ 1000000) (t8 : PV S_impl_Group) (t9 t10 : Int) :
    w_S_l7Text_7 (t3, t8, t9, t10, rows, (rows.length : Int), 0, ()) = some (t3 ++ rowsT rows, t8, t9, t10, ()) := by
  have hf := fix_fold (B := fun d => b_S_l7Text_7 d.1 d.2.1 d.2.2.1 d.2.2.2.1 d.2.2.2.2.1 d.2.2.2.2.2.1 d.2.2.2.2.2.2.1) rows (fun a r => a ++ rowT r) (fun a i => (a, t8, t9, t10, rows, (rows.length : Int), (i : Int), ())) (fun a => (a, t8, t9, t10, ())) (fun i a => a.length ≤ 1000000 + 39 * i)
    (fun i hi a hI => by
      have hx := hr _ (List.getElem_mem hi)
      have ht := rowT_len hx
      refine ⟨by rw [List.length_append]; omega, ?_⟩
      show b_S_l7Text_7 a t8 t9 t10 rows rows.length i = _
      unfold b_S_l7Text_7
      rw [decide_eq_true (by omega : (i : Int) < (rows.length : Int)), cond_true, inB_lt hi, cond_true, toNat_cast, getD_of hi, sign_S hx.1, Option.bind_some, shown_S _ _ (by show (signT rows[i].1).length ≤ _; have := (sign_ok hx.1).2; omega) hx.2.1 (by have := hx.2.2; omega), Option.bind_some]
      dsimp only
      rw [show shownT (signT rows[i].1) rows[i].2.1 = rowT rows[i] from rfl, decide_eq_true (by omega), cond_true, wrap64 (by omega) (by omega)]
      rfl)
    (fun a _ => by
      show b_S_l7Text_7 a t8 t9 t10 rows rows.length rows.length = _
      unfold b_S_l7Text_7
      rw [decide_eq_false (Int.lt_irrefl _), cond_false]) t3 ht3
  rw [foldl_app] at hf
  exact hf.1

theorem groupsText_S' {g : GR} (hs : SmG g) (hg : goodGs g = true) : f_S_l7Text g = some ((textG g, ()), ()) := by
  have hl := hs.1
  have hf := fix_fold (B := fun d => b_S_l7Text_3 d.1 d.2.1 d.2.2.1 d.2.2.2.1) g (fun a x => a ++ groupT x) (fun a i => (a, g, (g.length : Int), (i : Int), ())) (fun a => (a, ())) (fun i a => a.length ≤ 3220 * i)
    (fun i hi a hI => by
      have hm := hs.2 _ (List.getElem_mem hi)
      obtain ⟨hx, h20⟩ := good_mem' hg hi
      have ht := groupT_len hx
      obtain ⟨⟨p, ep, hp⟩, ⟨q, eq, hq⟩, h3, h4⟩ := group_facts hx
      obtain ⟨r1, r2⟩ := rowsOk hx
      refine ⟨by rw [List.length_append]; omega, ?_⟩
      show b_S_l7Text_3 a g g.length i = _
      unfold b_S_l7Text_3
      have c1 := countT_len (a := p) (m := (sideL g[i].2.2.1 3).length) (by omega) (by omega)
      have c2 := countT_len (a := q) (m := (sideL g[i].2.2.1 2).length) (by omega) (by omega)
      have hh := headT_len hx
      have hr := rowsT_len r1 r2
      rw [decide_eq_true (by omega : (i : Int) < (g.length : Int)), cond_true, inB_lt hi, cond_true, toNat_cast, getD_of hi, old_S hm, Option.bind_some, new_S hm]
      dsimp only
      rw [ep, count_S p _ (by omega) (by omega), Option.bind_some, Option.bind_some]
      dsimp only
      rw [eq, count_S q _ (by omega) (by omega), Option.bind_some]
      dsimp only
      rw [decide_eq_true (by simp only [List.length_cons, List.length_nil]; omega), cond_true, decide_eq_true (by simp only [List.length_append, List.length_cons, List.length_nil]; omega), cond_true, decide_eq_true (by simp only [List.length_append, List.length_cons, List.length_nil]; omega), cond_true, decide_eq_true (by simp only [List.length_append, List.length_cons, List.length_nil]; omega), cond_true]
      have e : ((([64, 64, 32, 45] ++ countT p (sideL g[i].2.2.1 3).length) ++ [32, 43]) ++ countT q (sideL g[i].2.2.1 2).length) ++ [32, 64, 64, 10] = headT g[i] := by
        unfold headT
        rw [ep, eq, toNat_cast, toNat_cast]
      rw [e, decide_eq_true (by omega), cond_true, rows_loop_S r1 r2 _ (by rw [List.length_append]; omega), Option.bind_some]
      dsimp only
      rw [wrap64 (by omega) (by omega), List.append_assoc]
      rfl)
    (fun a _ => by
      show b_S_l7Text_3 a g g.length g.length = _
      unfold b_S_l7Text_3
      rw [decide_eq_false (Int.lt_irrefl _), cond_false]) [] (Nat.zero_le _)
  unfold f_S_l7Text
  rw [show w_S_l7Text_3 ([], g, (g.length : Int), 0, ()) = _ from hf.1, Option.bind_some, foldl_app]
  rfl

def gtOk (g : GR) : Bool := goodGs g && decide ((textG g).length ≤ 3000)
def gtR (g : GR) : List UInt8 := bif gtOk g then textG g else []
theorem groupsTextR_I {g : GR} (hs : SmG g) : f_I_GroupsText g = some ((gtR g, gtOk g, ()), ()) := by
  unfold f_I_GroupsText gtR gtOk f_I_short
  rw [groups_I hs, Option.bind_some]
  dsimp only
  cases hg : goodGs g
  · rfl
  · rw [Bool.not_true, cond_false, groupsText_I' hs hg, Option.bind_some]
    dsimp only
    by_cases h : (textG g).length ≤ 3000
    · rw [decide_eq_false (by omega : ¬ ((textG g).length : Int) > 3000), decide_eq_true h]; rfl
    · rw [decide_eq_true (by omega : ((textG g).length : Int) > 3000), decide_eq_false h]; rfl
theorem groupsTextR_S {g : GR} (hs : SmG g) : f_S_GroupsText g = some ((gtR g, gtOk g, ()), ()) := by
  unfold f_S_GroupsText gtR gtOk
  rw [groups_S hs, Option.bind_some]
  dsimp only
  cases hg : goodGs g
  · rfl
  · rw [Bool.not_true, cond_false, groupsText_S' hs hg, Option.bind_some, Option.bind_some]
    dsimp only
    by_cases h : (textG g).length ≤ 3000
    · rw [decide_eq_false (by omega : ¬ ((textG g).length : Int) > 3000), decide_eq_true h, cond_false, groupsText_S' hs hg, Option.bind_some]; rfl
    · rw [decide_eq_true (by omega : ((textG g).length : Int) > 3000), decide_eq_false h]; rfl
end R
end

section
/- Groups of hunks: both sides make the same. -/
open Go Go.Dn
namespace R
set_option linter.unusedVariables false

abbrev TX := List (List UInt8)
abbrev HK := List (PV Y_impl_Hunk)
def rowsK (k : Int) (lines : TX) : RW := lines.map fun s => ((k, (s, ())) : PV Y_impl_Row)
theorem rowsK_len (k : Int) (l : TX) : (rowsK k l).length = l.length := by unfold rowsK; rw [List.length_map]
theorem foldl_row (k : Int) : ∀ (l : TX) (a : RW), l.foldl (fun (a : RW) s => a ++ [((k, (s, ())) : PV Y_impl_Row)]) a = a ++ rowsK k l
  | [], a => by simp [rowsK]
  | x :: l, a => by rw [List.foldl_cons, foldl_row k l]; simp [rowsK]

end R
end

section
/- Groups of hunks, the whole: both sides make the same. -/
open Go Go.Dn
namespace R
set_option linter.unusedVariables false

abbrev St3 := RW × Int × Int
def stepR (l : TX) (a : St3) (x : PV Y_impl_Hunk) : St3 :=
  (((a.1 ++ rowsK 1 (cutL a.2.1 x.1 l)) ++ rowsK 2 (cutL x.1 (x.1 + x.2.1) l)) ++ rowsK 3 x.2.2.1, x.1 + x.2.1, a.2.2 + ((List.length x.2.2.1 : Int) - x.2.1))
def segL (h : HK) (i n : Nat) : HK := (h.drop i).take n
theorem segL_len {h : HK} {i n : Nat} (hn : i + n ≤ h.length) : (segL h i n).length = n := by unfold segL; simp; omega
theorem segL_at {h : HK} {i n k : Nat} (hn : i + n ≤ h.length) (hk : k < n) : (segL h i n).getD k H0 = h.getD (i + k) H0 := by
  rw [getD_of (by rw [segL_len hn]; exact hk), getD_of (by omega)]
  simp [segL]

/-- What is known on the way through hunks that stand near one another. -/
structure SegI (l : TX) (s : HK) (M : Int) (k : Nat) (a : St3) : Prop where
  rows : a.1.length ≤ 120 * k
  at0 : 0 ≤ a.2.1
  at1 : a.2.1 ≤ (l.length : Int)
  next : k < s.length → a.2.1 ≤ (s.getD k H0).1
  m0 : M - 100 * k ≤ a.2.2
  m1 : a.2.2 ≤ M + 100 * k

structure SegOk (l : TX) (s : HK) : Prop where
  l40 : l.length ≤ 40
  len : s.length ≤ 20
  at_ : ∀ k, k < s.length → 0 ≤ (s.getD k H0).1 ∧ 0 ≤ (s.getD k H0).2.1 ∧ (s.getD k H0).1 + (s.getD k H0).2.1 ≤ (l.length : Int) ∧ List.length (s.getD k H0).2.2.1 ≤ 40 ∧ (k + 1 < s.length → (s.getD k H0).1 + (s.getD k H0).2.1 ≤ (s.getD (k + 1) H0).1)

theorem segOk {l : TX} {h : HK} (hl : l.length ≤ 40) (hg : hunksP (l.length : Int) h = true) {i n : Nat} (hn : i + n ≤ h.length) : SegOk l (segL h i n) := by
  obtain ⟨_, _, h20, f⟩ := hunk_facts hg
  have e := segL_len hn
  refine ⟨hl, by omega, fun k hk => ?_⟩
  rw [segL_at hn (by omega)]
  obtain ⟨a1, _, a3, a4, a5, _, _⟩ := f (i + k) (by omega)
  refine ⟨a1, a3, a4, a5, fun hk' => ?_⟩
  rw [segL_at hn (by omega)]
  obtain ⟨_, _, _, _, _, _, b⟩ := f (i + (k + 1)) (by omega)
  have := b (by omega)
  rw [show i + (k + 1) - 1 = i + k from by omega] at this
  exact Int.le_of_lt this

theorem cutL_le {l : TX} {a b : Int} : (cutL a b l).length ≤ l.length := cut_len

theorem seg_next {l : TX} {s : HK} {M : Int} (ho : SegOk l s) {k : Nat} (hk : k < s.length) {a : St3} (hI : SegI l s M k a) : SegI l s M (k + 1) (stepR l a (s.getD k H0)) := by
  obtain ⟨q1, q2, q3, q4, q5⟩ := ho.at_ k hk
  have h40 := ho.l40
  have c1 := @cutL_le l a.2.1 (s.getD k H0).1
  have c2 := @cutL_le l (s.getD k H0).1 ((s.getD k H0).1 + (s.getD k H0).2.1)
  have r1 := hI.rows
  have r2 := hI.m0
  have r3 := hI.m1
  generalize s.getD k H0 = x at *
  refine ⟨?_, Int.add_nonneg q1 q2, q3, fun h => q5 h, ?_, ?_⟩
  · show List.length (((a.1 ++ rowsK 1 _) ++ rowsK 2 _) ++ rowsK 3 _) ≤ _
    rw [List.length_append, List.length_append, List.length_append, rowsK_len, rowsK_len, rowsK_len]
    omega
  · show _ ≤ a.2.2 + ((List.length x.2.2.1 : Int) - x.2.1)
    have e : ∀ z : Int, z ≤ (l.length : Int) → z ≤ 40 := fun z h => by omega
    have := e x.2.1 (Int.le_trans (Int.le_add_of_nonneg_left q1) q3)
    have e2 : ∀ z u v : Int, 0 ≤ v → z ≤ 40 → M - 100 * (k : Int) ≤ u → M - 100 * ((k + 1 : Nat) : Int) ≤ u + (v - z) := fun z u v h0 h1 h2 => by omega
    exact e2 _ _ _ (Int.natCast_nonneg _) this r2
  · show a.2.2 + ((List.length x.2.2.1 : Int) - x.2.1) ≤ _
    have e2 : ∀ z u v : Int, v ≤ 40 → 0 ≤ z → u ≤ M + 100 * (k : Int) → u + (v - z) ≤ M + 100 * ((k + 1 : Nat) : Int) := fun z u v h0 h1 h2 => by omega
    exact e2 _ _ _ (by omega) q2 r3

theorem wrapE {A G L : Int} (hL : L ≤ 40) (a0 : 0 ≤ A) (g0 : 0 ≤ G) (h : A + G ≤ L) : IntKind.wrap .i64 (A + G) = A + G := wrap64 (by omega) (by omega)
theorem wrapM {m v z : Int} (h0 : -100000 ≤ m) (h1 : m ≤ 100000) (v0 : 0 ≤ v) (v1 : v ≤ 40) (z0 : 0 ≤ z) (z1 : z ≤ 40) : IntKind.wrap .i64 (m + IntKind.wrap .i64 (v - z)) = m + (v - z) := by
  rw [wrap64 (x := v - z) (by omega) (by omega), wrap64 (by omega) (by omega)]

def nearB (h : HK) (w : Int) (k : Nat) : Bool :=
  decide (IntKind.wrap .i64 ((h.getD (k + 1) H0).1 - IntKind.wrap .i64 ((h.getD k H0).1 + (h.getD k H0).2.1)) ≤ IntKind.wrap .i64 (2 * w))
def lastF (h : HK) (w : Int) : Nat → Nat → Nat
  | 0, k => k
  | f + 1, k => if k + 1 < h.length ∧ nearB h w k = true then lastF h w f (k + 1) else k
theorem lastF_lt (h : HK) (w : Int) : ∀ (f k : Nat), k < h.length → k ≤ lastF h w f k ∧ lastF h w f k < h.length
  | 0, k, hk => ⟨Nat.le_refl _, hk⟩
  | f + 1, k, hk => by
    simp only [lastF]
    split
    · rename_i c
      have := lastF_lt h w f (k + 1) c.1
      omega
    · exact ⟨Nat.le_refl _, hk⟩

theorem last_S {l : TX} {h : HK} {w : Int} {out : GR} {m i : Int} (h20 : h.length ≤ 20) : ∀ (f k : Nat), k < h.length → h.length - 1 - k ≤ f → w_S_l6Groups_6 (l, h, w, out, m, i, ((k + 1 : Nat) : Int), ()) = some (l, h, w, out, m, i, ((lastF h w f k + 1 : Nat) : Int), ()) := by
  intro f
  induction f with
  | zero =>
    intro k hk hf
    refine fix_end (B := fun d => b_S_l6Groups_6 d.1 d.2.1 d.2.2.1 d.2.2.2.1 d.2.2.2.2.1 d.2.2.2.2.2.1 d.2.2.2.2.2.2.1) ?_
    show b_S_l6Groups_6 l h w out m i ((k + 1 : Nat) : Int) = _
    unfold b_S_l6Groups_6
    rw [decide_eq_false (by omega : ¬ (((k + 1 : Nat) : Int) < (h.length : Int))), cond_false]
    rfl
  | succ f ih =>
    intro k hk hf
    have e : IntKind.wrap .i64 (((k + 1 : Nat) : Int) - 1) = (k : Int) := by rw [wrap64 (by omega) (by omega)]; omega
    by_cases hk1 : k + 1 < h.length
    · have step : b_S_l6Groups_6 l h w out m i ((k + 1 : Nat) : Int) = some (if nearB h w k then .inl (l, h, w, out, m, i, ((k + 1 + 1 : Nat) : Int), ()) else .inr (l, h, w, out, m, i, ((k + 1 : Nat) : Int), ())) := by
        unfold b_S_l6Groups_6 nearB
        rw [e, decide_eq_true (by omega : ((k + 1 : Nat) : Int) < (h.length : Int)), cond_true, inB_lt hk1, cond_true, inB_lt hk, cond_true, cond_true, toNat_cast, toNat_cast, wrap64 (x := ((k + 1 : Nat) : Int) + 1) (by omega) (by omega)]
        cases decide (IntKind.wrap .i64 ((h.getD (k + 1) H0).1 - IntKind.wrap .i64 ((h.getD k H0).1 + (h.getD k H0).2.1)) ≤ IntKind.wrap .i64 (2 * w)) <;> rfl
      simp only [lastF]
      cases hb : nearB h w k
      · rw [if_neg (by simp)]
        exact fix_end (B := fun d => b_S_l6Groups_6 d.1 d.2.1 d.2.2.1 d.2.2.2.1 d.2.2.2.2.1 d.2.2.2.2.2.1 d.2.2.2.2.2.2.1) (by show b_S_l6Groups_6 l h w out m i ((k + 1 : Nat) : Int) = _; rw [step, hb]; rfl)
      · rw [if_pos ⟨hk1, rfl⟩]
        exact Eq.trans (fix_go (B := fun d => b_S_l6Groups_6 d.1 d.2.1 d.2.2.1 d.2.2.2.1 d.2.2.2.2.1 d.2.2.2.2.2.1 d.2.2.2.2.2.2.1) (by show b_S_l6Groups_6 l h w out m i ((k + 1 : Nat) : Int) = _; rw [step, hb]; rfl)) (ih (k + 1) hk1 (by omega))
    · simp only [lastF]
      rw [if_neg (by omega)]
      refine fix_end (B := fun d => b_S_l6Groups_6 d.1 d.2.1 d.2.2.1 d.2.2.2.1 d.2.2.2.2.1 d.2.2.2.2.2.1 d.2.2.2.2.2.2.1) ?_
      show b_S_l6Groups_6 l h w out m i ((k + 1 : Nat) : Int) = _
      unfold b_S_l6Groups_6
      rw [decide_eq_false (by omega : ¬ (((k + 1 : Nat) : Int) < (h.length : Int))), cond_false]

/-! ### one group -/
def at0 (h : HK) (w : Int) (i : Nat) : Int := if (h.getD i H0).1 - w < 0 then 0 else (h.getD i H0).1 - w
def end0 (l : TX) (h : HK) (w : Int) (j : Nat) : Int := if (l.length : Int) < (h.getD j H0).1 + (h.getD j H0).2.1 + w then (l.length : Int) else (h.getD j H0).1 + (h.getD j H0).2.1 + w
def res (l : TX) (h : HK) (w : Int) (i n : Nat) (m : Int) : St3 := (segL h i n).foldl (stepR l) ([], at0 h w i, m)
def grp (l : TX) (h : HK) (w : Int) (i n : Nat) (m : Int) : PV Y_impl_Group :=
  (at0 h w i, (at0 h w i + m, ((res l h w i n m).1 ++ rowsK 1 (cutL (res l h w i n m).2.1 (end0 l h w (i + n - 1)) l), ())))
def groupsF (l : TX) (h : HK) (w : Int) : Nat → Nat → Int → GR
  | 0, _, _ => []
  | f + 1, i, m => if i < h.length then grp l h w i (lastF h w 20 i + 1 - i) m :: groupsF l h w f (lastF h w 20 i + 1) (res l h w i (lastF h w 20 i + 1 - i) m).2.2 else []

structure GOk (l : TX) (h : HK) (w : Int) (i : Nat) : Prop where
  a0 : 0 ≤ at0 h w i
  a1 : at0 h w i ≤ (l.length : Int)
  a2 : at0 h w i ≤ (h.getD i H0).1
  e1 : ∀ j, j < h.length → (h.getD j H0).1 + (h.getD j H0).2.1 ≤ end0 l h w j ∧ end0 l h w j ≤ (l.length : Int) ∧ 0 ≤ (h.getD j H0).1 ∧ (h.getD j H0).1 ≤ 40 ∧ 0 ≤ (h.getD j H0).2.1 ∧ (h.getD j H0).2.1 ≤ 40

theorem gOk {l : TX} {h : HK} {w : Int} (hl : l.length ≤ 40) (hg : hunksP (l.length : Int) h = true) (hw0 : 0 ≤ w) {i : Nat} (hi : i < h.length) : GOk l h w i := by
  obtain ⟨_, _, h20, f⟩ := hunk_facts hg
  obtain ⟨a1, a2, a3, a4, _⟩ := f i hi
  have key : ∀ A : Int, 0 ≤ A → A ≤ (l.length : Int) → 0 ≤ (if A - w < 0 then 0 else A - w) ∧ (if A - w < 0 then 0 else A - w) ≤ (l.length : Int) ∧ (if A - w < 0 then 0 else A - w) ≤ A := by
    intro A h0 h1
    split <;> omega
  obtain ⟨k1, k2, k3⟩ := key _ a1 a2
  refine ⟨k1, k2, k3, fun j hj => ?_⟩
  obtain ⟨b1, b2, b3, b4, _⟩ := f j hj
  have key2 : ∀ A G : Int, 0 ≤ A → 0 ≤ G → A + G ≤ (l.length : Int) → A + G ≤ (if (l.length : Int) < A + G + w then (l.length : Int) else A + G + w) ∧ (if (l.length : Int) < A + G + w then (l.length : Int) else A + G + w) ≤ (l.length : Int) ∧ 0 ≤ A ∧ A ≤ 40 ∧ 0 ≤ G ∧ G ≤ 40 := by
    intro A G h0 h1 h2
    split <;> omega
  exact key2 _ _ b1 b3 b4

theorem foldl_at {l : TX} : ∀ (s : HK) (a : St3), s ≠ [] → (s.foldl (stepR l) a).2.1 = (s.getLast?.getD H0).1 + (s.getLast?.getD H0).2.1
  | [x], a, _ => rfl
  | x :: y :: s, a, _ => by
    rw [List.foldl_cons, foldl_at (y :: s) _ (by simp)]
    rfl
  | [], _, h => absurd rfl h

theorem res_at {l : TX} {h : HK} {w m : Int} {i n : Nat} (hn : i + n ≤ h.length) (hn1 : 1 ≤ n) : (res l h w i n m).2.1 = (h.getD (i + n - 1) H0).1 + (h.getD (i + n - 1) H0).2.1 := by
  unfold res
  have hs := segL_len hn
  have hne : segL h i n ≠ [] := by intro e; rw [e] at hs; simp at hs; omega
  rw [foldl_at _ _ hne]
  have : (segL h i n).getLast?.getD H0 = h.getD (i + n - 1) H0 := by
    rw [List.getLast?_eq_getElem?, hs, ← List.getD_eq_getElem?_getD, segL_at hn (by omega), show i + (n - 1) = i + n - 1 from by omega]
  rw [this]

theorem wrap3 {A G w : Int} (a0 : 0 ≤ A) (a1 : A ≤ 40) (g0 : 0 ≤ G) (g1 : G ≤ 40) (w0 : 0 ≤ w) (w1 : w ≤ 20) : IntKind.wrap .i64 (IntKind.wrap .i64 (A + G) + w) = A + G + w ∧ IntKind.wrap .i64 (A - w) = A - w := by
  rw [wrap64 (x := A + G) (by omega) (by omega), wrap64 (by omega) (by omega), wrap64 (by omega) (by omega)]
  exact ⟨rfl, rfl⟩

theorem step_bd {l : TX} {h : HK} {w m : Int} {i : Nat} (hl : l.length ≤ 40) (hg : hunksP (l.length : Int) h = true) (hw0 : 0 ≤ w) (hi : i < h.length) :
    m - 100 * ((lastF h w 20 i + 1 - i : Nat) : Int) ≤ (res l h w i (lastF h w 20 i + 1 - i) m).2.2 ∧ (res l h w i (lastF h w 20 i + 1 - i) m).2.2 ≤ m + 100 * ((lastF h w 20 i + 1 - i : Nat) : Int) ∧ (res l h w i (lastF h w 20 i + 1 - i) m).1.length ≤ 2400 := by
  obtain ⟨l1, l2⟩ := lastF_lt h w 20 i hi
  obtain ⟨_, _, h20, _⟩ := hunk_facts hg
  have hn : i + (lastF h w 20 i + 1 - i) ≤ h.length := by omega
  generalize hN : lastF h w 20 i + 1 - i = n at *
  have ho := segOk hl hg hn
  have hsl := segL_len hn
  have hG := gOk (i := i) hl hg hw0 hi
  have := foldl_inv (segL h i n) (stepR l) (SegI l (segL h i n) m) (fun k hk a hI => by
    rw [show (segL h i n)[k] = (segL h i n).getD k H0 from (getD_of hk).symm]
    exact seg_next ho hk hI) ([], at0 h w i, m)
    ⟨Nat.zero_le _, hG.a0, hG.a1, fun hk => by rw [segL_at hn (by omega)]; exact hG.a2, by show m - 100 * ((0 : Nat) : Int) ≤ m; omega, by show m ≤ m + 100 * ((0 : Nat) : Int); omega⟩ (segL h i n).length (Nat.le_refl _)
  rw [List.take_length, hsl] at this
  have r1 := this.rows
  have r2 := this.m0
  have r3 := this.m1
  exact ⟨r2, r3, Nat.le_trans r1 (by omega)⟩
end R
end

section
/- Groups of hunks as the reference makes them; the text all in one. -/
open Go Go.Dn
namespace R
set_option linter.unusedVariables false

theorem rows_S1 (k : Int) (lines : TX) (hl : lines.length ≤ 1000) : f_S_l6Rows k lines = some ((rowsK k lines, ()), ()) := by
  have hf := fix_fold (B := fun d => b_S_l6Rows_3 d.1 d.2.1 d.2.2.1 d.2.2.2.1 d.2.2.2.2.1) lines (fun (a : RW) s => a ++ [((k, (s, ())) : PV Y_impl_Row)]) (fun a i => (k, a, lines, (lines.length : Int), (i : Int), ())) (fun a => (a, ())) (fun i a => a.length = i)
    (fun i hi a hI => by
      refine ⟨by simp [hI], ?_⟩
      show b_S_l6Rows_3 k a lines lines.length i = _
      unfold b_S_l6Rows_3
      rw [decide_eq_true (by omega : (i : Int) < (lines.length : Int)), cond_true, inB_lt hi, cond_true, toNat_cast, getD_of hi, roomB_ok (by simp only [List.length_cons, List.length_nil]; omega), cond_true, wrap64 (x := (i : Int) + 1) (by omega) (by omega)]
      rfl)
    (fun a _ => by
      show b_S_l6Rows_3 k a lines lines.length lines.length = _
      unfold b_S_l6Rows_3
      rw [decide_eq_false (Int.lt_irrefl _), cond_false]) [] rfl
  rw [foldl_row] at hf
  unfold f_S_l6Rows
  rw [show w_S_l6Rows_3 (k, [], lines, (lines.length : Int), 0, ()) = _ from hf.1]
  rfl

theorem more_fold {l : TX} : ∀ (s : HK) (a : St3), (s.foldl (stepR l) a).2.2 = s.foldl (fun (m : Int) (x : PV Y_impl_Hunk) => m + ((List.length x.2.2.1 : Int) - x.2.1)) a.2.2
  | [], a => rfl
  | x :: s, a => by rw [List.foldl_cons, List.foldl_cons, more_fold s]; rfl

theorem cut_seg {h : HK} {i j : Nat} (hij : i ≤ j) (hj : j ≤ h.length) : cutL (i : Int) (j : Int) h = segL h i (j - i) := by
  unfold cutL segL
  rw [toNat_cast, toNat_cast, List.drop_take]

theorem one_S {l : TX} {h : HK} {w m : Int} {i : Nat} (hl : l.length ≤ 40) (hg : hunksP (l.length : Int) h = true) (hw0 : 0 ≤ w) (hw1 : w ≤ 20) (hi : i < h.length) (hm0 : -10000 ≤ m) (hm1 : m ≤ 10000) :
    f_S_l6One l (segL h i (lastF h w 20 i + 1 - i)) w m = some ((grp l h w i (lastF h w 20 i + 1 - i) m, ()), ()) := by
  obtain ⟨_, _, h20, _⟩ := hunk_facts hg
  obtain ⟨l1, l2⟩ := lastF_lt h w 20 i hi
  have hG := gOk hl hg hw0 hi
  have hn : i + (lastF h w 20 i + 1 - i) ≤ h.length := by omega
  have ho := segOk hl hg hn
  have hsl := segL_len hn
  have hr := res_at (l := l) (w := w) (m := m) hn (by omega)
  rw [show i + (lastF h w 20 i + 1 - i) - 1 = lastF h w 20 i from by omega] at hr
  obtain ⟨e1, e2, e3, e4, e5, e6⟩ := hG.e1 (lastF h w 20 i) l2
  obtain ⟨_, _, f3, f4, f5, f6⟩ := hG.e1 i hi
  obtain ⟨w1, _⟩ := wrap3 e3 e4 e5 e6 hw0 hw1
  obtain ⟨_, w2⟩ := wrap3 f3 f4 f5 f6 hw0 hw1
  have hga0 := hG.a0
  have hga1 := hG.a1
  generalize hS : segL h i (lastF h w 20 i + 1 - i) = s at *
  have hs0 : s.getD 0 H0 = h.getD i H0 := by rw [← hS, segL_at hn (by omega), Nat.add_zero]
  have hsn : s.getD (s.length - 1) H0 = h.getD (lastF h w 20 i) H0 := by
    rw [← hS, segL_len hn, segL_at hn (by omega), show i + (lastF h w 20 i + 1 - i - 1) = lastF h w 20 i from by omega]
  generalize hz : ((0, (0, (([] : PV S_impl_Row), ()))) : PV Y_impl_Group) = z
  have hf := fix_fold (B := fun d => b_S_l6One_6 d.1 d.2.1 d.2.2.1 d.2.2.2.1 d.2.2.2.2.1 d.2.2.2.2.2.1 d.2.2.2.2.2.2.1 d.2.2.2.2.2.2.2.1 d.2.2.2.2.2.2.2.2.1) s (stepR l)
    (fun a k => (l, w, z, h.getD (lastF h w 20 i) H0, (at0 h w i, (at0 h w i + m, (a.1, ()))), a.2.1, s, (s.length : Int), (k : Int), ())) (fun a => (l, w, z, h.getD (lastF h w 20 i) H0, (at0 h w i, (at0 h w i + m, (a.1, ()))), a.2.1, ())) (SegI l s m)
    (fun k hk a hI => by
      have hx : s[k] = s.getD k H0 := (getD_of hk).symm
      have nx := seg_next ho hk hI
      rw [hx]
      refine ⟨nx, ?_⟩
      obtain ⟨q1, q2, q3, q4, q5⟩ := ho.at_ k hk
      have z1 := hI.rows
      have z2 := hI.at0
      have z4 := hI.next hk
      show b_S_l6One_6 l w z (h.getD (lastF h w 20 i) H0) (at0 h w i, (at0 h w i + m, (a.1, ()))) a.2.1 s s.length k = _
      unfold b_S_l6One_6
      rw [decide_eq_true (by omega : (k : Int) < (s.length : Int)), cond_true, inB_lt hk, cond_true, toNat_cast]
      generalize s.getD k H0 = x at *
      have c1 := @cutL_le l a.2.1 x.1
      have c2 := @cutL_le l x.1 (x.1 + x.2.1)
      have hxl : x.1 ≤ (l.length : Int) := Int.le_trans (Int.le_add_of_nonneg_right q2) q3
      rw [cutB_ok z2 z4 hxl, cond_true, rows_S1 1 _ (by omega), Option.bind_some]
      dsimp only
      rw [wrapE (L := (l.length : Int)) (by omega) q1 q2 q3, roomB_ok (by rw [rowsK_len]; omega), cond_true, cutB_ok q1 (Int.le_add_of_nonneg_right q2) q3, cond_true, rows_S1 2 _ (by omega), Option.bind_some]
      dsimp only
      rw [roomB_ok (by rw [List.length_append, rowsK_len, rowsK_len]; omega), cond_true, rows_S1 3 _ (by omega), Option.bind_some]
      dsimp only
      rw [roomB_ok (by rw [List.length_append, List.length_append, rowsK_len, rowsK_len, rowsK_len]; omega), cond_true, wrap64 (x := (k : Int) + 1) (by omega) (by omega)]
      rfl)
    (fun a _ => by
      show b_S_l6One_6 l w z (h.getD (lastF h w 20 i) H0) (at0 h w i, (at0 h w i + m, (a.1, ()))) a.2.1 s s.length s.length = _
      unfold b_S_l6One_6
      rw [decide_eq_false (Int.lt_irrefl _), cond_false]) ([], at0 h w i, m)
    ⟨Nat.zero_le _, hG.a0, hG.a1, fun hk => by rw [hs0]; exact hG.a2, by show m - 100 * ((0 : Nat) : Int) ≤ m; omega, by show m ≤ m + 100 * ((0 : Nat) : Int); omega⟩
  obtain ⟨hf, hI⟩ := hf
  have r0 := hI.rows
  have hres : s.foldl (stepR l) ([], at0 h w i, m) = res l h w i (lastF h w 20 i + 1 - i) m := by unfold res; rw [hS]
  rw [hres] at hf r0
  unfold f_S_l6One
  rw [show inB 0 s.length = true from inB_lt (i := 0) (by omega), cond_true, show ((0 : Int).toNat) = 0 from rfl]
  rw [show (dflt Y_impl_Hunk : PV Y_impl_Hunk) = H0 from rfl] at *
  rw [hs0, w2]
  have ea : f_S_l1Most 0 ((h.getD i H0).1 - w) = some ((at0 h w i, ()), ()) := by
    unfold f_S_l1Most at0
    generalize (h.getD i H0).1 = A
    by_cases c : A - w < 0
    · rw [if_pos c, decide_eq_true c]; rfl
    · rw [if_neg c, decide_eq_false c]; rfl
  have ee : f_S_l1Least (l.length : Int) ((h.getD (lastF h w 20 i) H0).1 + (h.getD (lastF h w 20 i) H0).2.1 + w) = some ((end0 l h w (lastF h w 20 i), ()), ()) := by
    unfold f_S_l1Least end0
    generalize (h.getD (lastF h w 20 i) H0).1 + (h.getD (lastF h w 20 i) H0).2.1 + w = A
    by_cases c : (l.length : Int) < A
    · rw [if_pos c, decide_eq_true c]; rfl
    · rw [if_neg c, decide_eq_false c]; rfl
  rw [ea, Option.bind_some]
  dsimp only
  rw [show IntKind.wrap .i64 ((s.length : Int) - 1) = ((s.length - 1 : Nat) : Int) from by rw [wrap64 (by omega) (by omega)]; omega, inB_lt (by omega), cond_true, toNat_cast, hsn, wrap64 (x := at0 h w i + m) (by omega) (by omega), hz]
  rw [show w_S_l6One_6 (l, w, z, h.getD (lastF h w 20 i) H0, (at0 h w i, (at0 h w i + m, (([] : PV S_impl_Row), ()))), at0 h w i, s, (s.length : Int), 0, ()) = _ from hf, Option.bind_some]
  dsimp only
  rw [w1, ee, Option.bind_some]
  dsimp only
  rw [hr, cutB_ok (Int.add_nonneg e3 e5) e1 e2, cond_true]
  have c3 := @cutL_le l ((h.getD (lastF h w 20 i) H0).1 + (h.getD (lastF h w 20 i) H0).2.1) (end0 l h w (lastF h w 20 i))
  rw [rows_S1 1 _ (by omega), Option.bind_some]
  dsimp only
  rw [roomB_ok (by rw [rowsK_len]; omega), cond_true]
  unfold grp
  rw [show i + (lastF h w 20 i + 1 - i) - 1 = lastF h w 20 i from by omega, hr]

theorem step_S {l : TX} {h : HK} {w m : Int} {out : GR} {i : Nat} (hl : l.length ≤ 40) (hg : hunksP (l.length : Int) h = true) (hw0 : 0 ≤ w) (hw1 : w ≤ 20) (hi : i < h.length) (hm0 : -5000 ≤ m) (hm1 : m ≤ 5000) (hout : out.length ≤ 100) :
    b_S_l6Groups_4 l h w out m i = some (.inl (l, h, w, out ++ [grp l h w i (lastF h w 20 i + 1 - i) m], (res l h w i (lastF h w 20 i + 1 - i) m).2.2, ((lastF h w 20 i + 1 : Nat) : Int), ())) := by
  obtain ⟨_, _, h20, _⟩ := hunk_facts hg
  obtain ⟨l1, l2⟩ := lastF_lt h w 20 i hi
  have hn : i + (lastF h w 20 i + 1 - i) ≤ h.length := by omega
  have ho := segOk hl hg hn
  have hsl := segL_len hn
  have hone := one_S hl hg hw0 hw1 hi (m := m) (by omega) (by omega)
  have hc : cutL (i : Int) ((lastF h w 20 i + 1 : Nat) : Int) h = segL h i (lastF h w 20 i + 1 - i) := cut_seg (by omega) (by omega)
  have hres : (res l h w i (lastF h w 20 i + 1 - i) m).2.2 = (segL h i (lastF h w 20 i + 1 - i)).foldl (fun (m : Int) (x : PV Y_impl_Hunk) => m + ((List.length x.2.2.1 : Int) - x.2.1)) m := by
    unfold res
    rw [more_fold]
  rw [hres]
  unfold b_S_l6Groups_4
  rw [decide_eq_true (by omega : (i : Int) < (h.length : Int)), cond_true, show IntKind.wrap .i64 ((i : Int) + 1) = ((i + 1 : Nat) : Int) from by rw [wrap64 (by omega) (by omega)]; omega, last_S h20 20 i hi (by omega), Option.bind_some]
  dsimp only
  rw [cutB_ok (by omega) (by omega) (by omega), cond_true, hc, hone, Option.bind_some]
  dsimp only
  rw [roomB_ok (by simp only [List.length_cons, List.length_nil]; omega), cond_true, cond_true]
  generalize segL h i (lastF h w 20 i + 1 - i) = s at *
  generalize out ++ [grp l h w i (lastF h w 20 i + 1 - i) m] = out2
  generalize ((lastF h w 20 i + 1 : Nat) : Int) = jj
  have hf := fix_fold (B := fun d => b_S_l6Groups_10 d.1 d.2.1 d.2.2.1 d.2.2.2.1 d.2.2.2.2.1 d.2.2.2.2.2.1 d.2.2.2.2.2.2.1 d.2.2.2.2.2.2.2.1 d.2.2.2.2.2.2.2.2.1) s (fun (m : Int) (x : PV Y_impl_Hunk) => m + ((List.length x.2.2.1 : Int) - x.2.1))
    (fun a k => (l, h, w, out2, a, jj, s, (s.length : Int), (k : Int), ())) (fun a => (l, h, w, out2, a, jj, ())) (fun k a => -5000 - 100 * (k : Int) ≤ a ∧ a ≤ 5000 + 100 * (k : Int))
    (fun k hk a hI => by
      have hx : s[k] = s.getD k H0 := (getD_of hk).symm
      have h20s := ho.len
      obtain ⟨q1, q2, q3, q4, q5⟩ := ho.at_ k hk
      rw [hx]
      have hg40 : (s.getD k H0).2.1 ≤ 40 := Int.le_trans (Int.le_trans (Int.le_add_of_nonneg_left q1) q3) (by omega)
      have key : ∀ v z : Int, 0 ≤ v → v ≤ 40 → 0 ≤ z → z ≤ 40 → -5000 - 100 * ((k + 1 : Nat) : Int) ≤ a + (v - z) ∧ a + (v - z) ≤ 5000 + 100 * ((k + 1 : Nat) : Int) := fun v z _ _ _ _ => by omega
      refine ⟨key _ _ (Int.natCast_nonneg _) (by omega) q2 hg40, ?_⟩
      show b_S_l6Groups_10 l h w out2 a jj s s.length k = _
      unfold b_S_l6Groups_10
      rw [decide_eq_true (by omega : (k : Int) < (s.length : Int)), cond_true, inB_lt hk, cond_true, toNat_cast]
      rw [show (dflt Y_impl_Hunk : PV Y_impl_Hunk) = H0 from rfl, wrapM (by omega) (by omega) (Int.natCast_nonneg _) (by omega) q2 hg40, wrap64 (x := (k : Int) + 1) (by omega) (by omega)]
      rfl)
    (fun a _ => by
      show b_S_l6Groups_10 l h w out2 a jj s s.length s.length = _
      unfold b_S_l6Groups_10
      rw [decide_eq_false (Int.lt_irrefl _), cond_false]) m ⟨by omega, by omega⟩
  rw [show w_S_l6Groups_10 (l, h, w, out2, m, jj, s, (s.length : Int), 0, ()) = _ from hf.1, Option.bind_some]

theorem groups_loop_S {l : TX} {h : HK} {w : Int} (hl : l.length ≤ 40) (hg : hunksP (l.length : Int) h = true) (hw0 : 0 ≤ w) (hw1 : w ≤ 20) : ∀ (f i : Nat) (out : GR) (m : Int), h.length - i ≤ f → i ≤ h.length → out.length ≤ i → -100 * (i : Int) ≤ m → m ≤ 100 * (i : Int) →
    w_S_l6Groups_4 (l, h, w, out, m, (i : Int), ()) = some (out ++ groupsF l h w f i m, ()) := by
  obtain ⟨_, _, h20, _⟩ := hunk_facts hg
  have stop : ∀ (i : Nat) (out : GR) (m : Int), ¬ i < h.length → w_S_l6Groups_4 (l, h, w, out, m, (i : Int), ()) = some (out, ()) := by
    intro i out m hi'
    refine fix_end (B := fun d => b_S_l6Groups_4 d.1 d.2.1 d.2.2.1 d.2.2.2.1 d.2.2.2.2.1 d.2.2.2.2.2.1) ?_
    show b_S_l6Groups_4 l h w out m i = _
    unfold b_S_l6Groups_4
    rw [decide_eq_false (by omega : ¬ ((i : Int) < (h.length : Int))), cond_false]
  intro f
  induction f with
  | zero =>
    intro i out m hf hi ho hm0 hm1
    rw [stop i out m (by omega)]
    simp [groupsF]
  | succ f ih =>
    intro i out m hf hi ho hm0 hm1
    by_cases hi' : i < h.length
    · obtain ⟨s2, s3, s4⟩ := step_bd (m := m) hl hg hw0 hi'
      have s1 := step_S (out := out) hl hg hw0 hw1 hi' (m := m) (by omega) (by omega) (by omega)
      obtain ⟨l1, l2⟩ := lastF_lt h w 20 i hi'
      refine Eq.trans (fix_go (B := fun d => b_S_l6Groups_4 d.1 d.2.1 d.2.2.1 d.2.2.2.1 d.2.2.2.2.1 d.2.2.2.2.2.1) s1) ?_
      refine Eq.trans (ih (lastF h w 20 i + 1) _ _ (by omega) (by omega) (by rw [List.length_append, List.length_cons, List.length_nil]; omega) (by omega) (by omega)) ?_
      simp only [groupsF, if_pos hi', List.append_assoc, List.cons_append, List.nil_append]
    · rw [stop i out m hi']
      simp [groupsF, hi']

/-! ### small -/
theorem rowsK_sm (k : Int) {l : TX} (h : ∀ s ∈ l, s.length ≤ 1048576) : ∀ r ∈ rowsK k l, List.length (r : PV Y_impl_Row).2.1 ≤ 1048576 := by
  intro r hr
  unfold rowsK at hr
  obtain ⟨s, hs, rfl⟩ := List.mem_map.1 hr
  exact h s hs
theorem seg_sm {l : TX} (hl : ∀ s ∈ l, s.length ≤ 1048576) : ∀ (s : HK) (a : St3), (∀ x ∈ s, ∀ y ∈ ((x : PV Y_impl_Hunk).2.2.1 : TX), y.length ≤ 1048576) → (∀ r ∈ a.1, List.length (r : PV Y_impl_Row).2.1 ≤ 1048576) → ∀ r ∈ (s.foldl (stepR l) a).1, List.length (r : PV Y_impl_Row).2.1 ≤ 1048576
  | [], a, _, h => h
  | x :: s, a, hx, h => by
    rw [List.foldl_cons]
    refine seg_sm hl s _ (fun y hy => hx y (List.mem_cons_of_mem _ hy)) fun r hr => ?_
    have hr : r ∈ ((a.1 ++ rowsK 1 (cutL a.2.1 x.1 l)) ++ rowsK 2 (cutL x.1 (x.1 + x.2.1) l)) ++ rowsK 3 x.2.2.1 := hr
    rcases List.mem_append.1 hr with hr | hr
    · rcases List.mem_append.1 hr with hr | hr
      · rcases List.mem_append.1 hr with hr | hr
        · exact h r hr
        · exact rowsK_sm 1 (fun s hs => hl s (cut_mem hs)) r hr
      · exact rowsK_sm 2 (fun s hs => hl s (cut_mem hs)) r hr
    · exact rowsK_sm 3 (hx x (List.mem_cons_self ..)) r hr

def SmB (l : TX) : Prop := ∀ s ∈ l, s.length ≤ 1048576
def SmBH (h : HK) : Prop := ∀ x ∈ h, ∀ y ∈ ((x : PV Y_impl_Hunk).2.2.1 : TX), y.length ≤ 1048576
theorem seg_mem {h : HK} {i n : Nat} {x : PV Y_impl_Hunk} (hx : x ∈ segL h i n) : x ∈ h := List.mem_of_mem_drop (List.mem_of_mem_take hx)

theorem groupsF_sm {l : TX} {h : HK} {w : Int} (hl : l.length ≤ 40) (hg : hunksP (l.length : Int) h = true) (hw0 : 0 ≤ w) (hw1 : w ≤ 20) (hb : SmB l) (hbh : SmBH h) : ∀ (f i : Nat) (m : Int), i ≤ h.length → -100 * (i : Int) ≤ m → m ≤ 100 * (i : Int) →
    (groupsF l h w f i m).length ≤ f ∧ ∀ x ∈ groupsF l h w f i m, SmR (x : PV Y_impl_Group).2.2.1 := by
  obtain ⟨_, _, h20, _⟩ := hunk_facts hg
  intro f
  induction f with
  | zero => exact fun i m _ _ _ => ⟨Nat.le_refl _, fun x hx => by cases hx⟩
  | succ f ih =>
    intro i m hi hm0 hm1
    simp only [groupsF]
    by_cases hi' : i < h.length
    · rw [if_pos hi']
      obtain ⟨s2, s3, s4⟩ := step_bd (m := m) hl hg hw0 hi'
      obtain ⟨l1, l2⟩ := lastF_lt h w 20 i hi'
      obtain ⟨i1, i2⟩ := ih (lastF h w 20 i + 1) (res l h w i (lastF h w 20 i + 1 - i) m).2.2 (by omega) (by omega) (by omega)
      refine ⟨by rw [List.length_cons]; omega, fun x hx => ?_⟩
      rcases List.mem_cons.1 hx with rfl | hx
      · have c3 := @cutL_le l (res l h w i (lastF h w 20 i + 1 - i) m).2.1 (end0 l h w (i + (lastF h w 20 i + 1 - i) - 1))
        refine ⟨?_, fun r hr => ?_⟩
        · show List.length (_ ++ rowsK 1 _) ≤ _
          rw [List.length_append, rowsK_len]
          omega
        · have hr : r ∈ (res l h w i (lastF h w 20 i + 1 - i) m).1 ++ rowsK 1 (cutL (res l h w i (lastF h w 20 i + 1 - i) m).2.1 (end0 l h w (i + (lastF h w 20 i + 1 - i) - 1)) l) := hr
          rcases List.mem_append.1 hr with hr | hr
          · unfold res at hr
            exact seg_sm hb _ _ (fun x hx => hbh x (seg_mem hx)) (fun r hr => by cases hr) r hr
          · exact rowsK_sm 1 (fun s hs => hb s (cut_mem hs)) r hr
      · exact i2 x hx
    · rw [if_neg hi']
      exact ⟨Nat.zero_le _, fun x hx => by cases hx⟩

def goOk (l : TX) (h : HK) (w : Int) : Bool := patchOk l h && inI w 0 20
def goR (l : TX) (h : HK) (w : Int) : GR := bif goOk l h w then groupsF l h w 20 0 0 else []

theorem goOk_at {l : TX} {h : HK} {w : Int} (hk : goOk l h w = true) : l.length ≤ 40 ∧ hunksP (l.length : Int) h = true ∧ 0 ≤ w ∧ w ≤ 20 ∧ h.length ≤ 20 := by
  unfold goOk patchOk inI at hk
  simp only [Bool.and_eq_true, decide_eq_true_eq] at hk
  obtain ⟨⟨h1, h2, h3⟩, h4, h5⟩ := hk
  obtain ⟨_, _, h20, _⟩ := hunk_facts h2
  exact ⟨goodP_len h1, h2, h4, h5, h20⟩

theorem groupsOf_S {l : TX} {h : HK} {w : Int} (hl : Sm l) (hh : SmH h) : f_S_GroupsOf l h w = some ((goR l h w, goOk l h w, ()), ()) := by
  unfold f_S_GroupsOf goR
  rw [patch_S hl hh, Option.bind_some]
  dsimp only
  cases hp : patchOk l h
  · unfold goOk; rw [hp]; rfl
  · rw [Bool.not_true, cond_false, in_S, Option.bind_some, Option.bind_some]
    dsimp only
    rw [show (decide (w ≥ 0) && decide (w ≤ 20)) = inI w 0 20 from rfl]
    cases hw : inI w 0 20
    · unfold goOk; rw [hp, hw]; rfl
    · have hk : goOk l h w = true := by unfold goOk; rw [hp, hw]; rfl
      obtain ⟨k1, k2, k3, k4, k5⟩ := goOk_at hk
      rw [hk, Bool.not_true, cond_false, cond_true]
      unfold f_S_l6Groups
      rw [show w_S_l6Groups_4 (l, h, w, [], 0, 0, ()) = _ from groups_loop_S k1 k2 k3 k4 20 0 [] 0 (by omega) (by omega) (Nat.le_refl _) (by simp) (by simp), Option.bind_some, Option.bind_some]
      rfl
theorem goR_sm {l : TX} {h : HK} {w : Int} (hb : SmB l) (hbh : SmBH h) : SmG (goR l h w) := by
  unfold goR
  cases hk : goOk l h w
  · exact ⟨by simp, fun x hx => by cases hx⟩
  · obtain ⟨k1, k2, k3, k4, k5⟩ := goOk_at hk
    obtain ⟨q1, q2⟩ := groupsF_sm k1 k2 k3 k4 hb hbh 20 0 0 (by omega) (by simp) (by simp)
    exact ⟨by rw [cond_true]; omega, q2⟩

def utOk (l : TX) (h : HK) (w : Int) : Bool := goOk l h w && gtOk (goR l h w)
def utR (l : TX) (h : HK) (w : Int) : List UInt8 := bif goOk l h w then gtR (goR l h w) else []
theorem smB_of {e : TypeId} {l : TX} (h : tot (.slice e .str) l ≤ 1048576) : SmB l := fun s hs => by
  have := tot_all h s hs
  rwa [tot_str] at this
theorem smBH_of {e : TypeId} {h : HK} (hs : tot (.slice e Y_impl_Hunk) h ≤ 1048576) : SmBH h := fun x hx => by
  have := tot_all hs x hx
  refine smB_of (e := 0) ?_
  simp only [tot] at this ⊢
  omega
end R
end

section
/- Texts cut: what the leaves of both sides answer. -/
open Go Go.Dn
namespace R
set_option linter.unusedVariables false

theorem prefix_I (s p : List UInt8) (hs : s.length ≤ 100000) (hp : p.length ≤ 100) : f_internal_stringslite_HasPrefix s p = some ((s.take p.length == p, ()), ()) := by
  unfold f_internal_stringslite_HasPrefix
  by_cases h : p.length ≤ s.length
  · rw [decide_eq_true (by omega : (s.length : Int) ≥ (p.length : Int)), cond_true, show cutB 0 (p.length : Int) s.length = true from by unfold cutB; simp; omega, cond_true]
    unfold cutL
    simp
  · rw [decide_eq_false (by omega : ¬ (s.length : Int) ≥ (p.length : Int)), cond_false]
    have : (s.take p.length == p) = false := beq_eq_false_iff_ne.2 fun e => by
      have := congrArg List.length e
      rw [List.length_take] at this; omega
    rw [this]
theorem cutPrefix_I (s p : List UInt8) (hs : s.length ≤ 100000) (hp : p.length ≤ 100) : f_strings_CutPrefix s p = some ((bif s.take p.length == p then s.drop p.length else s, s.take p.length == p, ()), ()) := by
  unfold f_strings_CutPrefix f_internal_stringslite_CutPrefix
  rw [prefix_I s p hs hp, Option.bind_some]
  dsimp only
  cases h : s.take p.length == p
  · rfl
  · have hl : p.length ≤ s.length := by
      have := congrArg List.length (beq_iff_eq.1 h)
      rw [List.length_take] at this; omega
    rw [Bool.not_true, cond_false, show cutB (p.length : Int) (s.length : Int) s.length = true from by unfold cutB; simp; omega, cond_true, cond_true]
    unfold cutL
    simp

theorem suffixG_I (s p : List UInt8) (hs : s.length ≤ 100000) (hp : p.length ≤ 100) : f_internal_stringslite_HasSuffix s p = some ((s.drop (s.length - p.length) == p, ()), ()) := by
  unfold f_internal_stringslite_HasSuffix
  by_cases h : p.length ≤ s.length
  · rw [decide_eq_true (by omega : (s.length : Int) ≥ (p.length : Int)), cond_true, wrap64 (by omega) (by omega), show (s.length : Int) - (p.length : Int) = ((s.length - p.length : Nat) : Int) by omega]
    rw [show cutB ((s.length - p.length : Nat) : Int) (s.length : Int) s.length = true from by unfold cutB; simp, cond_true]
    unfold cutL
    simp
  · rw [decide_eq_false (by omega : ¬ (s.length : Int) ≥ (p.length : Int)), cond_false]
    have : (s.drop (s.length - p.length) == p) = false := beq_eq_false_iff_ne.2 fun e => by
      have := congrArg List.length e
      rw [List.length_drop] at this; omega
    rw [this]
theorem cutSuffix_I (s p : List UInt8) (hs : s.length ≤ 100000) (hp : p.length ≤ 100) : f_strings_CutSuffix s p = some ((bif s.drop (s.length - p.length) == p then s.take (s.length - p.length) else s, s.drop (s.length - p.length) == p, ()), ()) := by
  unfold f_strings_CutSuffix f_internal_stringslite_CutSuffix
  rw [suffixG_I s p hs hp, Option.bind_some]
  dsimp only
  cases h : s.drop (s.length - p.length) == p
  · rfl
  · have hl : p.length ≤ s.length := by
      have := congrArg List.length (beq_iff_eq.1 h)
      rw [List.length_drop] at this; omega
    rw [Bool.not_true, cond_false, wrap64 (by omega) (by omega), show (s.length : Int) - (p.length : Int) = ((s.length - p.length : Nat) : Int) by omega]
    rw [show cutB 0 ((s.length - p.length : Nat) : Int) s.length = true from by unfold cutB; simp, cond_true, cond_true]
    unfold cutL
    simp

def plainB (s : List UInt8) : List UInt8 := bif endP s then s.take (s.length - 1) else s
theorem plain_I (s : List UInt8) (hs : s.length ≤ 100000) : f_I_plain s = some ((plainB s, ()), ()) := by
  unfold f_I_plain f_strings_TrimSuffix f_internal_stringslite_TrimSuffix plainB
  rw [suffixG_I s [10] hs (by decide), Option.bind_some]
  dsimp only
  rw [show (s.drop (s.length - [(10 : UInt8)].length) == [10]) = endP s from rfl]
  cases h : endP s
  · rfl
  · have h1 : 1 ≤ s.length := by
      cases s with
      | nil => cases h
      | cons a s => simp
    rw [cond_true, cond_true, show (([(10 : UInt8)].length : Nat) : Int) = 1 from rfl, wrap64 (by omega) (by omega), show (s.length : Int) - 1 = ((s.length - 1 : Nat) : Int) by omega]
    rw [show cutB 0 ((s.length - 1 : Nat) : Int) s.length = true from by unfold cutB; simp, cond_true]
    unfold cutL
    simp
theorem plain_S (s : List UInt8) (h1 : 1 ≤ s.length) (hs : s.length ≤ 100000) : f_S_l1Plain s = some ((plainB s, ()), ()) := by
  unfold f_S_l1Plain plainB
  rw [ends_S s h1 (by omega), Option.bind_some]
  dsimp only
  cases h : endP s
  · rfl
  · rw [cond_true, cond_true, wrap64 (by omega) (by omega), show (s.length : Int) - 1 = ((s.length - 1 : Nat) : Int) by omega]
    rw [show cutB 0 ((s.length - 1 : Nat) : Int) s.length = true from by unfold cutB; simp, cond_true]
    unfold cutL
    simp

/-! ### a text cut once -/
theorem cut_some {s sep : List UInt8} {i : Nat} (hs : s.length ≤ 100000) (hp : sep.length ≤ 100) (hi : i + sep.length ≤ s.length) (h : f_internal_stringslite_Index s sep = some (((i : Int), ()), ())) :
    f_strings_Cut s sep = some ((s.take i, s.drop (i + sep.length), true, ()), ()) := by
  unfold f_strings_Cut f_internal_stringslite_Cut
  rw [h, Option.bind_some]
  dsimp only
  rw [decide_eq_true (by omega : (i : Int) ≥ 0), cond_true, show cutB 0 (i : Int) s.length = true from by unfold cutB; simp; omega, cond_true, wrap64 (by omega) (by omega)]
  rw [show (i : Int) + (sep.length : Int) = ((i + sep.length : Nat) : Int) by omega, show cutB ((i + sep.length : Nat) : Int) (s.length : Int) s.length = true from by unfold cutB; simp; omega, cond_true]
  show some (((s.take ((i : Nat) : Int).toNat).drop 0, (s.take ((s.length : Nat) : Int).toNat).drop (((i + sep.length : Nat) : Int)).toNat, true, ()), ()) = _
  rw [toNat_cast, toNat_cast, toNat_cast, List.take_length, List.drop_zero]
theorem cut_none {s sep : List UInt8} (h : f_internal_stringslite_Index s sep = some ((-1, ()), ())) : f_strings_Cut s sep = some ((s, [], false, ()), ()) := by
  unfold f_strings_Cut f_internal_stringslite_Cut
  rw [h, Option.bind_some]
  rfl

theorem comma_I (s : List UInt8) (hs : s.length ≤ 100000) : f_strings_Cut s [44] = some ((match comma s with | none => (s, [], false, ()) | some (a, b) => (a, b, true, ())), ()) := by
  by_cases h : (44 : UInt8) ∈ s
  · obtain ⟨t, r, rfl, ht⟩ := first_of h
    rw [comma_at r ht, cut_some (i := t.length) hs (by decide) (by simp) (by unfold f_internal_stringslite_Index indexF; dsimp only; rw [indexByte_at 44 r ht])]
    dsimp only
    rw [List.take_left' rfl, show t.length + [(44 : UInt8)].length = (t ++ [44]).length by simp, show t ++ (44 : UInt8) :: r = (t ++ [44]) ++ r by simp, List.drop_left' rfl]
  · rw [comma_no h, cut_none (by unfold f_internal_stringslite_Index indexF; dsimp only; rw [indexByte_not 44 h])]

theorem index_occ (sub : List UInt8) : ∀ (s : List UInt8) (i : Nat), Lib.index s sub = (i : Int) → sub.isPrefixOf (s.drop i) = true ∧ i ≤ s.length
  | [], i, h => by
    unfold Lib.index at h
    split at h
    · rename_i he
      have : i = 0 := by omega
      subst this
      rw [List.isEmpty_iff] at he
      subst he
      exact ⟨rfl, Nat.le_refl _⟩
    · omega
  | b :: l, i, h => by
    unfold Lib.index at h
    split at h
    · rename_i hp
      have : i = 0 := by omega
      subst this
      exact ⟨hp, Nat.zero_le _⟩
    · split at h
      · omega
      · rename_i h1 h2
        have hge := Lib.index_ge l sub
        have hne : Lib.index l sub ≠ -1 := fun e => h2 (by rw [e]; rfl)
        obtain ⟨q1, q2⟩ := index_occ sub l (i - 1) (by omega)
        have : i = (i - 1) + 1 := by omega
        rw [this]
        exact ⟨q1, by simp; omega⟩

/-- Cut at a blank and a plus. -/
theorem plus_I (s : List UInt8) (hs : s.length ≤ 100000) : (∃ t r, s = t ++ [32, 43] ++ r ∧ f_strings_Cut s [32, 43] = some ((t, r, true, ()), ()) ∧ ∀ o f, s = o ++ [32, 43] ++ f → (32 : UInt8) ∉ o → o = t ∧ f = r) ∨
    ((∀ o f, s = o ++ [32, 43] ++ f → False) ∧ f_strings_Cut s [32, 43] = some ((s, [], false, ()), ())) := by
  have hF : f_internal_stringslite_Index s [32, 43] = some ((Lib.index s [32, 43], ()), ()) := by
    unfold f_internal_stringslite_Index indexF
    dsimp only
    rw [decide_eq_true (by omega), cond_true]
  have hge := Lib.index_ge s [32, 43]
  have hfirst : ∀ o f, s = o ++ [32, 43] ++ f → (32 : UInt8) ∉ o → Lib.index s [32, 43] = (o.length : Int) := by
    rintro o f rfl ho
    refine Lib.index_first (by simp) ?_ fun j hj => ?_
    · unfold Lib.occAt
      rw [List.append_assoc, List.drop_left' rfl]
      simp
    · unfold Lib.occAt
      rw [List.append_assoc, List.drop_append_of_le_length (by omega)]
      have hd : o.drop j = o[j] :: o.drop (j + 1) := List.drop_eq_getElem_cons hj
      rw [hd, List.cons_append]
      have : ((32 : UInt8) == o[j]) = false := beq_eq_false_iff_ne.2 fun e => ho (e ▸ List.getElem_mem hj)
      simp [List.isPrefixOf, this]
  have hany : ∀ o f, s = o ++ [32, 43] ++ f → Lib.index s [32, 43] ≠ -1 := by
    rintro o f rfl he
    have key : ∀ (o : List UInt8) (r : List UInt8), Lib.index (o ++ (32 :: 43 :: r)) [32, 43] ≠ -1 := by
      intro o
      induction o with
      | nil => intro r; simp [Lib.index, List.isPrefixOf]
      | cons a o ih =>
        intro r h
        have i2 := ih r
        have g2 := Lib.index_ge (o ++ (32 :: 43 :: r)) [32, 43]
        rw [List.cons_append, Lib.index] at h
        split at h
        · omega
        · split at h
          · rename_i h1; exact i2 (by simpa using h1)
          · omega
    exact key o f (by simpa using he)
  by_cases h : Lib.index s [32, 43] = -1
  · exact .inr ⟨fun o f e => hany o f e h, cut_none (by rw [hF, h])⟩
  · have hi : Lib.index s [32, 43] = ((Lib.index s [32, 43]).toNat : Int) := by omega
    generalize hn : (Lib.index s [32, 43]).toNat = n at hi
    obtain ⟨q1, q2⟩ := index_occ [32, 43] s n hi
    obtain ⟨r, hr⟩ := List.isPrefixOf_iff_prefix.1 q1
    have hlen : n + ([32, 43] : List UInt8).length ≤ s.length := by
      have := congrArg List.length hr
      rw [List.length_append, List.length_drop] at this
      simp at this ⊢; omega
    have hsp : s = s.take n ++ [32, 43] ++ r := by rw [List.append_assoc, hr, List.take_append_drop]
    have hdr : s.drop (n + ([32, 43] : List UInt8).length) = r := by
      rw [← List.drop_drop, ← hr, List.drop_left' rfl]
    refine .inl ⟨s.take n, r, hsp, ?_, fun o f e ho => ?_⟩
    · rw [cut_some hs (by decide) hlen (by rw [hF, hi]), hdr]
    · have h2 := hfirst o f e ho
      have hno : n = o.length := by omega
      subst hno
      have e1 : s.take o.length = o := by rw [e, List.append_assoc, List.take_left' rfl]
      refine ⟨e1.symm, ?_⟩
      rw [← hdr, e, List.drop_left' (by simp)]
end R
end

section
/- The lines of a text, and its pieces. -/
open Go Go.Dn
namespace R
set_option linter.unusedVariables false

theorem linesOf_I (s : List UInt8) (hs : s.length ≤ 100000) : f_I_linesOf s = some ((cutP s, ()), ()) := by
  unfold f_I_linesOf
  by_cases h : s = []
  · subst h; rfl
  · rw [show (s == []) = false from beq_eq_false_iff_ne.2 h, cond_false]
    have hsp : f_strings_SplitAfter s [10] = some ((spl s, ()), ()) := by
      unfold f_strings_SplitAfter f_strings_genSplit splitF
      dsimp only
      rw [show (([(10 : UInt8)].length : Nat) : Int) = 1 from rfl, show ((1 : Int) == 1) = true from rfl, show ((-1 : Int) == -1) = true from rfl, decide_eq_true (by omega), splitK_spl _ s rfl]
      rfl
    rw [hsp, Option.bind_some]
    dsimp only
    obtain ⟨q, h1, h2⟩ := spl_lines h
    generalize hL : spl s = L at *
    generalize hx : L.getLastD [] = x at *
    have hlen : L.length = q.length + 1 := by rw [h1]; simp
    have hll : q.length ≤ 100000 := by
      have hc := cutP_len s
      rw [← h2] at hc
      split at hc <;> omega
    rw [wrap64 (by omega) (by omega), show (L.length : Int) - 1 = ((q.length : Nat) : Int) by omega, inB_lt (by omega), cond_true, toNat_cast]
    have hg : L.getD q.length [] = x := by rw [h1]; simp
    rw [hg]
    by_cases hx0 : x = []
    · rw [show (x == []) = true from beq_iff_eq.2 hx0, cond_true, show cutB 0 ((q.length : Nat) : Int) L.length = true from by unfold cutB; simp; omega, cond_true, Option.bind_some]
      rw [if_pos hx0] at h2
      rw [← h2]
      have : cutL 0 ((q.length : Nat) : Int) L = q := by
        show (L.take ((q.length : Nat) : Int).toNat).drop 0 = q
        rw [toNat_cast, List.drop_zero, h1, List.take_left' rfl]
      rw [this]
    · rw [show (x == []) = false from beq_eq_false_iff_ne.2 hx0, cond_false, Option.bind_some]
      rw [if_neg hx0] at h2
      rw [← h2]

theorem cut_at {α : Type} (p c r : List α) : cutL (p.length : Int) ((p.length + c.length : Nat) : Int) (p ++ c ++ r) = c := by
  unfold cutL
  rw [toNat_cast, toNat_cast, List.take_left' (by simp), List.drop_left' rfl]
theorem cut_ok {α : Type} (p c r : List α) : cutB (p.length : Int) ((p.length + c.length : Nat) : Int) (p ++ c ++ r).length = true := by
  unfold cutB; simp; omega

theorem byte_eq (a b : UInt8) : (((a.toNat : Nat) : Int) == ((b.toNat : Nat) : Int)) = (a == b) := by
  rw [Bool.eq_iff_iff, beq_iff_eq, beq_iff_eq]
  constructor
  · intro h
    exact UInt8.toNat_inj.1 (by omega)
  · rintro rfl; rfl

theorem l1Cut_go (s : List UInt8) (hs : s.length ≤ 100000) : ∀ (rest cur pre : List UInt8) (acc : TX), (10 : UInt8) ∉ cur → s = pre ++ cur ++ rest → acc.length ≤ pre.length →
    (w_S_l1Cut_4 (s, acc, (pre.length : Int), ((pre.length + cur.length : Nat) : Int), ())).bind (fun l3 =>
    ((
        bif (decide (l3.2.2.1 < (l3.1.length : Int))) then
          bif cutB l3.2.2.1 (l3.1.length : Int) l3.1.length then
            bif roomB (l3.2.1.length + [(cutL l3.2.2.1 (l3.1.length : Int) l3.1)].length) then
              some ((l3.2.1 ++ [(cutL l3.2.2.1 (l3.1.length : Int) l3.1)]), ())
            else
              none
          else
            none
        else
          some (l3.2.1, ()) : Option ((PV S_string × Unit)))).bind fun j4 =>
      (some ((j4.1, ()), ()) : Option (PVs [S_string] × PVs []))) = some ((acc ++ cutP (cur ++ rest), ()), ())
  | [], cur, pre, acc, hc, e, ha => by
    have hl : s.length = pre.length + cur.length := by rw [e]; simp
    have : w_S_l1Cut_4 (s, acc, (pre.length : Int), ((pre.length + cur.length : Nat) : Int), ()) = some (s, acc, (pre.length : Int), ()) := by
      refine fix_end ?_
      show b_S_l1Cut_4 s acc (pre.length : Int) ((pre.length + cur.length : Nat) : Int) = _
      unfold b_S_l1Cut_4
      rw [decide_eq_false (by omega : ¬ ((pre.length + cur.length : Nat) : Int) < (s.length : Int)), cond_false]
    rw [this, Option.bind_some]
    dsimp only
    rw [List.append_nil] at e ⊢
    by_cases h0 : cur = []
    · subst h0
      rw [decide_eq_false (by rw [List.length_nil] at hl; omega : ¬ (pre.length : Int) < (s.length : Int)), cond_false, Option.bind_some]
      simp [cutP]
    · have h1 : 0 < cur.length := List.length_pos_iff.2 h0
      have hx : cutL (pre.length : Int) (s.length : Int) s = cur := by
        have := cut_at pre cur []
        rw [List.append_nil, ← e, ← hl] at this
        exact this
      rw [decide_eq_true (by omega : (pre.length : Int) < (s.length : Int)), cond_true, show cutB (pre.length : Int) (s.length : Int) s.length = true from by unfold cutB; simp; omega, cond_true, hx, roomB_ok (by simp; omega), cond_true, Option.bind_some]
      rw [cutP_rest hc h0]
  | b :: rest, cur, pre, acc, hc, e, ha => by
    have hl : s.length = pre.length + cur.length + rest.length + 1 := by rw [e]; simp; omega
    have hlt : pre.length + cur.length < s.length := by omega
    have hb : s[pre.length + cur.length] = b := by
      simp only [e]
      rw [List.getElem_append_right (by simp)]
      simp
    by_cases h10 : b = 10
    · have hx : cutL (pre.length : Int) ((pre.length + cur.length + 1 : Nat) : Int) s = cur ++ [10] := by
        have := cut_at pre (cur ++ [10]) rest
        rw [show pre ++ (cur ++ [10]) ++ rest = s from by rw [e, h10]; simp, show (cur ++ [(10 : UInt8)]).length = cur.length + 1 by simp] at this
        exact this
      have : w_S_l1Cut_4 (s, acc, (pre.length : Int), ((pre.length + cur.length : Nat) : Int), ()) = w_S_l1Cut_4 (s, acc ++ [cur ++ [10]], ((pre.length + cur.length + 1 : Nat) : Int), ((pre.length + cur.length + 1 : Nat) : Int), ()) := by
        refine fix_go ?_
        show b_S_l1Cut_4 s acc (pre.length : Int) ((pre.length + cur.length : Nat) : Int) = _
        unfold b_S_l1Cut_4
        rw [decide_eq_true (by omega : ((pre.length + cur.length : Nat) : Int) < (s.length : Int)), cond_true, inB_lt hlt, cond_true, toNat_cast, getD_of hlt, hb, h10, show ((((10 : UInt8).toNat : Nat) : Int) == 10) = true from rfl, cond_true, wrap64 (by omega) (by omega)]
        rw [show ((pre.length + cur.length : Nat) : Int) + 1 = ((pre.length + cur.length + 1 : Nat) : Int) from rfl, show cutB (pre.length : Int) ((pre.length + cur.length + 1 : Nat) : Int) s.length = true from by unfold cutB; simp; omega, cond_true, hx, roomB_ok (by simp; omega), cond_true, Option.bind_some]
        dsimp only
        rw [wrap64 (by omega) (by omega)]
        rfl
      rw [this]
      have ih := l1Cut_go s hs rest [] (pre ++ (cur ++ [10])) (acc ++ [cur ++ [10]]) (by simp) (by rw [e, h10]; simp) (by simp; omega)
      rw [show (pre ++ (cur ++ [(10 : UInt8)])).length = pre.length + cur.length + 1 by simp; omega] at ih
      simp only [List.length_nil, Nat.add_zero, List.nil_append] at ih
      rw [ih, h10, cutP_line rest hc]
      simp
    · have : w_S_l1Cut_4 (s, acc, (pre.length : Int), ((pre.length + cur.length : Nat) : Int), ()) = w_S_l1Cut_4 (s, acc, (pre.length : Int), ((pre.length + (cur ++ [b]).length : Nat) : Int), ()) := by
        refine fix_go ?_
        show b_S_l1Cut_4 s acc (pre.length : Int) ((pre.length + cur.length : Nat) : Int) = _
        unfold b_S_l1Cut_4
        have hne : (((b.toNat : Nat) : Int) == 10) = false := by
          rw [show (10 : Int) = (((10 : UInt8).toNat : Nat) : Int) from rfl, byte_eq]
          exact beq_eq_false_iff_ne.2 h10
        rw [decide_eq_true (by omega : ((pre.length + cur.length : Nat) : Int) < (s.length : Int)), cond_true, inB_lt hlt, cond_true, toNat_cast, getD_of hlt, hb, hne, cond_false, Option.bind_some]
        dsimp only
        rw [wrap64 (by omega) (by omega), List.length_append]
        rfl
      rw [this]
      have ih := l1Cut_go s hs rest (cur ++ [b]) pre acc (by simp only [List.mem_append, List.mem_singleton, not_or]; exact ⟨hc, fun h => h10 h.symm⟩) (by rw [e]; simp) ha
      rw [ih]
      simp

theorem l1Cut_S (s : List UInt8) (hs : s.length ≤ 100000) : f_S_l1Cut s = some ((cutP s, ()), ()) := by
  unfold f_S_l1Cut
  exact l1Cut_go s hs s [] [] [] (by simp) (by simp) (Nat.le_refl _)

/-! ### pieces between a byte -/
def splitC (c : UInt8) : List UInt8 → TX
  | [] => [[]]
  | b :: s => if b = c then [] :: splitC c s else match splitC c s with
    | [] => [[b]]
    | h :: t => (b :: h) :: t
theorem splitC_go {c b : UInt8} (h : b ≠ c) (s : List UInt8) : splitC c (b :: s) = match splitC c s with
    | [] => [[b]]
    | h :: t => (b :: h) :: t := by simp [splitC, h]
theorem splitC_not {c : UInt8} : ∀ {t : List UInt8}, c ∉ t → splitC c t = [t]
  | [], _ => rfl
  | b :: t, h => by
    rw [splitC_go (fun e => h (by rw [e]; exact List.mem_cons_self ..)), splitC_not (t := t) fun m => h (List.mem_cons_of_mem _ m)]
theorem splitC_at {c : UInt8} (r : List UInt8) : ∀ {t : List UInt8}, c ∉ t → splitC c (t ++ c :: r) = t :: splitC c r
  | [], _ => by simp [splitC]
  | b :: t, h => by
    rw [List.cons_append, splitC_go (fun e => h (by rw [e]; exact List.mem_cons_self ..)), splitC_at r (t := t) fun m => h (List.mem_cons_of_mem _ m)]
theorem splitC_ne (c : UInt8) (s : List UInt8) : splitC c s ≠ [] := by
  cases s with
  | nil => simp [splitC]
  | cons b s =>
    unfold splitC
    split
    · simp
    · split <;> simp

theorem l1Split_go (s : List UInt8) (c : UInt8) (hs : s.length ≤ 100000) : ∀ (rest cur pre : List UInt8) (acc : TX), c ∉ cur → s = pre ++ cur ++ rest → acc.length ≤ pre.length →
    (w_S_l1Split_4 (s, (c.toNat : Int), acc, (pre.length : Int), ((pre.length + cur.length : Nat) : Int), ())).bind (fun l3 =>
    bif cutB l3.2.2.1 (l3.1.length : Int) l3.1.length then
      bif roomB (l3.2.1.length + [(cutL l3.2.2.1 (l3.1.length : Int) l3.1)].length) then
        (some (((l3.2.1 ++ [(cutL l3.2.2.1 (l3.1.length : Int) l3.1)]), ()), ()) : Option (PVs [S_string] × PVs []))
      else
        none
    else
      none) = some ((acc ++ splitC c (cur ++ rest), ()), ())
  | [], cur, pre, acc, hc, e, ha => by
    have hl : s.length = pre.length + cur.length := by rw [e]; simp
    have : w_S_l1Split_4 (s, (c.toNat : Int), acc, (pre.length : Int), ((pre.length + cur.length : Nat) : Int), ()) = some (s, acc, (pre.length : Int), ()) := by
      refine fix_end ?_
      show b_S_l1Split_4 s (c.toNat : Int) acc (pre.length : Int) ((pre.length + cur.length : Nat) : Int) = _
      unfold b_S_l1Split_4
      rw [decide_eq_false (by omega : ¬ ((pre.length + cur.length : Nat) : Int) < (s.length : Int)), cond_false]
    rw [this, Option.bind_some]
    dsimp only
    rw [List.append_nil] at e ⊢
    have hx : cutL (pre.length : Int) (s.length : Int) s = cur := by
      have := cut_at pre cur []
      rw [List.append_nil, ← e, ← hl] at this
      exact this
    rw [show cutB (pre.length : Int) (s.length : Int) s.length = true from by unfold cutB; simp; omega, cond_true, hx, roomB_ok (by simp; omega), cond_true]
    rw [splitC_not hc]
  | b :: rest, cur, pre, acc, hc, e, ha => by
    have hl : s.length = pre.length + cur.length + rest.length + 1 := by rw [e]; simp; omega
    have hlt : pre.length + cur.length < s.length := by omega
    have hb : s[pre.length + cur.length] = b := by
      simp only [e]
      rw [List.getElem_append_right (by simp)]
      simp
    by_cases h10 : b = c
    · have hx : cutL (pre.length : Int) ((pre.length + cur.length : Nat) : Int) s = cur := by
        rw [e]; exact cut_at pre cur (b :: rest)
      have : w_S_l1Split_4 (s, (c.toNat : Int), acc, (pre.length : Int), ((pre.length + cur.length : Nat) : Int), ()) = w_S_l1Split_4 (s, (c.toNat : Int), acc ++ [cur], ((pre.length + cur.length + 1 : Nat) : Int), ((pre.length + cur.length + 1 : Nat) : Int), ()) := by
        refine fix_go ?_
        show b_S_l1Split_4 s (c.toNat : Int) acc (pre.length : Int) ((pre.length + cur.length : Nat) : Int) = _
        unfold b_S_l1Split_4
        rw [decide_eq_true (by omega : ((pre.length + cur.length : Nat) : Int) < (s.length : Int)), cond_true, inB_lt hlt, cond_true, toNat_cast, getD_of hlt, hb, byte_eq, beq_iff_eq.2 h10, cond_true]
        rw [show cutB (pre.length : Int) ((pre.length + cur.length : Nat) : Int) s.length = true from by unfold cutB; simp; omega, cond_true, hx, roomB_ok (by simp; omega), cond_true, wrap64 (by omega) (by omega), Option.bind_some]
        dsimp only
        rw [wrap64 (by omega) (by omega)]
        rfl
      rw [this]
      have ih := l1Split_go s c hs rest [] (pre ++ (cur ++ [b])) (acc ++ [cur]) (by simp) (by rw [e]; simp) (by simp; omega)
      rw [show (pre ++ (cur ++ [b])).length = pre.length + cur.length + 1 by simp; omega] at ih
      simp only [List.length_nil, Nat.add_zero, List.nil_append] at ih
      rw [ih, h10, splitC_at rest hc]
      simp
    · have : w_S_l1Split_4 (s, (c.toNat : Int), acc, (pre.length : Int), ((pre.length + cur.length : Nat) : Int), ()) = w_S_l1Split_4 (s, (c.toNat : Int), acc, (pre.length : Int), ((pre.length + (cur ++ [b]).length : Nat) : Int), ()) := by
        refine fix_go ?_
        show b_S_l1Split_4 s (c.toNat : Int) acc (pre.length : Int) ((pre.length + cur.length : Nat) : Int) = _
        unfold b_S_l1Split_4
        rw [decide_eq_true (by omega : ((pre.length + cur.length : Nat) : Int) < (s.length : Int)), cond_true, inB_lt hlt, cond_true, toNat_cast, getD_of hlt, hb, byte_eq, beq_eq_false_iff_ne.2 h10, cond_false, Option.bind_some]
        dsimp only
        rw [wrap64 (by omega) (by omega), List.length_append]
        rfl
      rw [this]
      have ih := l1Split_go s c hs rest (cur ++ [b]) pre acc (by simp only [List.mem_append, List.mem_singleton, not_or]; exact ⟨hc, fun h => h10 h.symm⟩) (by rw [e]; simp) ha
      rw [ih]
      simp

theorem l1Split_S (s : List UInt8) (c : UInt8) (hs : s.length ≤ 100000) : f_S_l1Split s (c.toNat : Int) = some ((splitC c s, ()), ()) := by
  unfold f_S_l1Split
  exact l1Split_go s c hs s [] [] [] (by simp) (by simp) (Nat.le_refl _)
end R
end

section
/- Numbers and counts, as both sides read them. -/
open Go Go.Dn
namespace R
set_option linter.unusedVariables false

def digG (n : Nat) (x : UInt8) : Nat ⊕ Unit := if isDg x = true then .inl (dstep n x) else .inr ()
theorem run_dig : ∀ (l : List UInt8) (n : Nat), run digG n l = if l.all isDg = true then .inl (l.foldl dstep n) else .inr ()
  | [], n => rfl
  | x :: l, n => by
    unfold run digG
    by_cases h : isDg x = true
    · rw [if_pos h]
      dsimp only
      rw [show run (fun n x => if isDg x = true then Sum.inl (dstep n x) else Sum.inr ()) (dstep n x) l = run digG (dstep n x) l from rfl, run_dig l]
      rw [List.all_cons, h, Bool.true_and, List.foldl_cons]
    · rw [if_neg h]
      dsimp only
      rw [List.all_cons, if_neg (by simp [h])]

theorem dig_test (x : UInt8) : isDg x = (!(decide (((x.toNat : Nat) : Int) < 48)) && !(decide (((x.toNat : Nat) : Int) > 57))) := by
  unfold isDg
  rw [Bool.eq_iff_iff]
  simp only [Bool.and_eq_true, decide_eq_true_eq, Bool.not_eq_true', decide_eq_false_iff_not]
  omega

theorem read_loop {s : List UInt8} (hs : s.length ≤ 6) : w_S_l1Read_5 (s, 0, 0, ()) = some (match (if s.all isDg = true then .inl (dval s) else .inr () : Nat ⊕ Unit) with | .inl b => .inl ((b : Int), ()) | .inr _ => .inr (-1, ())) := by
  have hpow : ∀ i, i ≤ 6 → 10 ^ i ≤ 1000000 := fun i hi => Nat.le_trans (Nat.pow_le_pow_right (by omega) hi) (by decide)
  have h := (fix_run (B := fun d => b_S_l1Read_5 d.1 d.2.1 d.2.2.1) s digG (fun (n : Nat) i => (s, (n : Int), (i : Int), ())) (fun b => (.inl ((b : Int), ()) : (PV (.int .i64) × Unit) ⊕ (PV (.int .i64) × Unit))) (fun _ => .inr (-1, ())) (fun i n => n < 10 ^ i)
    (fun i hi a b hI hg => by
      have hp := hpow i (by omega)
      unfold digG at hg
      split at hg
      · rename_i hd
        obtain rfl := Sum.inl.inj hg
        have h10 := dig_lt hd
        have hd0 := hd
        unfold isDg at hd0
        rw [Bool.and_eq_true, decide_eq_true_eq, decide_eq_true_eq] at hd0
        rw [dig_test, Bool.and_eq_true, Bool.not_eq_true', Bool.not_eq_true'] at hd
        refine ⟨by unfold dstep; rw [Nat.pow_succ]; omega, ?_⟩
        show b_S_l1Read_5 s (a : Int) (i : Int) = _
        unfold b_S_l1Read_5
        rw [decide_eq_true (by omega : (i : Int) < (s.length : Int)), cond_true, inB_lt hi, cond_true, toNat_cast, getD_of hi, hd.1, cond_false, cond_true, hd.2, Option.bind_some]
        dsimp only
        rw [cond_false, inB_lt hi, cond_true, toNat_cast, getD_of hi, wrap8 (by omega) (by omega), wrap64 (x := 10 * (a : Int)) (by omega) (by omega), wrap64 (x := ((s[i].toNat : Nat) : Int) - 48) (by omega) (by omega), wrap64 (by omega) (by omega), wrap64 (by omega) (by omega)]
        unfold dstep
        rw [show 10 * (a : Int) + (((s[i].toNat : Nat) : Int) - 48) = ((10 * a + (s[i].toNat - 48) : Nat) : Int) by omega]
        rfl
      · cases hg)
    (fun i hi a r hI hg => by
      unfold digG at hg
      split at hg
      · cases hg
      · rename_i hd
        rw [dig_test] at hd
        show b_S_l1Read_5 s (a : Int) (i : Int) = _
        unfold b_S_l1Read_5
        rw [decide_eq_true (by omega : (i : Int) < (s.length : Int)), cond_true, inB_lt hi, cond_true, toNat_cast, getD_of hi, cond_true]
        cases h1 : decide (((s[i].toNat : Nat) : Int) < 48)
        · cases h2 : decide (((s[i].toNat : Nat) : Int) > 57)
          · rw [h1, h2] at hd; exact absurd rfl hd
          · rfl
        · rfl)
    (fun a hI => by
      show b_S_l1Read_5 s (a : Int) (s.length : Int) = _
      unfold b_S_l1Read_5
      rw [decide_eq_false (Int.lt_irrefl _), cond_false]) 0 (by decide)).1
  rw [show w_S_l1Read_5 (s, 0, 0, ()) = _ from h, run_dig]
  unfold dval
  by_cases hd : s.all isDg = true
  · rw [if_pos hd]
  · rw [if_neg hd]

theorem number_S' (s : List UInt8) (hs : s.length ≤ 100000) : f_S_ReadNumber s = some ((if canon s = true then (dval s : Int) else 0, canon s, ()), ()) := by
  have hl : ∀ v : Int, f_S_l1Read s = some ((v, ()), ()) → (canon s = true → v = (dval s : Int)) → (canon s = false → s.length ≤ 4 → v < 0) → f_S_ReadNumber s = some ((if canon s = true then (dval s : Int) else 0, canon s, ()), ()) := by
    intro v h h1 h2
    unfold f_S_ReadNumber
    rw [h, Option.bind_some]
    dsimp only
    cases hc : canon s with
    | true =>
      have h4 := (canon_at hc).1
      rw [h1 hc, decide_eq_false (by omega : ¬ (s.length : Int) > 4), cond_false, Option.bind_some]
      dsimp only
      rw [decide_eq_false (by omega : ¬ (dval s : Int) < 0), cond_false]
      rfl
    | false =>
      by_cases h4 : s.length ≤ 4
      · have := h2 hc h4
        rw [decide_eq_false (by omega : ¬ (s.length : Int) > 4), cond_false, Option.bind_some]
        dsimp only
        rw [decide_eq_true this]
        rfl
      · rw [decide_eq_true (by omega : (s.length : Int) > 4)]
        rfl
  have hin : f_S_l1In (s.length : Int) 1 6 = some ((decide ((s.length : Int) ≥ 1) && decide ((s.length : Int) ≤ 6), ()), ()) := in_S _ _ _
  by_cases h16 : 1 ≤ s.length ∧ s.length ≤ 6
  · have e16 : (decide ((s.length : Int) ≥ 1) && decide ((s.length : Int) ≤ 6)) = true := by
      rw [decide_eq_true (by omega), decide_eq_true (by omega)]; rfl
    obtain ⟨c, r, rfl⟩ : ∃ c r, s = c :: r := by
      cases s with
      | nil => simp at h16
      | cons c r => exact ⟨c, r, rfl⟩
    have hb : (((((c :: r).getD (0 : Int).toNat 0).toNat : Nat) : Int) == 48) = (c == 48) := by
      show (((c.toNat : Nat) : Int) == 48) = _
      rw [show (48 : Int) = (((48 : UInt8).toNat : Nat) : Int) from rfl, byte_eq]
    have hzero : c = 48 ∧ r ≠ [] → canon (c :: r) = false := by
      rintro ⟨rfl, hr⟩
      obtain ⟨d, q, rfl⟩ := List.exists_cons_of_ne_nil hr
      unfold canon lead
      simp
    by_cases hz : c = 48 ∧ r ≠ []
    · refine hl (-1) ?_ (fun h => by rw [hzero hz] at h; cases h) fun _ _ => by omega
      unfold f_S_l1Read
      rw [hin, Option.bind_some, e16, show inB 0 (c :: r).length = true from inB_lt (i := 0) (by simp), show (((((c :: r).getD (0 : Int).toNat 0).toNat : Nat) : Int) == 48) = true from by rw [hb, hz.1]; rfl]
      have : 0 < r.length := List.length_pos_iff.2 hz.2
      simp only [Bool.not_true, cond_false, cond_true]
      rw [decide_eq_true (by simp; omega : ((c :: r).length : Int) > 1), Option.bind_some]
      rfl
    · have hlead : lead (c :: r) = true := by
        cases r with
        | nil => rfl
        | cons d q =>
          have : c ≠ 48 := fun e => hz ⟨e, by simp⟩
          simp [lead, this]
      have hgo : f_S_l1Read (c :: r) = (w_S_l1Read_5 (c :: r, 0, 0, ())).bind fun x14 =>
        match x14 with
        | .inl l12 => some ((l12.1, ()), ())
        | .inr l13 => some ((l13.1, ()), ()) := by
        unfold f_S_l1Read
        rw [hin, Option.bind_some, e16, show inB 0 (c :: r).length = true from inB_lt (i := 0) (by simp), hb]
        simp only [Bool.not_true, cond_false, cond_true]
        cases hc48 : c == 48
        · rw [cond_false, Option.bind_some]; rfl
        · have hr : r = [] := Classical.byContradiction fun hn => hz ⟨beq_iff_eq.1 hc48, hn⟩
          subst hr
          rfl
      rw [read_loop (by omega)] at hgo
      by_cases hd : (c :: r).all isDg = true
      · rw [if_pos hd] at hgo
        refine hl _ hgo (fun _ => rfl) fun hc h4 => ?_
        unfold canon at hc
        rw [hd, hlead, decide_eq_true h4] at hc
        cases hc
      · rw [if_neg hd] at hgo
        refine hl _ hgo (fun hc => absurd (canon_at hc).2.1 hd) fun _ _ => by show (-1 : Int) < 0; omega
  · have e16 : (decide ((s.length : Int) ≥ 1) && decide ((s.length : Int) ≤ 6)) = false := by
      rw [Bool.and_eq_false_iff, decide_eq_false_iff_not, decide_eq_false_iff_not]
      omega
    refine hl (-1) ?_ (fun h => ?_) fun _ _ => by omega
    · unfold f_S_l1Read
      rw [hin, Option.bind_some, e16]
      rfl
    · have h1 := (canon_at h).1
      have h2 := List.length_pos_iff.2 (canon_at h).2.2.2
      omega

theorem number_I' (s : List UInt8) (hs : s.length ≤ 100000) : f_I_readNumber s = some ((numV s, canon s, ()), ()) := by
  unfold f_I_readNumber numF
  rw [decide_eq_true (by omega : s.length ≤ 1000000), cond_true, numB_canon]

theorem range_I (a b : Int) : f_I_isRange a b = some ((decide (0 ≤ a ∧ a ≤ 999 ∧ 0 ≤ b ∧ b ≤ 999), ()), ()) := by
  unfold f_I_isRange
  rw [in_I, in_I, Option.bind_some]
  dsimp only
  by_cases h : 0 ≤ a ∧ a ≤ 999
  · rw [show (decide (a ≥ 0) && decide (a ≤ 999)) = true from by rw [decide_eq_true (by omega : a ≥ 0), decide_eq_true (by omega : a ≤ 999)]; rfl, cond_true, Option.bind_some]
    dsimp only
    have e : (decide (b ≥ 0) && decide (b ≤ 999)) = decide (0 ≤ a ∧ a ≤ 999 ∧ 0 ≤ b ∧ b ≤ 999) := by
      rw [Bool.eq_iff_iff, Bool.and_eq_true, decide_eq_true_eq, decide_eq_true_eq, decide_eq_true_eq]
      omega
    rw [e]
  · rw [show (decide (a ≥ 0) && decide (a ≤ 999)) = false from by rw [Bool.and_eq_false_iff, decide_eq_false_iff_not, decide_eq_false_iff_not]; omega, cond_false, decide_eq_false (by omega)]
theorem range_S (a b : Int) : f_S_l4Range a b = some ((decide (0 ≤ a ∧ a ≤ 999 ∧ 0 ≤ b ∧ b ≤ 999), ()), ()) := by
  unfold f_S_l4Range
  rw [in_S, in_S, Option.bind_some]
  dsimp only
  by_cases h : 0 ≤ a ∧ a ≤ 999
  · rw [show (decide (a ≥ 0) && decide (a ≤ 999)) = true from by rw [decide_eq_true (by omega : a ≥ 0), decide_eq_true (by omega : a ≤ 999)]; rfl, cond_true, Option.bind_some]
    dsimp only
    have e : (decide (b ≥ 0) && decide (b ≤ 999)) = decide (0 ≤ a ∧ a ≤ 999 ∧ 0 ≤ b ∧ b ≤ 999) := by
      rw [Bool.eq_iff_iff, Bool.and_eq_true, decide_eq_true_eq, decide_eq_true_eq, decide_eq_true_eq]
      omega
    rw [e]
  · rw [show (decide (a ≥ 0) && decide (a ≤ 999)) = false from by rw [Bool.and_eq_false_iff, decide_eq_false_iff_not, decide_eq_false_iff_not]; omega, cond_false, decide_eq_false (by omega)]

def cntR (s : List UInt8) : PVs [.int .i64, .int .i64, .bool] := match countP s with
  | some (n, m) => (n, m, true, ())
  | none => (0, 0, false, ())
theorem cnt_of {s : List UInt8} {n m : Int} (h : countP s = rngP n m) : cntR s = bif decide (0 ≤ n ∧ n ≤ 999 ∧ 0 ≤ m ∧ m ≤ 999) then (n, m, true, ()) else (0, 0, false, ()) := by
  unfold cntR
  rw [h]
  unfold rngP
  by_cases hc : 0 ≤ n ∧ n ≤ 999 ∧ 0 ≤ m ∧ m ≤ 999
  · rw [if_pos hc, decide_eq_true hc]; rfl
  · rw [if_neg hc, decide_eq_false hc]; rfl
theorem cnt_no {s : List UInt8} (h : countP s = none) : cntR s = (0, 0, false, ()) := by
  unfold cntR
  rw [h]

theorem readCount_I (s : List UInt8) (hs : s.length ≤ 100000) : f_I_ReadCount s = some (cntR s, ()) := by
  unfold f_I_ReadCount f_I_readTwo
  rw [comma_I s hs, Option.bind_some]
  cases hc : comma s with
  | none =>
    dsimp only
    rw [number_I' s hs, Option.bind_some, Bool.not_false, cond_true, Option.bind_some]
    dsimp only
    rw [Bool.not_false, cond_true, Option.bind_some]
    dsimp only
    rw [show decide ((1 : Int) > 0) = true from rfl, cond_true, Option.bind_some]
    dsimp only
    cases hn : canon s with
    | false =>
      rw [cnt_no (by unfold countP; rw [hc]; dsimp only; rw [hn]; rfl)]
      rfl
    | true =>
      have hlt := canon_lt hn
      rw [numV_canon hn, wrap64 (by omega) (by omega), Bool.not_true, cond_false, range_I, Option.bind_some, Option.bind_some]
      rw [cnt_of (n := (dval s : Int) - 1) (m := 1) (by unfold countP; rw [hc]; dsimp only; rw [if_pos hn])]
      dsimp only
      cases decide (0 ≤ (dval s : Int) - 1 ∧ (dval s : Int) - 1 ≤ 999 ∧ (0 : Int) ≤ 1 ∧ (1 : Int) ≤ 999) <;> rfl
  | some p =>
    obtain ⟨a, b⟩ := p
    have hab : a.length ≤ s.length ∧ b.length ≤ s.length := by
      by_cases hm : (44 : UInt8) ∈ s
      · obtain ⟨t, r, rfl, ht⟩ := first_of hm
        rw [comma_at r ht] at hc
        obtain ⟨rfl, rfl⟩ := Prod.mk.inj (Option.some.inj hc)
        constructor <;> simp <;> omega
      · rw [comma_no hm] at hc; cases hc
    dsimp only
    rw [number_I' a (by omega), Option.bind_some, Bool.not_true, cond_false, number_I' b (by omega), Option.bind_some]
    dsimp only
    cases ha : canon a with
    | false =>
      have hP : countP s = none := by unfold countP; rw [hc]; dsimp only; rw [if_neg (by rw [ha]; simp)]
      rw [cnt_no hP, cond_false, Option.bind_some]
      dsimp only
      rw [Bool.not_true, cond_false, Option.bind_some]
      dsimp only
      cases decide (numV b > 0) <;> rfl
    | true =>
      rw [cond_true, Option.bind_some]
      dsimp only
      rw [Bool.not_true, cond_false, Option.bind_some]
      dsimp only
      cases hb : canon b with
      | false =>
        have hP : countP s = none := by unfold countP; rw [hc]; dsimp only; rw [if_neg (by rw [hb]; simp)]
        rw [cnt_no hP]
        cases decide (numV b > 0) <;> rfl
      | true =>
        have h1 := canon_lt ha
        have h2 := canon_lt hb
        rw [numV_canon ha, numV_canon hb]
        have hP : countP s = rngP (if 0 < dval b then (dval a : Int) - 1 else (dval a : Int)) (dval b : Int) := by unfold countP; rw [hc]; dsimp only; rw [if_pos ⟨ha, hb⟩]
        rw [cnt_of hP]
        by_cases h0 : 0 < dval b
        · rw [decide_eq_true (by omega : (dval b : Int) > 0), cond_true, Option.bind_some, if_pos h0]
          dsimp only
          rw [wrap64 (by omega) (by omega), Bool.not_true, cond_false, range_I, Option.bind_some, Option.bind_some]
          dsimp only
          cases decide (0 ≤ (dval a : Int) - 1 ∧ (dval a : Int) - 1 ≤ 999 ∧ 0 ≤ (dval b : Int) ∧ (dval b : Int) ≤ 999) <;> rfl
        · rw [decide_eq_false (by omega : ¬ (dval b : Int) > 0), cond_false, Option.bind_some, if_neg h0]
          dsimp only
          rw [Bool.not_true, cond_false, range_I, Option.bind_some, Option.bind_some]
          dsimp only
          cases decide (0 ≤ (dval a : Int) ∧ (dval a : Int) ≤ 999 ∧ 0 ≤ (dval b : Int) ∧ (dval b : Int) ≤ 999) <;> rfl

theorem readCount_S (s : List UInt8) (hs : s.length ≤ 100000) : f_S_ReadCount s = some (cntR s, ()) := by
  unfold f_S_ReadCount
  rw [show (44 : Int) = (((44 : UInt8).toNat : Nat) : Int) from rfl, l1Split_S s 44 hs, Option.bind_some]
  dsimp only
  by_cases hm : (44 : UInt8) ∈ s
  · obtain ⟨a, b, rfl, ht⟩ := first_of hm
    have hc := comma_at b ht
    rw [splitC_at b ht]
    have hla : a.length ≤ 100000 := by simp at hs; omega
    have hlb : b.length ≤ 100000 := by simp at hs; omega
    rw [show inB 0 (a :: splitC 44 b).length = true from inB_lt (i := 0) (by simp), cond_true]
    rw [show (a :: splitC 44 b).getD (0 : Int).toNat [] = a from rfl, number_S' a hla, Option.bind_some]
    dsimp only
    by_cases hb : (44 : UInt8) ∈ b
    · have hP : countP (a ++ 44 :: b) = none := by
        unfold countP
        rw [hc]
        dsimp only
        rw [if_neg fun h => ?_]
        have := canon_dg h.2 44 hb
        cases this
      rw [cnt_no hP]
      obtain ⟨b1, b2, rfl, hb1⟩ := first_of hb
      rw [splitC_at b2 hb1]
      have hne := splitC_ne 44 b2
      have hlen : 1 ≤ (splitC 44 b2).length := List.length_pos_iff.2 hne
      rw [show (((a :: b1 :: splitC 44 b2).length : Int) == 2) = false from beq_eq_false_iff_ne.2 (by simp; omega), cond_false, Option.bind_some]
      dsimp only
      rw [show decide ((1 : Int) > 0) = true from rfl, cond_true, Option.bind_some]
      dsimp only
      rw [decide_eq_true (by simp; omega : ((a :: b1 :: splitC 44 b2).length : Int) > 2)]
      cases canon a <;> rfl
    · rw [splitC_not hb, show (((a :: [b]).length : Int) == 2) = true from rfl, cond_true, show inB 1 (a :: [b]).length = true from rfl, cond_true]
      rw [show (a :: [b]).getD (1 : Int).toNat [] = b from rfl, number_S' b hlb, Option.bind_some]
      dsimp only
      cases ha : canon a with
      | false =>
        have hP : countP (a ++ 44 :: b) = none := by unfold countP; rw [hc]; dsimp only; rw [if_neg (by rw [ha]; simp)]
        rw [cnt_no hP, cond_false, Option.bind_some]
        dsimp only
        cases decide ((if canon b = true then (dval b : Int) else 0) > 0) <;> rfl
      | true =>
        rw [cond_true, Option.bind_some]
        dsimp only
        cases hbc : canon b with
        | false =>
          have hP : countP (a ++ 44 :: b) = none := by unfold countP; rw [hc]; dsimp only; rw [if_neg (by rw [hbc]; simp)]
          rw [cnt_no hP]
          rfl
        | true =>
          have h1 := canon_lt ha
          have h2 := canon_lt hbc
          have hP : countP (a ++ 44 :: b) = rngP (if 0 < dval b then (dval a : Int) - 1 else (dval a : Int)) (dval b : Int) := by unfold countP; rw [hc]; dsimp only; rw [if_pos ⟨ha, hbc⟩]
          rw [cnt_of hP, if_pos rfl, if_pos rfl]
          by_cases h0 : 0 < dval b
          · rw [decide_eq_true (by omega : (dval b : Int) > 0), cond_true, Option.bind_some, if_pos h0]
            dsimp only
            rw [wrap64 (by omega) (by omega), Bool.not_true, cond_false, show decide (((a :: [b]).length : Int) > 2) = false from rfl, cond_false, range_S, Option.bind_some, Option.bind_some]
            dsimp only
            cases decide (0 ≤ (dval a : Int) - 1 ∧ (dval a : Int) - 1 ≤ 999 ∧ 0 ≤ (dval b : Int) ∧ (dval b : Int) ≤ 999) <;> rfl
          · rw [decide_eq_false (by omega : ¬ (dval b : Int) > 0), cond_false, Option.bind_some, if_neg h0]
            dsimp only
            rw [Bool.not_true, cond_false, show decide (((a :: [b]).length : Int) > 2) = false from rfl, cond_false, range_S, Option.bind_some, Option.bind_some]
            dsimp only
            cases decide (0 ≤ (dval a : Int) ∧ (dval a : Int) ≤ 999 ∧ 0 ≤ (dval b : Int) ∧ (dval b : Int) ≤ 999) <;> rfl
  · have hc := comma_no hm
    rw [splitC_not hm, show inB 0 [s].length = true from rfl, cond_true, show [s].getD (0 : Int).toNat [] = s from rfl, number_S' s hs, Option.bind_some]
    dsimp only
    rw [show (([s].length : Int) == 2) = false from rfl, cond_false, Option.bind_some]
    dsimp only
    rw [show decide ((1 : Int) > 0) = true from rfl, cond_true, Option.bind_some]
    dsimp only
    cases hn : canon s with
    | false =>
      rw [cnt_no (by unfold countP; rw [hc]; dsimp only; rw [hn]; rfl)]
      rfl
    | true =>
      have hlt := canon_lt hn
      rw [if_pos rfl, wrap64 (by omega) (by omega), Bool.not_true, cond_false, show decide (([s].length : Int) > 2) = false from rfl, cond_false, range_S, Option.bind_some, Option.bind_some]
      rw [cnt_of (n := (dval s : Int) - 1) (m := 1) (by unfold countP; rw [hc]; dsimp only; rw [if_pos hn])]
      dsimp only
      cases decide (0 ≤ (dval s : Int) - 1 ∧ (dval s : Int) - 1 ≤ 999 ∧ (0 : Int) ≤ 1 ∧ (1 : Int) ≤ 999) <;> rfl
end R
end

section
/- Heads of groups, as both sides read them. -/
open Go Go.Dn
namespace R
set_option linter.unusedVariables false

def hdP (o f : List UInt8) : List UInt8 := ((([64, 64, 32, 45] ++ o) ++ [32, 43]) ++ f) ++ [32, 64, 64, 10]
def HeadIs (l o f : List UInt8) (a m b k : Int) : Prop := l = hdP o f ∧ countP o = some (a, m) ∧ countP f = some (b, k)

theorem cntR_ok {s : List UInt8} {n m : Int} (h : countP s = some (n, m)) : cntR s = (n, m, true, ()) := by unfold cntR; rw [h]
theorem cntR_cases (s : List UInt8) : (∃ n m, countP s = some (n, m) ∧ cntR s = (n, m, true, ())) ∨ (countP s = none ∧ cntR s = (0, 0, false, ())) := by
  cases h : countP s with
  | none => exact .inr ⟨rfl, cnt_no h⟩
  | some p => exact .inl ⟨p.1, p.2, rfl, cntR_ok h⟩

theorem count_no32 {o : List UInt8} {x : Int × Int} (h : countP o = some x) : (32 : UInt8) ∉ o := fun hm => by
  rcases countP_chars h 32 hm with h1 | h1 <;> cases h1
theorem count_no10 {o : List UInt8} {x : Int × Int} (h : countP o = some x) : (10 : UInt8) ∉ o := fun hm => by
  rcases countP_chars h 10 hm with h1 | h1 <;> cases h1

abbrev GZ : PV Y_impl_Group := (0, (0, (([] : PV S_impl_Row), ())))
noncomputable def contI (z : Option ((PV S_string × PV Y_impl_Group × PV .str × PV .str × PV Y_impl_Group × PV (.int .i64) × PV (.int .i64) × Unit) ⊕ (PV Y_impl_Group × PV .str × PV S_string × PV .bool × Unit))) : Option (PVs [Y_impl_Group, .str, S_string, .bool] × PVs []) :=
  z.bind fun x29 =>
    match x29 with
    | .inl l24 =>
      (f_I_headText l24.2.2.1 l24.2.2.2.1).bind fun r25 =>
        (f_I_rowsText l24.2.2.2.2.1.2.2.1).bind fun r26 =>
          bif decide (r25.1.1.length + r26.1.1.length ≤ 1099511627776) then
            bif (l24.2.2.2.2.2.1 == 0) then
              some ((l24.2.2.2.2.1, (r25.1.1 ++ r26.1.1), l24.1, (l24.2.2.2.2.2.2.1 == 0), ()), ())
            else
              some ((l24.2.2.2.2.1, (r25.1.1 ++ r26.1.1), l24.1, false, ()), ())
          else
            none
    | .inr l27 =>
      some ((l27.1, l27.2.1, l27.2.2.1, l27.2.2.2.1, ()), ())

theorem drop_one {α : Type} (l : α) (ls : List α) : cutL 1 ((l :: ls).length : Int) (l :: ls) = ls := by
  unfold cutL
  rw [toNat_cast, List.take_length]
  rfl
theorem drop_ok {α : Type} (l : α) (ls : List α) : cutB 1 ((l :: ls).length : Int) (l :: ls).length = true := by
  unfold cutB; simp; omega

theorem head_I (l : List UInt8) (ls : TX) (hl : l.length ≤ 100000) :
    (∃ o f a m b k, HeadIs l o f a m b k ∧ f_I_takeGroup (l :: ls) = contI (w_I_takeGroup_10 (ls, GZ, o, f, (a, (b, (([] : PV S_impl_Row), ()))), m, k, ()))) ∨
    ((∀ o f a m b k, ¬ HeadIs l o f a m b k) ∧ f_I_takeGroup (l :: ls) = some ((GZ, [], [], false, ()), ())) := by
  have e0 : inB 0 (l :: ls).length = true := inB_lt (i := 0) (by simp)
  have eg : (l :: ls).getD ((0 : Int).toNat) [] = l := rfl
  have ed := drop_one l ls
  have ek := drop_ok l ls
  have hpre : ∀ o f, l = hdP o f → l.take 4 = [64, 64, 32, 45] ∧ l.drop 4 = (o ++ [32, 43]) ++ (f ++ [32, 64, 64, 10]) := by
    rintro o f rfl
    unfold hdP
    simp
  have hdl : (l.drop 4).length ≤ 100000 := by rw [List.length_drop]; omega
  have hnil : cntR [] = (0, 0, false, ()) := cnt_no (by decide)
  cases h1 : (l.take ([64, 64, 32, 45] : List UInt8).length == [64, 64, 32, 45])
  · refine .inr ⟨fun o f a m b k h => ?_, ?_⟩
    · have := (hpre o f h.1).1
      rw [show l.take ([64, 64, 32, 45] : List UInt8).length = l.take 4 from rfl, this] at h1
      cases h1
    · have go : ∀ (t r : List UInt8) (q : Bool), t.length ≤ 100000 → r.length ≤ 100000 → f_strings_Cut l [32, 43] = some ((t, r, q, ()), ()) → f_I_takeGroup (l :: ls) = some ((GZ, [], [], false, ()), ()) := by
        intro t r q ht hr hc
        have hr2 : (bif r.drop (r.length - ([32, 64, 64, 10] : List UInt8).length) == [32, 64, 64, 10] then r.take (r.length - ([32, 64, 64, 10] : List UInt8).length) else r).length ≤ 100000 := by
          cases (r.drop (r.length - ([32, 64, 64, 10] : List UInt8).length) == [32, 64, 64, 10])
          · exact hr
          · rw [cond_true, List.length_take]; omega
        unfold f_I_takeGroup
        rw [e0, cond_true, eg, cutPrefix_I l _ hl (by decide), Option.bind_some, h1]
        dsimp only
        rw [cond_false, hc, Option.bind_some]
        dsimp only
        rw [cutSuffix_I r _ hr (by decide), Option.bind_some]
        dsimp only
        rw [readCount_I t ht, Option.bind_some, readCount_I _ hr2, Option.bind_some, Bool.not_false, cond_true, Option.bind_some]
        rfl
      rcases plus_I l hl with ⟨t, r, e, hc, _⟩ | ⟨_, hc⟩
      · exact go t r true (by rw [e] at hl; simp at hl; omega) (by rw [e] at hl; simp at hl; omega) hc
      · exact go l [] false hl (by simp) hc
  · rcases plus_I (l.drop 4) hdl with ⟨t, r, e, hc, huniq⟩ | ⟨hno, hc⟩
    · have ht : t.length ≤ 100000 := by rw [e] at hdl; simp at hdl; omega
      have hr : r.length ≤ 100000 := by rw [e] at hdl; simp at hdl; omega
      cases h3 : (r.drop (r.length - ([32, 64, 64, 10] : List UInt8).length) == [32, 64, 64, 10])
      · refine .inr ⟨fun o f a m b k h => ?_, ?_⟩
        · obtain ⟨_, h5⟩ := huniq o (f ++ [32, 64, 64, 10]) (hpre o f h.1).2 (count_no32 h.2.1)
          rw [← h5] at h3
          simp at h3
        · unfold f_I_takeGroup
          rw [e0, cond_true, eg, cutPrefix_I l _ hl (by decide), Option.bind_some, h1]
          dsimp only
          rw [cond_true, show l.drop ([64, 64, 32, 45] : List UInt8).length = l.drop 4 from rfl, hc, Option.bind_some]
          dsimp only
          rw [cutSuffix_I r _ hr (by decide), Option.bind_some, h3]
          dsimp only
          rw [cond_false, readCount_I t ht, Option.bind_some, readCount_I r hr, Option.bind_some]
          rfl
      · have hrt : (r.take (r.length - ([32, 64, 64, 10] : List UInt8).length)).length ≤ 100000 := by rw [List.length_take]; omega
        generalize hf : r.take (r.length - ([32, 64, 64, 10] : List UInt8).length) = f0 at hrt
        have hrf : r = f0 ++ [32, 64, 64, 10] := by
          have h3' := beq_iff_eq.1 h3
          have := List.take_append_drop (r.length - ([32, 64, 64, 10] : List UInt8).length) r
          rw [h3', hf] at this
          exact this.symm
        have hl4 : l = [64, 64, 32, 45] ++ l.drop 4 := by
          conv => lhs; rw [← List.take_append_drop 4 l]
          rw [show l.take 4 = [64, 64, 32, 45] from beq_iff_eq.1 h1]
        have hlh : l = hdP t f0 := by
          rw [hl4, e, hrf]; unfold hdP; simp
        have hU : ∀ o f a m b k, HeadIs l o f a m b k → o = t ∧ f = f0 := by
          intro o f a m b k h
          obtain ⟨h4, h5⟩ := huniq o (f ++ [32, 64, 64, 10]) (hpre o f h.1).2 (count_no32 h.2.1)
          rw [hrf] at h5
          exact ⟨h4, List.append_cancel_right h5⟩
        have go : f_I_takeGroup (l :: ls) = (bif !(cntR t).2.2.1 || !(cntR f0).2.2.1 then some ((GZ, [], [], false, ()), ()) else contI (w_I_takeGroup_10 (ls, GZ, t, f0, ((cntR t).1, ((cntR f0).1, (([] : PV S_impl_Row), ()))), (cntR t).2.1, (cntR f0).2.1, ()))) := by
          unfold f_I_takeGroup
          rw [e0, cond_true, eg, cutPrefix_I l _ hl (by decide), Option.bind_some, h1]
          dsimp only
          rw [cond_true, show l.drop ([64, 64, 32, 45] : List UInt8).length = l.drop 4 from rfl, hc, Option.bind_some]
          dsimp only
          rw [cutSuffix_I r _ hr (by decide), Option.bind_some, h3]
          dsimp only
          rw [cond_true, hf, readCount_I t ht, Option.bind_some, readCount_I f0 hrt, Option.bind_some]
          dsimp only
          cases q1 : (cntR t).2.2.1
          · rfl
          · cases q2 : (cntR f0).2.2.1
            · rfl
            · simp only [Bool.not_true, cond_false, Option.bind_some, Bool.or_self]
              rw [ek, cond_true, ed]
              rfl
        rcases cntR_cases t with ⟨a, m, c1, c2⟩ | ⟨c1, c2⟩
        · rcases cntR_cases f0 with ⟨b, k, d1, d2⟩ | ⟨d1, d2⟩
          · refine .inl ⟨t, f0, a, m, b, k, ⟨hlh, c1, d1⟩, ?_⟩
            rw [go, c2, d2]; rfl
          · refine .inr ⟨fun o f a m b k h => ?_, ?_⟩
            · obtain ⟨rfl, rfl⟩ := hU o f a m b k h
              have := h.2.2
              rw [d1] at this; cases this
            · rw [go, c2, d2]; rfl
        · refine .inr ⟨fun o f a m b k h => ?_, ?_⟩
          · obtain ⟨rfl, rfl⟩ := hU o f a m b k h
            have := h.2.1
            rw [c1] at this; cases this
          · rw [go, c2]; rfl
    · refine .inr ⟨fun o f a m b k h => hno o (f ++ [32, 64, 64, 10]) (hpre o f h.1).2, ?_⟩
      unfold f_I_takeGroup
      rw [e0, cond_true, eg, cutPrefix_I l _ hl (by decide), Option.bind_some, h1]
      dsimp only
      rw [cond_true, show l.drop ([64, 64, 32, 45] : List UInt8).length = l.drop 4 from rfl, hc, Option.bind_some]
      dsimp only
      rw [cutSuffix_I [] _ (by simp) (by decide), Option.bind_some]
      dsimp only
      rw [readCount_I _ hdl, Option.bind_some, readCount_I _ (by simp), Option.bind_some]
      rfl

/-! ### the reference's head -/
def hdQ (o f : List UInt8) : List UInt8 := ((([64, 64, 32, 45] ++ o) ++ [32, 43]) ++ f) ++ [32, 64, 64]

theorem splitC_inv {c : UInt8} {p w : List UInt8} {ws : TX} (h : splitC c p = w :: ws) : (ws = [] ∧ p = w ∧ c ∉ w) ∨ (∃ r, p = w ++ c :: r ∧ c ∉ w ∧ splitC c r = ws) := by
  by_cases hm : c ∈ p
  · obtain ⟨t, r, rfl, ht⟩ := first_of hm
    rw [splitC_at r ht] at h
    obtain ⟨rfl, rfl⟩ := List.cons.inj h
    exact .inr ⟨r, rfl, ht, rfl⟩
  · rw [splitC_not hm] at h
    obtain ⟨rfl, rfl⟩ := List.cons.inj h
    exact .inl ⟨rfl, rfl, hm⟩

theorem hdQ_split {o f : List UInt8} (ho : (32 : UInt8) ∉ o) (hf : (32 : UInt8) ∉ f) : splitC 32 (hdQ o f) = [[64, 64], 45 :: o, 43 :: f, [64, 64]] := by
  have e : hdQ o f = [64, 64] ++ 32 :: ((45 :: o) ++ 32 :: ((43 :: f) ++ 32 :: [64, 64])) := by unfold hdQ; simp
  rw [e, splitC_at _ (by decide), splitC_at _ (by simp [ho]), splitC_at _ (by simp [hf]), splitC_not (by decide)]

theorem head_S (p : List UInt8) (hp : p.length ≤ 100000) :
    (∃ o f a m b k, p = hdQ o f ∧ countP o = some (a, m) ∧ countP f = some (b, k) ∧ f_S_l7Head p = some (((a, (b, (([] : PV S_impl_Row), ()))), m, k, true, ()), ())) ∨
    ((∀ o f a m b k, p = hdQ o f → countP o = some (a, m) → countP f = some (b, k) → False) ∧ ∃ g m k, f_S_l7Head p = some ((g, m, k, false, ()), ())) := by
  have hsp : f_S_l1Split p 32 = some ((splitC 32 p, ()), ()) := l1Split_S p 32 hp
  have hrej : (splitC 32 p).length ≠ 4 → f_S_l7Head p = some ((GZ, 0, 0, false, ()), ()) := by
    intro h
    unfold f_S_l7Head
    rw [hsp, Option.bind_some]
    dsimp only
    rw [show (((splitC 32 p).length : Int) == 4) = false from beq_eq_false_iff_ne.2 (by omega)]
    rfl
  have hno : (∀ o f, splitC 32 p = [[64, 64], 45 :: o, 43 :: f, [64, 64]] → o ≠ [] → f ≠ [] → False) → ∀ o f a m b k, p = hdQ o f → countP o = some (a, m) → countP f = some (b, k) → False := by
    rintro h o f a m b k rfl h1 h2
    exact h o f (hdQ_split (count_no32 h1) (count_no32 h2)) (countP_ne h1) (countP_ne h2)
  by_cases h4 : (splitC 32 p).length = 4
  · obtain ⟨w0, w1, w2, w3, hw⟩ : ∃ w0 w1 w2 w3, splitC 32 p = [w0, w1, w2, w3] := by
      match hq : splitC 32 p, h4 with
      | [w0, w1, w2, w3], _ => exact ⟨w0, w1, w2, w3, rfl⟩
    rcases splitC_inv hw with ⟨h, _⟩ | ⟨r0, e0, n0, hw0⟩
    · cases h
    rcases splitC_inv hw0 with ⟨h, _⟩ | ⟨r1, e1, n1, hw1⟩
    · cases h
    rcases splitC_inv hw1 with ⟨h, _⟩ | ⟨r2, e2, n2, hw2⟩
    · cases h
    obtain ⟨e3, n3⟩ : r2 = w3 ∧ (32 : UInt8) ∉ w3 := by
      rcases splitC_inv hw2 with ⟨_, e3, n3⟩ | ⟨r3, _, _, h⟩
      · exact ⟨e3, n3⟩
      · exact absurd h (splitC_ne _ _)
    have hwl : w1.length ≤ 100000 ∧ w2.length ≤ 100000 := by
      have := congrArg List.length e0
      have := congrArg List.length e1
      have := congrArg List.length e2
      simp only [List.length_append, List.length_cons] at *
      omega
    rw [hw] at hsp hno
    have rej : ∀ {z : Option (PV Y_impl_Group × PV S_string × PV .bool × Unit)}, z = some (GZ, [w0, w1, w2, w3], true, ()) → True := fun _ => trivial
    by_cases c0 : ¬ w0 = [64, 64]
    · refine .inr ⟨hno fun o f h _ _ => ?_, GZ, 0, 0, ?_⟩
      · obtain ⟨h, _⟩ := List.cons.inj h; exact c0 h
      · unfold f_S_l7Head
        rw [hsp, Option.bind_some]
        dsimp only
        rw [show (([w0, w1, w2, w3].length : Int) == 4) = true from rfl, show inB 0 [w0, w1, w2, w3].length = true from rfl, show [w0, w1, w2, w3].getD ((0 : Int).toNat) [] = w0 from rfl, show (w0 == [64, 64]) = false from beq_eq_false_iff_ne.2 c0]
        rfl
    replace c0 := Classical.not_not.1 c0
    by_cases c3 : ¬ w3 = [64, 64]
    · refine .inr ⟨hno fun o f h _ _ => ?_, GZ, 0, 0, ?_⟩
      · simp only [List.cons.injEq] at h; exact c3 h.2.2.2.1
      · unfold f_S_l7Head
        rw [hsp, Option.bind_some]
        dsimp only
        rw [show (([w0, w1, w2, w3].length : Int) == 4) = true from rfl, show inB 0 [w0, w1, w2, w3].length = true from rfl, show inB 3 [w0, w1, w2, w3].length = true from rfl, show [w0, w1, w2, w3].getD ((0 : Int).toNat) [] = w0 from rfl, show [w0, w1, w2, w3].getD ((3 : Int).toNat) [] = w3 from rfl, show (w0 == [64, 64]) = true from beq_iff_eq.2 c0, show (w3 == [64, 64]) = false from beq_eq_false_iff_ne.2 c3]
        rfl
    replace c3 := Classical.not_not.1 c3
    subst c0 c3
    have base : f_S_l7Head p = ((bif decide ((w1.length : Int) < 2) then some (GZ, [[64, 64], w1, w2, [64, 64]], true, ()) else bif decide ((w2.length : Int) < 2) then some (GZ, [[64, 64], w1, w2, [64, 64]], true, ()) else
        bif inB 0 w1.length then bif (!(((w1.getD (0 : Int).toNat 0).toNat : Int) == 45)) then some (GZ, [[64, 64], w1, w2, [64, 64]], true, ()) else bif inB 0 w2.length then some (GZ, [[64, 64], w1, w2, [64, 64]], (!(((w2.getD (0 : Int).toNat 0).toNat : Int) == 43)), ()) else none else none : Option (PV Y_impl_Group × PV S_string × PV .bool × Unit))).bind fun j4 =>
      bif j4.2.2.1 then some ((GZ, 0, 0, false, ()), ())
      else bif inB 1 j4.2.1.length then
          bif cutB 1 ((j4.2.1.getD ((1 : Int).toNat) []).length : Int) (j4.2.1.getD ((1 : Int).toNat) []).length then
            (f_S_ReadCount (cutL 1 ((j4.2.1.getD ((1 : Int).toNat) []).length : Int) (j4.2.1.getD ((1 : Int).toNat) []))).bind fun r6 =>
              bif inB 2 j4.2.1.length then
                bif cutB 1 ((j4.2.1.getD ((2 : Int).toNat) []).length : Int) (j4.2.1.getD ((2 : Int).toNat) []).length then
                  (f_S_ReadCount (cutL 1 ((j4.2.1.getD ((2 : Int).toNat) []).length : Int) (j4.2.1.getD ((2 : Int).toNat) []))).bind fun r8 =>
                    bif r6.1.2.2.1 then
                      some (((r6.1.1, (r8.1.1, (([] : PV S_impl_Row), ()))), r6.1.2.1, r8.1.2.1, r8.1.2.2.1, ()), ())
                    else
                      some (((r6.1.1, (r8.1.1, (([] : PV S_impl_Row), ()))), r6.1.2.1, r8.1.2.1, false, ()), ())
                else none
              else none
          else none
        else none := by
      unfold f_S_l7Head
      rw [hsp, Option.bind_some]
      rfl
    match w1, w2, hwl, hno, base, e0, e1, e2, hw with
    | [], _, _, hno, base, _, _, _, _ => exact .inr ⟨hno fun o f h _ _ => by simp at h, GZ, 0, 0, by rw [base]; rfl⟩
    | [_], _, _, hno, base, _, _, _, _ => exact .inr ⟨hno fun o f h ho _ => ho (by simp only [List.cons.injEq] at h; exact h.2.1.2.symm), GZ, 0, 0, by rw [base]; rfl⟩
    | x :: y :: w1, [], _, hno, base, _, _, _, _ => exact .inr ⟨hno fun o f h _ _ => by simp at h, GZ, 0, 0, by rw [base, decide_eq_false (by simp; omega)]; rfl⟩
    | x :: y :: w1, [_], _, hno, base, _, _, _, _ => exact .inr ⟨hno fun o f h _ hf => hf (by simp only [List.cons.injEq] at h; exact h.2.2.1.2.symm), GZ, 0, 0, by rw [base, decide_eq_false (by simp; omega)]; rfl⟩
    | x :: y :: w1, x' :: y' :: w2, hwl, hno, base, e0, e1, e2, hw =>
      rw [decide_eq_false (by simp; omega : ¬ ((x :: y :: w1).length : Int) < 2), decide_eq_false (by simp; omega : ¬ ((x' :: y' :: w2).length : Int) < 2), cond_false, cond_false, show inB 0 (x :: y :: w1).length = true from inB_lt (i := 0) (by simp), show inB 0 (x' :: y' :: w2).length = true from inB_lt (i := 0) (by simp), cond_true, cond_true,
        show (x :: y :: w1).getD (0 : Int).toNat 0 = x from rfl, show (x' :: y' :: w2).getD (0 : Int).toNat 0 = x' from rfl, show (45 : Int) = (((45 : UInt8).toNat : Nat) : Int) from rfl, show (43 : Int) = (((43 : UInt8).toNat : Nat) : Int) from rfl, byte_eq, byte_eq] at base
      by_cases cx : ¬ x = 45
      · refine .inr ⟨hno fun o f h _ _ => cx (by simp only [List.cons.injEq] at h; exact h.2.1.1), GZ, 0, 0, ?_⟩
        rw [base, show (x == 45) = false from beq_eq_false_iff_ne.2 cx]; rfl
      replace cx := Classical.not_not.1 cx
      by_cases cx' : ¬ x' = 43
      · refine .inr ⟨hno fun o f h _ _ => cx' (by simp only [List.cons.injEq] at h; exact h.2.2.1.1), GZ, 0, 0, ?_⟩
        rw [base, show (x == 45) = true from beq_iff_eq.2 cx, show (x' == 43) = false from beq_eq_false_iff_ne.2 cx']; rfl
      replace cx' := Classical.not_not.1 cx'
      subst cx cx'
      have hfin : f_S_l7Head p = (f_S_ReadCount (y :: w1)).bind fun r6 => (f_S_ReadCount (y' :: w2)).bind fun r8 =>
                    bif r6.1.2.2.1 then
                      some (((r6.1.1, (r8.1.1, (([] : PV S_impl_Row), ()))), r6.1.2.1, r8.1.2.1, r8.1.2.2.1, ()), ())
                    else
                      some (((r6.1.1, (r8.1.1, (([] : PV S_impl_Row), ()))), r6.1.2.1, r8.1.2.1, false, ()), ()) := by
        rw [base, beq_self_eq_true, beq_self_eq_true, Bool.not_true, cond_false, Option.bind_some]
        dsimp only
        rw [cond_false, show inB 1 [[(64 : UInt8), 64], 45 :: y :: w1, 43 :: y' :: w2, [64, 64]].length = true from rfl, show inB 2 [[(64 : UInt8), 64], 45 :: y :: w1, 43 :: y' :: w2, [64, 64]].length = true from rfl, cond_true,
          show [[(64 : UInt8), 64], 45 :: y :: w1, 43 :: y' :: w2, [64, 64]].getD ((1 : Int).toNat) [] = 45 :: y :: w1 from rfl, show [[(64 : UInt8), 64], 45 :: y :: w1, 43 :: y' :: w2, [64, 64]].getD ((2 : Int).toNat) [] = 43 :: y' :: w2 from rfl,
          drop_ok, drop_one, drop_ok, drop_one, cond_true]
        rfl
      have hq1 : (y :: w1).length ≤ 100000 := by have := hwl.1; simp at this ⊢; omega
      have hq2 : (y' :: w2).length ≤ 100000 := by have := hwl.2; simp at this ⊢; omega
      rw [readCount_S _ hq1, readCount_S _ hq2, Option.bind_some, Option.bind_some] at hfin
      rcases cntR_cases (y :: w1) with ⟨a, m, k1, k2⟩ | ⟨k1, k2⟩
      · rcases cntR_cases (y' :: w2) with ⟨b, k, d1, d2⟩ | ⟨d1, d2⟩
        · refine .inl ⟨y :: w1, y' :: w2, a, m, b, k, ?_, k1, d1, ?_⟩
          · rw [e0, e1, e2, e3]; unfold hdQ; simp
          · rw [hfin, k2, d2]; rfl
        · refine .inr ⟨fun o f a' m' b' k' h h1 h2 => ?_, (a, (0, (([] : PV S_impl_Row), ()))), m, 0, ?_⟩
          · have := hdQ_split (count_no32 h1) (count_no32 h2)
            rw [← h, hw] at this
            simp only [List.cons.injEq] at this
            rw [← this.2.2.1.2, d1] at h2; cases h2
          · rw [hfin, k2, d2]; rfl
      · refine .inr ⟨fun o f a' m' b' k' h h1 h2 => ?_, (0, ((cntR (y' :: w2)).1, (([] : PV S_impl_Row), ()))), 0, (cntR (y' :: w2)).2.1, ?_⟩
        · have := hdQ_split (count_no32 h1) (count_no32 h2)
          rw [← h, hw] at this
          simp only [List.cons.injEq] at this
          rw [← this.2.1.2, k1] at h1; cases h1
        · rw [hfin, k2]; rfl
  · refine .inr ⟨hno fun o f h _ _ => h4 (by rw [h]; rfl), GZ, 0, 0, hrej h4⟩
end R
end

section
/- Rows, as both sides read them. -/
open Go Go.Dn
namespace R
set_option linter.unusedVariables false

abbrev noneL : List UInt8 := [92, 32, 110, 111, 110, 101, 10]
def kindQ (b : UInt8) : Int := if b = 32 then 1 else if b = 45 then 2 else if b = 43 then 3 else 0
def restQ (rest : TX) : TX := if rest.head? = some noneL then rest.drop 1 else rest
def lineQ (t : List UInt8) (rest : TX) : List UInt8 := if rest.head? = some noneL then plainB t else t
def mN (b : UInt8) : Int := if kindQ b = 3 then 0 else 1
def kN (b : UInt8) : Int := if kindQ b = 2 then 0 else 1
abbrev mkRow (k : Int) (s : List UInt8) : PV Y_impl_Row := (k, (s, ()))

def rowsQ : Nat → TX → Int → Int → Option (RW × TX)
  | 0, ls, m, k => if m = 0 ∧ k = 0 then some ([], ls) else none
  | f + 1, ls, m, k => if m = 0 ∧ k = 0 then some ([], ls) else if m < 0 ∨ k < 0 then none else match ls with
    | [] => none
    | [] :: _ => none
    | (c :: t) :: rest => if kindQ c = 0 then none else (rowsQ f (restQ rest) (m - mN c) (k - kN c)).map fun p => (mkRow (kindQ c) (lineQ t rest) :: p.1, p.2)

theorem rowsQ_zero (f : Nat) (ls : TX) : rowsQ f ls 0 0 = some ([], ls) := by
  cases f <;> simp [rowsQ]
theorem rowsQ_neg {f : Nat} {ls : TX} {m k : Int} (h : m < 0 ∨ k < 0) : rowsQ f ls m k = none := by
  have h0 : ¬ (m = 0 ∧ k = 0) := by omega
  cases f with
  | zero => unfold rowsQ; rw [if_neg h0]
  | succ f => unfold rowsQ; rw [if_neg h0, if_pos h]
theorem rowsQ_nil {f : Nat} {m k : Int} (h : ¬ (m = 0 ∧ k = 0)) : rowsQ f [] m k = none := by
  cases f with
  | zero => unfold rowsQ; rw [if_neg h]
  | succ f =>
    unfold rowsQ
    rw [if_neg h]
    split <;> rfl
theorem rowsQ_step {f : Nat} {c : UInt8} {t : List UInt8} {rest : TX} {m k : Int} (h : ¬ (m = 0 ∧ k = 0)) (h2 : ¬ (m < 0 ∨ k < 0)) :
    rowsQ (f + 1) ((c :: t) :: rest) m k = if kindQ c = 0 then none else (rowsQ f (restQ rest) (m - mN c) (k - kN c)).map fun p => (mkRow (kindQ c) (lineQ t rest) :: p.1, p.2) := by
  conv => lhs; unfold rowsQ
  rw [if_neg h, if_neg h2]

theorem kindQ_cases (c : UInt8) : (kindQ c = 0) ∨ (c = 32 ∧ kindQ c = 1) ∨ (c = 45 ∧ kindQ c = 2) ∨ (c = 43 ∧ kindQ c = 3) := by
  unfold kindQ
  by_cases h1 : c = 32
  · exact .inr (.inl ⟨h1, by rw [if_pos h1]⟩)
  by_cases h2 : c = 45
  · exact .inr (.inr (.inl ⟨h2, by rw [if_neg h1, if_pos h2]⟩))
  by_cases h3 : c = 43
  · exact .inr (.inr (.inr ⟨h3, by rw [if_neg h1, if_neg h2, if_pos h3]⟩))
  · exact .inl (by rw [if_neg h1, if_neg h2, if_neg h3])
theorem kind_sg {c : UInt8} (h : kindQ c ≠ 0) : (kindQ c = 1 ∨ kindQ c = 2 ∨ kindQ c = 3) ∧ signT (kindQ c) = [c] ∧ c ≠ 10 := by
  rcases kindQ_cases c with h0 | ⟨rfl, h1⟩ | ⟨rfl, h1⟩ | ⟨rfl, h1⟩
  · exact absurd h0 h
  · exact ⟨.inl h1, by rw [h1]; decide, by decide⟩
  · exact ⟨.inr (.inl h1), by rw [h1]; decide, by decide⟩
  · exact ⟨.inr (.inr h1), by rw [h1]; decide, by decide⟩
theorem mN_bd (c : UInt8) : 0 ≤ mN c ∧ mN c ≤ 1 ∧ 0 ≤ kN c ∧ kN c ≤ 1 := by
  unfold mN kN
  refine ⟨?_, ?_, ?_, ?_⟩ <;> split <;> omega

theorem restQ_len (rest : TX) : (restQ rest).length ≤ rest.length := by
  unfold restQ
  split
  · rw [List.length_drop]; omega
  · exact Nat.le_refl _
theorem restQ_mem {rest : TX} {l : List UInt8} (h : l ∈ restQ rest) : l ∈ rest := by
  unfold restQ at h
  split at h
  · exact List.mem_of_mem_drop h
  · exact h
theorem plainB_len (t : List UInt8) : (plainB t).length ≤ t.length := by
  unfold plainB
  cases endP t
  · exact Nat.le_refl _
  · rw [cond_true, List.length_take]; omega
theorem lineQ_len (t : List UInt8) (rest : TX) : (lineQ t rest).length ≤ t.length := by
  unfold lineQ
  split
  · exact plainB_len t
  · exact Nat.le_refl _

def RowW (r : PV Y_impl_Row) : Prop := (r.1 = 1 ∨ r.1 = 2 ∨ r.1 = 3) ∧ List.length r.2.1 ≤ 3000

theorem shown_W (sg s : List UInt8) (h0 : sg.length ≤ 10) (h2 : s.length ≤ 3000) : f_I_shown sg s = some ((shownT sg s, ()), ()) := by
  unfold f_I_shown shownT none10
  rw [ends_I s (by omega), Option.bind_some]
  dsimp only
  rw [decide_eq_true (by omega), cond_true, cond_true, decide_eq_true (by simp only [List.length_append, List.length_cons, List.length_nil]; omega), cond_true, decide_eq_true (by simp only [List.length_append, List.length_cons, List.length_nil]; omega), cond_true]
  cases endP s
  · rw [cond_false, cond_false, List.append_assoc (sg ++ s)]; rfl
  · rfl
theorem rowW_len {r : PV Y_impl_Row} (h : RowW r) : (rowT r).length ≤ 3009 := by
  have h1 := shownT_len (signT r.1) r.2.1
  have h2 := (sign_ok h.1).2
  have h3 := h.2
  unfold rowT
  omega
theorem rowsW_len {rows : RW} (hl : rows.length ≤ 3000) (hr : ∀ r ∈ rows, RowW r) : (rowsT rows).length ≤ 9027000 := by
  have := flat_len rowT 3009 rows fun r h => rowW_len (hr r h)
  unfold rowsT
  omega
theorem rowsText_W {rows : RW} (hl : rows.length ≤ 3000) (hr : ∀ r ∈ rows, RowW r) : f_I_rowsText rows = some ((rowsT rows, ()), ()) := by
  have hf := fix_fold (B := fun d => b_I_rowsText_3 d.1 d.2.1 d.2.2.1 d.2.2.2.1) rows (fun a r => a ++ rowT r) (fun a i => (a, rows, (rows.length : Int), (i : Int), ())) (fun a => (a, ())) (fun i a => a.length ≤ 3009 * i)
    (fun i hi a hI => by
      have hx := hr _ (List.getElem_mem hi)
      have ht := rowW_len hx
      refine ⟨by rw [List.length_append]; omega, ?_⟩
      show b_I_rowsText_3 a rows rows.length i = _
      unfold b_I_rowsText_3
      rw [decide_eq_true (by omega : (i : Int) < (rows.length : Int)), cond_true, inB_lt hi, cond_true, toNat_cast, getD_of hi, sign_I hx.1, Option.bind_some, shown_W _ _ (by show (signT rows[i].1).length ≤ _; have := (sign_ok hx.1).2; omega) (by have := hx.2; omega), Option.bind_some]
      dsimp only
      rw [show shownT (signT rows[i].1) rows[i].2.1 = rowT rows[i] from rfl, decide_eq_true (by omega), cond_true, wrap64 (by omega) (by omega)]
      rfl)
    (fun a _ => by
      show b_I_rowsText_3 a rows rows.length rows.length = _
      unfold b_I_rowsText_3
      rw [decide_eq_false (Int.lt_irrefl _), cond_false]) [] (Nat.zero_le _)
  unfold f_I_rowsText
  rw [show w_I_rowsText_3 ([], rows, (rows.length : Int), 0, ()) = _ from hf.1, Option.bind_some, foldl_app]
  rfl

theorem sign_index (c : UInt8) : ∃ v : Int, f_strings_IndexByte [63, 32, 45, 43] ((c.toNat : Nat) : Int) = some ((v, ()), ()) ∧ ((v < 1 ∧ kindQ c = 0) ∨ (1 ≤ v ∧ v = kindQ c ∧ kindQ c ≠ 0)) := by
  refine ⟨Lib.indexByte [63, 32, 45, 43] c, ?_, ?_⟩
  · unfold f_strings_IndexByte f_internal_stringslite_IndexByte indexByteF
    rw [toNat_cast, show c.toNat.toUInt8 = c from UInt8.ofNat_toNat, Option.bind_some]
  · rcases kindQ_cases c with h0 | ⟨rfl, h1⟩ | ⟨rfl, h1⟩ | ⟨rfl, h1⟩
    · refine .inl ⟨?_, h0⟩
      unfold kindQ at h0
      have n1 : c ≠ 32 := fun e => by rw [if_pos e] at h0; cases h0
      have n2 : c ≠ 45 := fun e => by rw [if_neg n1, if_pos e] at h0; cases h0
      have n3 : c ≠ 43 := fun e => by rw [if_neg n1, if_neg n2, if_pos e] at h0; cases h0
      by_cases n0 : c = 63
      · subst n0; decide
      · rw [indexByte_not c (by simp [n0, n1, n2, n3])]; decide
    · exact .inr (by decide)
    · exact .inr (by decide)
    · exact .inr (by decide)

theorem kind_ne3 (c : UInt8) : (if (kindQ c == 3) = true then (0 : Int) else 1) = mN c := by
  unfold mN
  by_cases h : kindQ c = 3
  · rw [if_pos h, if_pos (by rw [h]; rfl)]
  · rw [if_neg h, if_neg (by simpa using h)]
theorem kind_ne2 (c : UInt8) : (if (kindQ c == 2) = true then (0 : Int) else 1) = kN c := by
  unfold kN
  by_cases h : kindQ c = 2
  · rw [if_pos h, if_pos (by rw [h]; rfl)]
  · rw [if_neg h, if_neg (by simpa using h)]

theorem head_nn (rest : TX) : (bif decide ((rest.length : Int) > 0) then (bif inB 0 rest.length then some (rest.getD ((0 : Int).toNat) [] == noneL) else none) else some false : Option Bool) = some (rest.head? == some noneL) := by
  cases rest with
  | nil => rfl
  | cons n r =>
    rw [decide_eq_true (by simp : (((n :: r).length : Nat) : Int) > 0), cond_true, show inB 0 (n :: r).length = true from inB_lt (i := 0) (by simp), cond_true]
    rfl

theorem step_IR {c : UInt8} {t : List UInt8} {rest : TX} {t2 : PV Y_impl_Group} {o f : List UInt8} {a b : Int} {acc : RW} {m k : Int}
    (hmk : m > 0 ∨ k > 0) (ht : t.length ≤ 3000) (hr : rest.length ≤ 3000) (hacc : acc.length ≤ 6000) (hm : -100000 ≤ m ∧ m ≤ 100000) (hk : -100000 ≤ k ∧ k ≤ 100000) :
    b_I_takeGroup_10 ((c :: t) :: rest) t2 o f (a, (b, (acc, ()))) m k = if kindQ c = 0 then some (.inr (.inr (GZ, [], [], false, ()))) else
      some (.inl (restQ rest, t2, o, f, (a, (b, (acc ++ [mkRow (kindQ c) (lineQ t rest)], ()))), m - mN c, k - kN c, ())) := by
  obtain ⟨v, hv, hvc⟩ := sign_index c
  have hg : (bif (decide (m > 0)) then some (.inr ((((c :: t) :: rest : TX)), t2, o, f, (a, (b, (acc, ()))), m, k, ())) else bif (decide (k > 0)) then some (.inr (((c :: t) :: rest : TX), t2, o, f, (a, (b, (acc, ()))), m, k, ())) else some (.inl (((c :: t) :: rest : TX), t2, o, f, (a, (b, (acc, ()))), m, k, ())) : Option ((PV S_string × PV Y_impl_Group × PV .str × PV .str × PV Y_impl_Group × PV (.int .i64) × PV (.int .i64) × Unit) ⊕ (PV S_string × PV Y_impl_Group × PV .str × PV .str × PV Y_impl_Group × PV (.int .i64) × PV (.int .i64) × Unit))) = some (.inr (((c :: t) :: rest : TX), t2, o, f, (a, (b, (acc, ()))), m, k, ())) := by
    by_cases h : m > 0
    · rw [decide_eq_true h, cond_true]
    · rw [decide_eq_false h, cond_false, decide_eq_true (by omega : k > 0), cond_true]
  unfold b_I_takeGroup_10
  rw [hg, Option.bind_some]
  dsimp only
  rw [show ((((c :: t) :: rest : TX).length : Int) == 0) = false from beq_eq_false_iff_ne.2 (by simp; omega), cond_false, show inB 0 ((c :: t) :: rest : TX).length = true from inB_lt (i := 0) (by simp), cond_true,
    show ((c :: t) :: rest : TX).getD ((0 : Int).toNat) [] = c :: t from rfl, show inB 0 (c :: t).length = true from inB_lt (i := 0) (by simp), cond_true, show (c :: t).getD (0 : Int).toNat 0 = c from rfl, hv, Option.bind_some, cond_true, drop_ok, cond_true, drop_ok, cond_true, drop_one, drop_one]
  dsimp only
  rcases hvc with ⟨h1, h0⟩ | ⟨h1, e, h0⟩
  · rw [decide_eq_true h1, cond_true, if_pos h0]
  · subst e
    rw [decide_eq_false (by omega : ¬ kindQ c < 1), cond_false, if_neg h0]
    have hb : ∀ {X : Type} (F : Bool → Option X), ((bif decide ((rest.length : Int) > 0) then (bif inB 0 rest.length then F (rest.getD ((0 : Int).toNat) [] == noneL) else none) else F false) : Option X) = F (rest.head? == some noneL) := by
      intro X F
      have := head_nn rest
      cases h1 : decide ((rest.length : Int) > 0)
      · rw [h1] at this
        simp only [cond_false] at this ⊢
        rw [Option.some.inj this]
      · rw [h1] at this
        simp only [cond_true] at this ⊢
        cases h2 : inB 0 rest.length
        · rw [h2] at this; cases this
        · rw [h2] at this
          simp only [cond_true] at this ⊢
          rw [Option.some.inj this]
    have hF := hb (fun q => (some (rest, t2, o, f, (a, (b, (acc, ()))), m, k, (kindQ c, (t, ())), q, ()) : Option ((PV S_string × PV Y_impl_Group × PV .str × PV .str × PV Y_impl_Group × PV (.int .i64) × PV (.int .i64) × PV Y_impl_Row × PV .bool × Unit))))
    rw [hF, Option.bind_some]
    dsimp only
    have hw : (bif (rest.head? == some noneL) then
        (f_I_plain t).bind fun r18 =>
          bif cutB 1 (rest.length : Int) rest.length then
            some ((cutL 1 (rest.length : Int) rest), t2, o, f, (a, (b, (acc, ()))), m, k, (kindQ c, (r18.1.1, ())), ())
          else none
      else some (rest, t2, o, f, (a, (b, (acc, ()))), m, k, (kindQ c, (t, ())), ()) : Option ((PV S_string × PV Y_impl_Group × PV .str × PV .str × PV Y_impl_Group × PV (.int .i64) × PV (.int .i64) × PV Y_impl_Row × Unit))) = some (restQ rest, t2, o, f, (a, (b, (acc, ()))), m, k, mkRow (kindQ c) (lineQ t rest), ()) := by
      unfold restQ lineQ
      by_cases hh : rest.head? = some noneL
      · rw [show (rest.head? == some noneL) = true from beq_iff_eq.2 hh, cond_true, plain_I t (by omega), Option.bind_some, if_pos hh, if_pos hh]
        cases rest with
        | nil => cases hh
        | cons n r => rw [drop_ok, drop_one, cond_true]; rfl
      · rw [show (rest.head? == some noneL) = false from beq_eq_false_iff_ne.2 hh, cond_false, if_neg hh, if_neg hh]
    rw [hw, Option.bind_some]
    dsimp only
    have hroom : roomB (acc.length + [mkRow (kindQ c) (lineQ t rest)].length) = true := roomB_ok (by simp; omega)
    rw [← kind_ne3, ← kind_ne2]
    cases q3 : (kindQ c == 3) <;> cases q2 : (kindQ c == 2)
    · rw [Bool.not_false, cond_true, Option.bind_some]
      dsimp only
      rw [q2, Bool.not_false, cond_true, Option.bind_some]
      dsimp only
      rw [hroom, cond_true, wrap64 (by omega) (by omega), wrap64 (by omega) (by omega)]
      rfl
    · rw [Bool.not_false, cond_true, Option.bind_some]
      dsimp only
      rw [q2, Bool.not_true, cond_false, Option.bind_some]
      dsimp only
      rw [hroom, cond_true, wrap64 (by omega) (by omega)]
      simp
    · rw [Bool.not_true, cond_false, Option.bind_some]
      dsimp only
      rw [q2, Bool.not_false, cond_true, Option.bind_some]
      dsimp only
      rw [hroom, cond_true, wrap64 (by omega) (by omega)]
      simp
    · rw [beq_iff_eq] at q3 q2
      omega

theorem exit_IR {ls : TX} {t2 : PV Y_impl_Group} {o f : List UInt8} {g : PV Y_impl_Group} {m k : Int} (hm : ¬ m > 0) (hk : ¬ k > 0) :
    b_I_takeGroup_10 ls t2 o f g m k = some (.inr (.inl (ls, t2, o, f, g, m, k, ()))) := by
  unfold b_I_takeGroup_10
  rw [decide_eq_false hm, cond_false, decide_eq_false hk, cond_false, Option.bind_some]
theorem exit_W {ls : TX} {t2 : PV Y_impl_Group} {o f : List UInt8} {g : PV Y_impl_Group} {m k : Int} (hm : ¬ m > 0) (hk : ¬ k > 0) : w_I_takeGroup_10 (ls, t2, o, f, g, m, k, ()) = some (.inl (ls, t2, o, f, g, m, k, ())) := fix_end (exit_IR hm hk)
theorem none_IR {t2 : PV Y_impl_Group} {o f : List UInt8} {g : PV Y_impl_Group} {m k : Int} (hmk : m > 0 ∨ k > 0) :
    b_I_takeGroup_10 [] t2 o f g m k = some (.inr (.inr (GZ, [], [], false, ()))) := by
  unfold b_I_takeGroup_10
  by_cases h : m > 0
  · rw [decide_eq_true h, cond_true, Option.bind_some]; rfl
  · rw [decide_eq_false h, cond_false, decide_eq_true (by omega : k > 0), cond_true, Option.bind_some]; rfl

def Rw (acc : RW) (n : Nat) : Prop := (∀ r ∈ acc, RowW r) ∧ acc.length ≤ n

theorem rows_I' : ∀ (fu : Nat) (ls : TX) (t2 : PV Y_impl_Group) (o f : List UInt8) (a b : Int) (acc : RW) (m k : Int), ls.length ≤ fu → (∀ l ∈ ls, l ≠ [] ∧ l.length ≤ 3000) → Rw acc (3000 - ls.length) → ls.length ≤ 3000 → (-50000 + (ls.length : Int) ≤ m ∧ m ≤ 100000) → (-50000 + (ls.length : Int) ≤ k ∧ k ≤ 100000) →
    (∀ rs r, rowsQ fu ls m k = some (rs, r) → Rw (acc ++ rs) 3000 ∧ (∃ u, ls = u ++ r) ∧ w_I_takeGroup_10 (ls, t2, o, f, (a, (b, (acc, ()))), m, k, ()) = some (.inl (r, t2, o, f, (a, (b, (acc ++ rs, ()))), 0, 0, ()))) ∧
    (rowsQ fu ls m k = none → w_I_takeGroup_10 (ls, t2, o, f, (a, (b, (acc, ()))), m, k, ()) = some (.inr (GZ, [], [], false, ())) ∨ ∃ (r : TX) (acc' : RW) (m' k' : Int), Rw acc' 3000 ∧ (m' ≠ 0 ∨ k' ≠ 0) ∧ w_I_takeGroup_10 (ls, t2, o, f, (a, (b, (acc, ()))), m, k, ()) = some (.inl (r, t2, o, f, (a, (b, (acc', ()))), m', k', ()))) := by
  intro fu
  induction fu with
  | zero =>
    intro ls t2 o f a b acc m k hl hn hacc h3 hm hk
    obtain rfl := List.eq_nil_of_length_eq_zero (Nat.le_zero.1 hl)
    by_cases h0 : m = 0 ∧ k = 0
    · obtain ⟨rfl, rfl⟩ := h0
      rw [rowsQ_zero]
      refine ⟨fun rs r h => ?_, fun h => by cases h⟩
      obtain ⟨rfl, rfl⟩ := Prod.mk.inj (Option.some.inj h)
      rw [List.append_nil]
      exact ⟨⟨hacc.1, by have := hacc.2; simp at this; omega⟩, ⟨[], rfl⟩, exit_W (by omega) (by omega)⟩
    · rw [rowsQ_nil h0]
      refine ⟨fun rs r h => (by cases h), fun _ => ?_⟩
      by_cases hp : m > 0 ∨ k > 0
      · exact .inl (fix_end (none_IR hp))
      · exact .inr ⟨[], acc, m, k, ⟨hacc.1, by have := hacc.2; simp at this; omega⟩, by omega, exit_W (by omega) (by omega)⟩
  | succ fu ih =>
    intro ls t2 o f a b acc m k hl hn hacc h3 hm hk
    have hacc3 : Rw acc 3000 := ⟨hacc.1, by have := hacc.2; omega⟩
    by_cases h0 : m = 0 ∧ k = 0
    · obtain ⟨rfl, rfl⟩ := h0
      rw [rowsQ_zero]
      refine ⟨fun rs r h => ?_, fun h => by cases h⟩
      obtain ⟨rfl, rfl⟩ := Prod.mk.inj (Option.some.inj h)
      rw [List.append_nil]
      exact ⟨hacc3, ⟨[], rfl⟩, exit_W (by omega) (by omega)⟩
    · by_cases hp : m > 0 ∨ k > 0
      · match ls, hl, hn, hacc, h3, hm, hk with
        | [], _, _, _, _, _, _ =>
          rw [rowsQ_nil h0]
          exact ⟨fun rs r h => (by cases h), fun _ => .inl (fix_end (none_IR hp))⟩
        | [] :: _, _, hn, _, _, _, _ => exact absurd rfl (hn [] (List.mem_cons_self ..)).1
        | (c :: t) :: rest, hl, hn, hacc, h3, hm, hk =>
          have ht : t.length ≤ 3000 := by have := (hn _ (List.mem_cons_self ..)).2; simp at this; omega
          have hlen : (((c :: t) :: rest : TX)).length = rest.length + 1 := rfl
          rw [hlen] at hl h3 hm hk hacc
          have ha := hacc.2
          have hst := step_IR (c := c) (t := t) (rest := rest) (t2 := t2) (o := o) (f := f) (a := a) (b := b) (acc := acc) (m := m) (k := k) hp ht (by omega) (by omega) (by omega) (by omega)
          by_cases hkd : kindQ c = 0
          · rw [if_pos hkd] at hst
            have hq : rowsQ (fu + 1) ((c :: t) :: rest) m k = none := by
              by_cases hneg : m < 0 ∨ k < 0
              · exact rowsQ_neg hneg
              · rw [rowsQ_step h0 hneg, if_pos hkd]
            rw [hq]
            exact ⟨fun rs r h => (by cases h), fun _ => .inl (fix_end hst)⟩
          · rw [if_neg hkd] at hst
            have hbd := mN_bd c
            have hrl := restQ_len rest
            have hline := lineQ_len t rest
            have hrw : RowW (mkRow (kindQ c) (lineQ t rest)) := ⟨(kind_sg hkd).1, by show (lineQ t rest).length ≤ 3000; omega⟩
            have hacc2 : Rw (acc ++ [mkRow (kindQ c) (lineQ t rest)]) (3000 - (restQ rest).length) := by
              refine ⟨fun x hx => ?_, by rw [List.length_append]; simp; omega⟩
              rcases List.mem_append.1 hx with hx | hx
              · exact hacc.1 x hx
              · obtain rfl := List.mem_singleton.1 hx
                exact hrw
            obtain ⟨i1, i2⟩ := ih (restQ rest) t2 o f a b (acc ++ [mkRow (kindQ c) (lineQ t rest)]) (m - mN c) (k - kN c) (by omega) (fun l hl => hn l (List.mem_cons_of_mem _ (restQ_mem hl))) hacc2 (by omega) (by omega) (by omega)
            have hgo : w_I_takeGroup_10 ((c :: t) :: rest, t2, o, f, (a, (b, (acc, ()))), m, k, ()) = w_I_takeGroup_10 (restQ rest, t2, o, f, (a, (b, (acc ++ [mkRow (kindQ c) (lineQ t rest)], ()))), m - mN c, k - kN c, ()) := fix_go hst
            rw [hgo]
            by_cases hneg : m < 0 ∨ k < 0
            · rw [rowsQ_neg hneg]
              exact ⟨fun rs r h => (by cases h), fun _ => i2 (rowsQ_neg (by omega))⟩
            · rw [rowsQ_step h0 hneg, if_neg hkd]
              cases hq : rowsQ fu (restQ rest) (m - mN c) (k - kN c) with
              | none => exact ⟨fun rs r h => (by cases h), fun _ => i2 hq⟩
              | some p =>
                obtain ⟨rs, r⟩ := p
                refine ⟨fun rs' r' h => ?_, fun h => by cases h⟩
                obtain ⟨rfl, rfl⟩ := Prod.mk.inj (Option.some.inj h)
                obtain ⟨j1, ⟨u, hu⟩, j2⟩ := i1 rs r hq
                rw [List.append_assoc] at j1 j2
                refine ⟨j1, ?_, j2⟩
                unfold restQ at hu
                split at hu
                · refine ⟨(c :: t) :: (rest.take 1 ++ u), ?_⟩
                  rw [List.cons_append, List.append_assoc, ← hu, List.take_append_drop]
                · exact ⟨(c :: t) :: u, by rw [List.cons_append, ← hu]⟩
      · have hneg : m < 0 ∨ k < 0 := by omega
        rw [rowsQ_neg hneg]
        exact ⟨fun rs r h => (by cases h), fun _ => .inr ⟨ls, acc, m, k, hacc3, by omega, exit_W (by omega) (by omega)⟩⟩
end R
end

section
/- Rows, as the reference reads them; the text that rows were read from. -/
open Go Go.Dn
namespace R
set_option linter.unusedVariables false

/-- Lines as a text is cut: all but the last with their end. -/
def LN : TX → Prop
  | [] => True
  | l :: r => l ≠ [] ∧ (isL l ∨ ((10 : UInt8) ∉ l ∧ r = [])) ∧ LN r

theorem LN_cut : ∀ (n : Nat) (s : List UInt8), s.length ≤ n → LN (cutP s)
  | 0, s, h => by rw [List.eq_nil_of_length_eq_zero (Nat.le_zero.1 h)]; trivial
  | n + 1, s, h => by
    by_cases hs : s = []
    · subst hs; trivial
    by_cases hm : (10 : UInt8) ∈ s
    · obtain ⟨t, r, rfl, ht⟩ := first_of hm
      rw [cutP_line r ht]
      exact ⟨by simp, .inl ⟨t, rfl, ht⟩, LN_cut n r (by simp at h; omega)⟩
    · rw [cutP_rest hm hs]
      exact ⟨hs, .inr ⟨hm, rfl⟩, trivial⟩
theorem LN_drop : ∀ {ls : TX} (n : Nat), LN ls → LN (ls.drop n)
  | [], n, _ => by simp [LN]
  | l :: r, 0, h => h
  | l :: r, n + 1, h => LN_drop (ls := r) n h.2.2
theorem LN_tail {u r : TX} (h : LN (u ++ r)) : LN r := by
  have := LN_drop u.length h
  rwa [List.drop_left] at this
theorem LN_restQ {rest : TX} (h : LN rest) : LN (restQ rest) := by
  unfold restQ
  split
  · exact LN_drop 1 h
  · exact h

theorem isL_end {c : UInt8} {t : List UInt8} (h : isL (c :: t)) (hc : c ≠ 10) : ∃ u, t = u ++ [10] ∧ (10 : UInt8) ∉ u ∧ endP t = true ∧ plainB t = u ∧ t ≠ [] := by
  obtain ⟨w, e, hw⟩ := h
  cases w with
  | nil => simp at e; exact absurd e.1 hc
  | cons d w =>
    rw [List.cons_append] at e
    obtain ⟨rfl, rfl⟩ := List.cons.inj e
    have he : endP (w ++ [10]) = true := by
      unfold endP
      rw [List.length_append, List.length_singleton, Nat.add_sub_cancel, List.drop_left]; rfl
    refine ⟨w, rfl, fun h => hw (List.mem_cons_of_mem _ h), he, ?_, by simp⟩
    unfold plainB
    rw [he, cond_true, List.length_append, List.length_singleton, Nat.add_sub_cancel, List.take_left' rfl]

theorem endP_no {u : List UInt8} (h : (10 : UInt8) ∉ u) : endP u = false := by
  cases he : endP u with
  | false => rfl
  | true =>
    unfold endP at he
    exact absurd (List.mem_of_mem_drop (by rw [beq_iff_eq.1 he]; simp)) h

/-- The text that rows were read from. -/
theorem rowsQ_text : ∀ (fu : Nat) {ls : TX} {m k : Int} {rs : RW} {r : TX}, (∀ l ∈ ls, isL l) → rowsQ fu ls m k = some (rs, r) → ls.flatten = rowsT rs ++ r.flatten ∧ ∃ u, ls = u ++ r
  | 0, ls, m, k, rs, r, hl, h => by
    unfold rowsQ at h
    split at h
    · obtain ⟨rfl, rfl⟩ := Prod.mk.inj (Option.some.inj h); exact ⟨rfl, [], rfl⟩
    · cases h
  | fu + 1, ls, m, k, rs, r, hl, h => by
    by_cases h0 : m = 0 ∧ k = 0
    · obtain ⟨rfl, rfl⟩ := h0
      rw [rowsQ_zero] at h
      obtain ⟨rfl, rfl⟩ := Prod.mk.inj (Option.some.inj h); exact ⟨rfl, [], rfl⟩
    · by_cases hneg : m < 0 ∨ k < 0
      · rw [rowsQ_neg hneg] at h; cases h
      · match ls, hl, h with
        | [], _, h => rw [rowsQ_nil h0] at h; cases h
        | [] :: _, hl, _ => obtain ⟨w, e, _⟩ := hl [] (List.mem_cons_self ..); simp at e
        | (c :: t) :: rest, hl, h =>
          rw [rowsQ_step h0 hneg] at h
          by_cases hk : kindQ c = 0
          · rw [if_pos hk] at h; cases h
          · rw [if_neg hk] at h
            obtain ⟨p, hp, e⟩ := Option.map_eq_some_iff.1 h
            obtain ⟨rs', r'⟩ := p
            obtain ⟨rfl, rfl⟩ := Prod.mk.inj e
            obtain ⟨i1, u, i2⟩ := rowsQ_text fu (fun l h => hl l (List.mem_cons_of_mem _ (restQ_mem h))) hp
            obtain ⟨w, ht, hw, he, hpl, hne⟩ := isL_end (hl _ (List.mem_cons_self ..)) (kind_sg hk).2.2
            have hrow : rowT (mkRow (kindQ c) (lineQ t rest)) = shownT [c] (lineQ t rest) := by
              unfold rowT
              rw [(kind_sg hk).2.1]
            have hcons : rowsT (mkRow (kindQ c) (lineQ t rest) :: rs') = rowT (mkRow (kindQ c) (lineQ t rest)) ++ rowsT rs' := by unfold rowsT; rw [List.flatMap_cons]
            rw [hcons, hrow]
            unfold lineQ
            by_cases hh : rest.head? = some noneL
            · rw [if_pos hh, hpl]
              unfold shownT
              rw [endP_no hw, cond_false]
              cases rest with
              | nil => cases hh
              | cons n q =>
                obtain rfl := Option.some.inj hh
                have : restQ (noneL :: q) = q := by unfold restQ; rw [if_pos hh]; rfl
                rw [this] at i1 i2
                refine ⟨?_, (c :: t) :: noneL :: u, by rw [List.cons_append, List.cons_append, ← i2]⟩
                rw [List.flatten_cons, List.flatten_cons, i1, ht]
                unfold none10
                simp
            · rw [if_neg hh]
              unfold shownT
              rw [he, cond_true]
              have : restQ rest = rest := by unfold restQ; rw [if_neg hh]
              rw [this] at i1 i2
              refine ⟨?_, (c :: t) :: u, by rw [List.cons_append, ← i2]⟩
              rw [List.flatten_cons, i1]
              simp

theorem side_cons (x : PV Y_impl_Row) (rs : RW) (c : Int) : ((sideL (x :: rs) c).length : Int) = (if (x.1 == c) = true then 0 else 1) + ((sideL rs c).length : Int) := by
  unfold sideL
  rw [List.filter_cons]
  cases h : (x.1 == c)
  · rw [Bool.not_false, if_pos rfl, List.map_cons, List.length_cons, if_neg (by simp)]; omega
  · rw [Bool.not_true, if_neg (by simp), if_pos rfl]; omega

theorem rowsQ_side : ∀ (fu : Nat) {ls : TX} {m k : Int} {rs : RW} {r : TX}, rowsQ fu ls m k = some (rs, r) → ((sideL rs 3).length : Int) = m ∧ ((sideL rs 2).length : Int) = k
  | 0, ls, m, k, rs, r, h => by
    unfold rowsQ at h
    split at h
    · rename_i h0
      obtain ⟨rfl, rfl⟩ := Prod.mk.inj (Option.some.inj h)
      obtain ⟨rfl, rfl⟩ := h0
      exact ⟨rfl, rfl⟩
    · cases h
  | fu + 1, ls, m, k, rs, r, h => by
    by_cases h0 : m = 0 ∧ k = 0
    · obtain ⟨rfl, rfl⟩ := h0
      rw [rowsQ_zero] at h
      obtain ⟨rfl, rfl⟩ := Prod.mk.inj (Option.some.inj h); exact ⟨rfl, rfl⟩
    · by_cases hneg : m < 0 ∨ k < 0
      · rw [rowsQ_neg hneg] at h; cases h
      · match ls, h with
        | [], h => rw [rowsQ_nil h0] at h; cases h
        | [] :: _, h => unfold rowsQ at h; rw [if_neg h0, if_neg hneg] at h; cases h
        | (c :: t) :: rest, h =>
          rw [rowsQ_step h0 hneg] at h
          by_cases hk : kindQ c = 0
          · rw [if_pos hk] at h; cases h
          · rw [if_neg hk] at h
            obtain ⟨p, hp, e⟩ := Option.map_eq_some_iff.1 h
            obtain ⟨rs', r'⟩ := p
            obtain ⟨rfl, rfl⟩ := Prod.mk.inj e
            obtain ⟨i1, i2⟩ := rowsQ_side fu hp
            rw [side_cons, side_cons, i1, i2]
            rw [show (mkRow (kindQ c) (lineQ t rest)).1 = kindQ c from rfl, kind_ne3, kind_ne2]
            omega

theorem kind_S (c : UInt8) : f_S_l7Kind ((c.toNat : Nat) : Int) = some ((kindQ c, ()), ()) := by
  unfold f_S_l7Kind kindQ
  rw [show (32 : Int) = (((32 : UInt8).toNat : Nat) : Int) from rfl, show (45 : Int) = (((45 : UInt8).toNat : Nat) : Int) from rfl, show (43 : Int) = (((43 : UInt8).toNat : Nat) : Int) from rfl, byte_eq, byte_eq, byte_eq]
  by_cases h1 : c = 32
  · rw [if_pos h1, beq_iff_eq.2 h1]; rfl
  · rw [if_neg h1, beq_eq_false_iff_ne.2 h1, cond_false]
    by_cases h2 : c = 45
    · rw [if_pos h2, beq_iff_eq.2 h2]; rfl
    · rw [if_neg h2, beq_eq_false_iff_ne.2 h2, cond_false]
      by_cases h3 : c = 43
      · rw [if_pos h3, beq_iff_eq.2 h3]; rfl
      · rw [if_neg h3, beq_eq_false_iff_ne.2 h3, cond_false]

def stepN (rest : TX) : Nat := if rest.head? = some noneL then 2 else 1

theorem step_SR {L pre : TX} {c : UInt8} {t : List UInt8} {rest : TX} {acc : RW} {m k : Int} (hL : L = pre ++ (c :: t) :: rest) (hln : rest ≠ [] → isL (c :: t))
    (hTL : t.length ≤ 9223372036854775807) (hmk : m + k > 0) (hlen : L.length ≤ 3000) (hacc : acc.length ≤ 6000) (hm : -100000 ≤ m ∧ m ≤ 100000) (hk : -100000 ≤ k ∧ k ≤ 100000) :
    b_S_l7Rows_3 L m k acc ((pre.length : Nat) : Int) = if kindQ c = 0 then some (.inr (acc, ((pre.length : Nat) : Int), ())) else
      some (.inl (L, m - mN c, k - kN c, acc ++ [mkRow (kindQ c) (lineQ t rest)], ((pre.length + stepN rest : Nat) : Int), ())) := by
  have hll : L.length = pre.length + rest.length + 1 := by rw [hL]; simp; omega
  have hg : L.getD pre.length [] = c :: t := by rw [hL]; simp
  unfold b_S_l7Rows_3
  rw [decide_eq_true (by omega : ((pre.length : Nat) : Int) < (L.length : Int)), cond_true, wrap64 (by omega) (by omega), decide_eq_true (by omega : m + k > 0), cond_true, inB_lt (by omega : pre.length < L.length), cond_true, toNat_cast, hg,
    show inB 0 (c :: t).length = true from inB_lt (i := 0) (by simp), cond_true, show (c :: t).getD (0 : Int).toNat 0 = c from rfl, kind_S, Option.bind_some]
  dsimp only
  by_cases h0 : kindQ c = 0
  · rw [if_pos h0, h0]; rfl
  · rw [if_neg h0, show (kindQ c == 0) = false from beq_eq_false_iff_ne.2 h0, cond_false, cond_true, drop_ok, cond_true, drop_one, wrap64 (x := ((pre.length : Nat) : Int) + 1) (by omega) (by omega)]
    have hq : ∀ {X : Type} (F : Bool → Option X), (bif decide (((pre.length : Nat) : Int) + 1 < (L.length : Int)) then bif inB (((pre.length : Nat) : Int) + 1) L.length then
          bif (L.getD (((pre.length : Nat) : Int) + 1).toNat [] == noneL) then F true else F false else none else F false : Option X) = F (rest.head? == some noneL) := by
      intro X F
      cases rest with
      | nil =>
        rw [decide_eq_false (by simp at hll; omega : ¬ ((pre.length : Nat) : Int) + 1 < (L.length : Int))]
        rfl
      | cons n r =>
        have hn : L.getD (pre.length + 1) [] = n := by
          rw [hL, List.getD_eq_getElem?_getD, List.getElem?_append_right (by omega)]
          simp
        rw [decide_eq_true (by simp at hll; omega : ((pre.length : Nat) : Int) + 1 < (L.length : Int)), cond_true, show (((pre.length : Nat) : Int) + 1) = ((pre.length + 1 : Nat) : Int) from rfl, inB_lt (by simp at hll; omega : pre.length + 1 < L.length), cond_true, toNat_cast, hn]
        rw [show ((n :: r).head? == some noneL) = (n == noneL) from rfl]
        cases (n == noneL) <;> rfl
    have hne : rest.head? = some noneL → t ≠ [] ∧ endP t = true := by
      intro h
      obtain ⟨_, _, _, q1, _, q2⟩ := isL_end (hln (fun e => by rw [e] at h; cases h)) (kind_sg h0).2.2
      exact ⟨q2, q1⟩
    have hF := hq (fun q => (some (L, m, k, acc, ((pre.length : Nat) : Int) + 1, kindQ c, t, m, k, m + k, true, (bif q then !(t == []) else false), ()) : Option ((PV S_string × PV (.int .i64) × PV (.int .i64) × PV S_impl_Row × PV (.int .i64) × PV (.int .i64) × PV .str × PV (.int .i64) × PV (.int .i64) × PV (.int .i64) × PV .bool × PV .bool × Unit))))
    simp only [cond_true, cond_false] at hF
    rw [hF, Option.bind_some]
    dsimp only
    have hw : ∀ z : Bool, z = (rest.head? == some noneL) → ((bif (bif z then !(t == []) else false) then
        bif cutB 0 (IntKind.wrap .i64 ((t.length : Int) - 1)) t.length then
          some (L, m, k, acc, (IntKind.wrap .i64 (((pre.length : Nat) : Int) + 1 + 1)), kindQ c, (cutL 0 (IntKind.wrap .i64 ((t.length : Int) - 1)) t), m, k, m + k, true, ())
        else none
      else some (L, m, k, acc, ((pre.length : Nat) : Int) + 1, kindQ c, t, m, k, m + k, true, ()) : Option ((PV S_string × PV (.int .i64) × PV (.int .i64) × PV S_impl_Row × PV (.int .i64) × PV (.int .i64) × PV .str × PV (.int .i64) × PV (.int .i64) × PV (.int .i64) × PV .bool × Unit)))) =
        some (L, m, k, acc, ((pre.length + stepN rest : Nat) : Int), kindQ c, lineQ t rest, m, k, m + k, true, ()) := by
      rintro z rfl
      unfold stepN lineQ
      by_cases hh : rest.head? = some noneL
      · obtain ⟨q1, q2⟩ := hne hh
        have ht1 : 1 ≤ t.length := List.length_pos_iff.2 q1
        rw [show (rest.head? == some noneL) = true from beq_iff_eq.2 hh, cond_true, show (t == []) = false from beq_eq_false_iff_ne.2 q1, Bool.not_false, cond_true, if_pos hh, if_pos hh]
        by_cases htl : t.length ≤ 9223372036854775807
        · rw [wrap64 (x := (t.length : Int) - 1) (by omega) (by omega), show (t.length : Int) - 1 = ((t.length - 1 : Nat) : Int) by omega, show cutB 0 ((t.length - 1 : Nat) : Int) t.length = true from by unfold cutB; simp, cond_true, wrap64 (by omega) (by omega)]
          unfold plainB
          rw [q2, cond_true]
          have : cutL 0 ((t.length - 1 : Nat) : Int) t = t.take (t.length - 1) := by
            show (t.take ((t.length - 1 : Nat) : Int).toNat).drop 0 = _
            rw [toNat_cast, List.drop_zero]
          rw [this]
          rfl
        · exact absurd hTL htl
      · rw [show (rest.head? == some noneL) = false from beq_eq_false_iff_ne.2 hh, cond_false, cond_false, if_neg hh, if_neg hh]
        rfl
    rw [hw _ rfl, Option.bind_some]
    dsimp only
    have hroom : roomB (acc.length + [mkRow (kindQ c) (lineQ t rest)].length) = true := roomB_ok (by simp; omega)
    rw [← kind_ne3, ← kind_ne2]
    cases q3 : (kindQ c == 3) <;> cases q2 : (kindQ c == 2)
    · rw [Bool.not_false, cond_true, Option.bind_some]
      dsimp only
      rw [q2, Bool.not_false, cond_true, Option.bind_some]
      dsimp only
      rw [hroom, cond_true, wrap64 (by omega) (by omega), wrap64 (by omega) (by omega)]
      rfl
    · rw [Bool.not_false, cond_true, Option.bind_some]
      dsimp only
      rw [q2, Bool.not_true, cond_false, Option.bind_some]
      dsimp only
      rw [hroom, cond_true, wrap64 (by omega) (by omega)]
      simp
    · rw [Bool.not_true, cond_false, Option.bind_some]
      dsimp only
      rw [q2, Bool.not_false, cond_true, Option.bind_some]
      dsimp only
      rw [hroom, cond_true, wrap64 (by omega) (by omega)]
      simp
    · rw [beq_iff_eq] at q3 q2
      omega

theorem exit_SR {L : TX} {m k : Int} {acc : RW} {n : Nat} (hm : -100000 ≤ m ∧ m ≤ 100000) (hk : -100000 ≤ k ∧ k ≤ 100000) (h : n = L.length ∨ m + k ≤ 0) : w_S_l7Rows_3 (L, m, k, acc, (n : Int), ()) = some (acc, (n : Int), ()) := by
  refine fix_end ?_
  show b_S_l7Rows_3 L m k acc (n : Int) = _
  unfold b_S_l7Rows_3
  by_cases h1 : n < L.length
  · rw [decide_eq_true (by omega : (n : Int) < (L.length : Int)), cond_true, wrap64 (by omega) (by omega), decide_eq_false (by omega : ¬ m + k > 0), cond_false]
  · rw [decide_eq_false (by omega : ¬ (n : Int) < (L.length : Int)), cond_false]
end R
end

section
/- Groups: the rows as the reference reads them, and what lines tell. -/
open Go Go.Dn
namespace R
set_option linter.unusedVariables false

theorem stepN_pre (rest : TX) : ∃ u, rest = u ++ restQ rest ∧ u.length + 1 = stepN rest := by
  unfold restQ stepN
  by_cases h : rest.head? = some noneL
  · rw [if_pos h, if_pos h]
    cases rest with
    | nil => cases h
    | cons n r => exact ⟨[n], rfl, rfl⟩
  · rw [if_neg h, if_neg h]
    exact ⟨[], rfl, rfl⟩

theorem rows_S' : ∀ (fu : Nat) (L pre ls : TX) (acc : RW) (m k : Int), L = pre ++ ls → ls.length ≤ fu → L.length ≤ 3000 → LN ls → (∀ l ∈ ls, l.length ≤ 3000) → Rw acc pre.length → (-50000 + (ls.length : Int) ≤ m ∧ m ≤ 40000) → (-50000 + (ls.length : Int) ≤ k ∧ k ≤ 40000) →
    ∃ (rs : RW) (u r : TX), ls = u ++ r ∧ Rw (acc ++ rs) 3000 ∧ w_S_l7Rows_3 (L, m, k, acc, ((pre.length : Nat) : Int), ()) = some (acc ++ rs, ((pre.length + u.length : Nat) : Int), ()) ∧
      ((rowsQ fu ls m k = some (rs, r)) ∨ (rowsQ fu ls m k = none ∧ ¬ (((sideL rs 3).length : Int) = m ∧ ((sideL rs 2).length : Int) = k))) := by
  intro fu
  induction fu with
  | zero =>
    intro L pre ls acc m k e hl hL hn h3 hacc hm hk
    obtain rfl := List.eq_nil_of_length_eq_zero (Nat.le_zero.1 hl)
    have hpl : pre.length = L.length := by rw [e]; simp
    refine ⟨[], [], [], rfl, ⟨by rw [List.append_nil]; exact hacc.1, by rw [List.append_nil]; have := hacc.2; omega⟩, by rw [List.append_nil]; exact exit_SR (by omega) (by omega) (.inl hpl), ?_⟩
    by_cases h0 : m = 0 ∧ k = 0
    · obtain ⟨rfl, rfl⟩ := h0
      exact .inl (rowsQ_zero _ _)
    · exact .inr ⟨rowsQ_nil h0, fun h => h0 ⟨h.1.symm, h.2.symm⟩⟩
  | succ fu ih =>
    intro L pre ls acc m k e hl hL hn h3 hacc hm hk
    have hll : L.length = pre.length + ls.length := by rw [e]; simp
    have hacc3 : Rw acc 3000 := ⟨hacc.1, by have := hacc.2; omega⟩
    have stop : (pre.length = L.length ∨ m + k ≤ 0) → (¬ (m = 0 ∧ k = 0) → rowsQ (fu + 1) ls m k = none) → ∃ (rs : RW) (u r : TX), ls = u ++ r ∧ Rw (acc ++ rs) 3000 ∧ w_S_l7Rows_3 (L, m, k, acc, ((pre.length : Nat) : Int), ()) = some (acc ++ rs, ((pre.length + u.length : Nat) : Int), ()) ∧
      ((rowsQ (fu + 1) ls m k = some (rs, r)) ∨ (rowsQ (fu + 1) ls m k = none ∧ ¬ (((sideL rs 3).length : Int) = m ∧ ((sideL rs 2).length : Int) = k))) := by
      intro hs hq
      refine ⟨[], [], ls, rfl, by rw [List.append_nil]; exact hacc3, by rw [List.append_nil]; exact exit_SR (by omega) (by omega) hs, ?_⟩
      by_cases h0 : m = 0 ∧ k = 0
      · obtain ⟨rfl, rfl⟩ := h0
        exact .inl (rowsQ_zero _ _)
      · exact .inr ⟨hq h0, fun h => h0 ⟨h.1.symm, h.2.symm⟩⟩
    by_cases hp : m + k > 0
    · have h0 : ¬ (m = 0 ∧ k = 0) := by omega
      match ls, e, hl, hn, h3, hm, hk, hll, stop with
      | [], _, _, _, _, _, _, hll, stop => exact stop (.inl (by simpa using hll.symm)) fun h => rowsQ_nil h
      | [] :: _, _, _, hn, _, _, _, _, _ => exact absurd rfl hn.1
      | (c :: t) :: rest, e, hl, hn, h3, hm, hk, hll, stop =>
        have ht : t.length ≤ 3000 := by have := h3 _ (List.mem_cons_self ..); simp at this; omega
        have hlen : (((c :: t) :: rest : TX)).length = rest.length + 1 := rfl
        rw [hlen] at hl hm hk hll
        have ha := hacc.2
        have hst := step_SR (c := c) (t := t) (rest := rest) (acc := acc) (m := m) (k := k) e (fun hr => hn.2.1.resolve_right fun q => hr q.2) (by omega) hp hL (by omega) (by omega) (by omega)
        by_cases hkd : kindQ c = 0
        · rw [if_pos hkd] at hst
          have hq : rowsQ (fu + 1) ((c :: t) :: rest) m k = none := by
            by_cases hneg : m < 0 ∨ k < 0
            · exact rowsQ_neg hneg
            · rw [rowsQ_step h0 hneg, if_pos hkd]
          refine ⟨[], [], (c :: t) :: rest, rfl, by rw [List.append_nil]; exact hacc3, by rw [List.append_nil]; exact fix_end hst, .inr ⟨hq, fun h => h0 ⟨h.1.symm, h.2.symm⟩⟩⟩
        · rw [if_neg hkd] at hst
          have hbd := mN_bd c
          have hrl := restQ_len rest
          have hline := lineQ_len t rest
          obtain ⟨v, hv, hvl⟩ := stepN_pre rest
          have hrw : RowW (mkRow (kindQ c) (lineQ t rest)) := ⟨(kind_sg hkd).1, by show (lineQ t rest).length ≤ 3000; omega⟩
          have hpre : (pre ++ ((c :: t) :: v)).length = pre.length + stepN rest := by rw [List.length_append, List.length_cons]; omega
          have hacc2 : Rw (acc ++ [mkRow (kindQ c) (lineQ t rest)]) (pre ++ ((c :: t) :: v)).length := by
            refine ⟨fun x hx => ?_, by rw [hpre, List.length_append]; simp; omega⟩
            rcases List.mem_append.1 hx with hx | hx
            · exact hacc.1 x hx
            · obtain rfl := List.mem_singleton.1 hx
              exact hrw
          obtain ⟨rs, u, r, j1, j2, j3, j4⟩ := ih L (pre ++ ((c :: t) :: v)) (restQ rest) (acc ++ [mkRow (kindQ c) (lineQ t rest)]) (m - mN c) (k - kN c) (by
            rw [e, List.append_assoc, List.cons_append, ← hv]) (by omega) hL (LN_restQ hn.2.2) (fun l hl => h3 l (List.mem_cons_of_mem _ (restQ_mem hl))) hacc2 (by omega) (by omega)
          rw [hpre] at j3
          rw [List.append_assoc] at j2 j3
          refine ⟨mkRow (kindQ c) (lineQ t rest) :: rs, (c :: t) :: (v ++ u), r, by rw [List.cons_append, List.append_assoc, ← j1, ← hv], j2, ?_, ?_⟩
          · rw [show w_S_l7Rows_3 (L, m, k, acc, ((pre.length : Nat) : Int), ()) = _ from fix_go hst]
            refine Eq.trans j3 ?_
            rw [show pre.length + stepN rest + u.length = pre.length + ((c :: t) :: (v ++ u)).length by rw [List.length_cons, List.length_append]; omega]
            rfl
          · have hside : ¬ (((sideL rs 3).length : Int) = m - mN c ∧ ((sideL rs 2).length : Int) = k - kN c) → ¬ (((sideL (mkRow (kindQ c) (lineQ t rest) :: rs) 3).length : Int) = m ∧ ((sideL (mkRow (kindQ c) (lineQ t rest) :: rs) 2).length : Int) = k) := by
              intro h h2
              rw [side_cons, side_cons, show (mkRow (kindQ c) (lineQ t rest)).1 = kindQ c from rfl, kind_ne3, kind_ne2] at h2
              exact h ⟨by omega, by omega⟩
            by_cases hneg : m < 0 ∨ k < 0
            · refine .inr ⟨rowsQ_neg hneg, ?_⟩
              rcases j4 with j4 | j4
              · rw [rowsQ_neg (by omega)] at j4; cases j4
              · exact hside j4.2
            · rw [rowsQ_step h0 hneg, if_neg hkd]
              rcases j4 with j4 | j4
              · exact .inl (by rw [j4]; rfl)
              · exact .inr ⟨by rw [j4.1]; rfl, hside j4.2⟩
    · refine stop (.inr (by omega)) fun h0 => rowsQ_neg (by omega)

/-! ### groups that lines tell -/
inductive GQ : TX → GR → Prop
  | nil : GQ [] []
  | cons {l o f : List UInt8} {a m b k : Int} {rest r : TX} {rs : RW} {gs : GR} : HeadIs l o f a m b k → rowsQ rest.length rest m k = some (rs, r) → GQ r gs → GQ (l :: rest) ((a, (b, (rs, ()))) :: gs)

theorem hdP_Q (o f : List UInt8) : hdP o f = hdQ o f ++ [10] := by unfold hdP hdQ; simp
theorem hdP_inj {o f o' f' : List UInt8} (h : hdP o f = hdP o' f') (h1 : (32 : UInt8) ∉ o) (h2 : (32 : UInt8) ∉ f) (h3 : (32 : UInt8) ∉ o') (h4 : (32 : UInt8) ∉ f') : o = o' ∧ f = f' := by
  rw [hdP_Q, hdP_Q] at h
  have := hdQ_split h1 h2
  rw [List.append_cancel_right h, hdQ_split h3 h4] at this
  simp only [List.cons.injEq] at this
  exact ⟨this.2.1.2.symm, this.2.2.1.2.symm⟩
theorem head_uniq {l o f o' f' : List UInt8} {a m b k a' m' b' k' : Int} (h : HeadIs l o f a m b k) (h' : HeadIs l o' f' a' m' b' k') : a = a' ∧ m = m' ∧ b = b' ∧ k = k' := by
  obtain ⟨rfl, rfl⟩ := hdP_inj (h.1.symm.trans h'.1) (count_no32 h.2.1) (count_no32 h.2.2) (count_no32 h'.2.1) (count_no32 h'.2.2)
  have e1 := Option.some.inj (h.2.1.symm.trans h'.2.1)
  have e2 := Option.some.inj (h.2.2.symm.trans h'.2.2)
  obtain ⟨rfl, rfl⟩ := Prod.mk.inj e1
  obtain ⟨rfl, rfl⟩ := Prod.mk.inj e2
  exact ⟨rfl, rfl, rfl, rfl⟩
theorem GQ_uniq : ∀ {ls : TX} {gs gs' : GR}, GQ ls gs → GQ ls gs' → gs = gs' := by
  intro ls gs gs' h
  induction h generalizing gs' with
  | nil => intro h; cases h; rfl
  | cons hd hr hg ih =>
    intro h
    cases h with
    | cons hd' hr' hg' =>
      obtain ⟨rfl, rfl, rfl, rfl⟩ := head_uniq hd hd'
      rw [hr] at hr'
      obtain ⟨rfl, rfl⟩ := Prod.mk.inj (Option.some.inj hr')
      rw [ih hg']

/-! ### one group, as the program takes it -/
theorem headText_I (o f : List UInt8) (h1 : o.length ≤ 100000) (h2 : f.length ≤ 100000) : f_I_headText o f = some ((hdP o f, ()), ()) := by
  unfold f_I_headText hdP
  rw [decide_eq_true (by simp only [List.length_cons, List.length_nil]; omega), cond_true, decide_eq_true (by simp only [List.length_append, List.length_cons, List.length_nil]; omega), cond_true, decide_eq_true (by simp only [List.length_append, List.length_cons, List.length_nil]; omega), cond_true, decide_eq_true (by simp only [List.length_append, List.length_cons, List.length_nil]; omega), cond_true]

theorem take_I (l : List UInt8) (rest : TX) (hl : l.length ≤ 3000) (hr : rest.length ≤ 2999) (hn : ∀ x ∈ rest, x ≠ [] ∧ x.length ≤ 3000) :
    (∃ o f a m b k rs r, HeadIs l o f a m b k ∧ rowsQ rest.length rest m k = some (rs, r) ∧ Rw rs 3000 ∧ (∃ u, rest = u ++ r) ∧ f_I_takeGroup (l :: rest) = some (((a, (b, (rs, ()))), hdP o f ++ rowsT rs, r, true, ()), ())) ∨
    ((∀ o f a m b k rs r, HeadIs l o f a m b k → rowsQ rest.length rest m k = some (rs, r) → False) ∧ ∃ g tx r, f_I_takeGroup (l :: rest) = some ((g, tx, r, false, ()), ())) := by
  rcases head_I l rest (by omega) with ⟨o, f, a, m, b, k, hH, hT⟩ | ⟨hno, hT⟩
  · have g1 := countP_rng hH.2.1
    have g2 := countP_rng hH.2.2
    have ho := countP_len hH.2.1
    have hf := countP_len hH.2.2
    obtain ⟨i1, i2⟩ := rows_I' rest.length rest GZ o f a b [] m k (Nat.le_refl _) hn ⟨fun r hr => (by cases hr), Nat.zero_le _⟩ (by omega) (by omega) (by omega)
    cases hq : rowsQ rest.length rest m k with
    | some p =>
      obtain ⟨rs, r⟩ := p
      obtain ⟨j1, j2, j3⟩ := i1 rs r hq
      rw [List.nil_append] at j1
      have hw := rowsW_len j1.2 j1.1
      refine .inl ⟨o, f, a, m, b, k, rs, r, hH, hq, j1, j2, ?_⟩
      rw [hT, j3]
      unfold contI
      rw [Option.bind_some]
      dsimp only
      rw [headText_I o f (by omega) (by omega), Option.bind_some, List.nil_append, rowsText_W j1.2 j1.1, Option.bind_some]
      dsimp only
      rw [decide_eq_true (by unfold hdP; simp only [List.length_append, List.length_cons, List.length_nil]; omega), cond_true]
      rfl
    | none =>
      refine .inr ⟨fun o' f' a' m' b' k' rs r h h2 => ?_, ?_⟩
      · obtain ⟨rfl, rfl, rfl, rfl⟩ := head_uniq hH h
        rw [hq] at h2; cases h2
      · rcases i2 hq with j | ⟨r, acc', m', k', j1, j2, j3⟩
        · refine ⟨GZ, [], [], ?_⟩
          rw [hT, j]; rfl
        · have hw := rowsW_len j1.2 j1.1
          refine ⟨(a, (b, (acc', ()))), hdP o f ++ rowsT acc', r, ?_⟩
          rw [hT, j3]
          unfold contI
          rw [Option.bind_some]
          dsimp only
          rw [headText_I o f (by omega) (by omega), Option.bind_some, rowsText_W j1.2 j1.1, Option.bind_some]
          dsimp only
          rw [decide_eq_true (by unfold hdP; simp only [List.length_append, List.length_cons, List.length_nil]; omega), cond_true]
          by_cases hm0 : m' = 0
          · have hk0 : k' ≠ 0 := by omega
            rw [show (m' == 0) = true from beq_iff_eq.2 hm0, show (k' == 0) = false from beq_eq_false_iff_ne.2 hk0]; rfl
          · rw [show (m' == 0) = false from beq_eq_false_iff_ne.2 hm0]; rfl
  · exact .inr ⟨fun o f a m b k rs r h _ => hno o f a m b k h, GZ, [], [], hT⟩
end R
end

section
/- Groups, as the program reads them. -/
open Go Go.Dn
namespace R
set_option linter.unusedVariables false

theorem endP_last (s : List UInt8) : endP s = (s.getLast? == some 10) := by
  unfold endP
  rcases List.eq_nil_or_concat s with rfl | ⟨t, a, rfl⟩
  · rfl
  · rw [List.concat_eq_append, List.length_append, List.length_singleton, Nat.add_sub_cancel, List.drop_left, List.getLast?_append]
    simp
theorem endP_app {s t : List UInt8} (h : t ≠ []) : endP (s ++ t) = endP t := by
  rw [endP_last, endP_last, List.getLast?_append]
  rcases List.eq_nil_or_concat t with rfl | ⟨u, a, rfl⟩
  · exact absurd rfl h
  · rw [List.concat_eq_append, List.getLast?_append]; simp
theorem endP_ne {t : List UInt8} (h : endP t = true) : t ≠ [] := by rintro rfl; cases h

theorem hdP_end (o f : List UInt8) : endP (hdP o f) = true := by
  unfold hdP
  rw [endP_app (by simp)]
  decide
theorem hdP_len {o f l : List UInt8} (h : l = hdP o f) : (hdP o f).length = l.length := by rw [h]
theorem shownT_end (sg s : List UInt8) : endP (shownT sg s) = true := by
  unfold shownT
  cases h : endP s
  · rw [cond_false, endP_app (by unfold none10; simp)]; decide
  · rw [cond_true, endP_app (endP_ne h), h]
theorem rowsT_end : ∀ {rs : RW} {x : List UInt8}, endP x = true → endP (x ++ rowsT rs) = true
  | [], x, h => by unfold rowsT; simpa using h
  | r :: rs, x, h => by
    unfold rowsT
    rw [List.flatMap_cons, ← List.append_assoc]
    exact rowsT_end (rs := rs) (by unfold rowT; rw [endP_app (endP_ne (shownT_end _ _)), shownT_end])

theorem groups_I' : ∀ (n : Nat) (ls : TX) (out : GR) (text : List UInt8), ls.length ≤ n → ls.length ≤ 3000 → (∀ x ∈ ls, x ≠ [] ∧ x.length ≤ 3000) → out.length ≤ 20 → text.length ≤ 10000000 * out.length →
    (∃ gs tx, GQ ls gs ∧ out.length + gs.length ≤ 20 ∧ (∀ x ∈ gs, Rw x.2.2.1 3000) ∧ ((∀ l ∈ ls, isL l) → tx = ls.flatten) ∧ (ls ≠ [] → endP tx = true) ∧ w_I_readUnified_2 (ls, out, text, ()) = some (.inl (out ++ gs, text ++ tx, ()))) ∨
    ((∀ gs, GQ ls gs → ¬ out.length + gs.length ≤ 20) ∧ w_I_readUnified_2 (ls, out, text, ()) = some (.inr ([], [], false, ()))) := by
  intro n
  induction n with
  | zero =>
    intro ls out text hl h3 hn ho ht
    obtain rfl := List.eq_nil_of_length_eq_zero (Nat.le_zero.1 hl)
    exact .inl ⟨[], [], .nil, by simpa using ho, fun x hx => (by cases hx), fun _ => rfl, fun h => absurd rfl h, by rw [List.append_nil, List.append_nil]; exact fix_end rfl⟩
  | succ n ih =>
    intro ls out text hl h3 hn ho ht
    cases ls with
    | nil => exact .inl ⟨[], [], .nil, by simpa using ho, fun x hx => (by cases hx), fun _ => rfl, fun h => absurd rfl h, by rw [List.append_nil, List.append_nil]; exact fix_end rfl⟩
    | cons l rest =>
      rw [List.length_cons] at hl h3
      have hpos : decide ((((l :: rest : TX)).length : Int) > 0) = true := decide_eq_true (by simp)
      rcases take_I l rest (hn l (List.mem_cons_self ..)).2 (by omega) (fun x hx => hn x (List.mem_cons_of_mem _ hx)) with ⟨o, f, a, m, b, k, rs, r, hH, hq, hrw, ⟨u, hu⟩, hT⟩ | ⟨hno, g, tx, r, hT⟩
      · by_cases h20 : out.length = 20
        · refine .inr ⟨fun gs hg => ?_, fix_end ?_⟩
          · cases hg with
            | cons _ _ _ => rw [List.length_cons]; omega
          · show b_I_readUnified_2 (l :: rest) out text = _
            unfold b_I_readUnified_2
            rw [hpos, cond_true, hT, Option.bind_some]
            dsimp only
            rw [Bool.not_true, cond_false, Option.bind_some]
            dsimp only
            rw [show ((out.length : Int) == 20) = true from beq_iff_eq.2 (by omega)]; rfl
        · have hw := rowsW_len hrw.2 hrw.1
          have hhl := hdP_len hH.1
          have hl3 := (hn l (List.mem_cons_self ..)).2
          have hst : w_I_readUnified_2 (l :: rest, out, text, ()) = w_I_readUnified_2 (r, out ++ [(a, (b, (rs, ())))], text ++ (hdP o f ++ rowsT rs), ()) := by
            refine fix_go ?_
            show b_I_readUnified_2 (l :: rest) out text = _
            unfold b_I_readUnified_2
            rw [hpos, cond_true, hT, Option.bind_some]
            dsimp only
            rw [Bool.not_true, cond_false, Option.bind_some]
            dsimp only
            rw [show ((out.length : Int) == 20) = false from beq_eq_false_iff_ne.2 (by omega), cond_false, roomB_ok (by simp; omega), cond_true, decide_eq_true (by rw [List.length_append]; omega), cond_true]
          rw [hst]
          have hrl : r.length ≤ rest.length := by rw [hu]; simp
          rcases ih r (out ++ [(a, (b, (rs, ())))]) (text ++ (hdP o f ++ rowsT rs)) (by omega) (by omega) (fun x hx => hn x (by rw [hu]; simp [hx])) (by rw [List.length_append]; simp; omega) (by rw [List.length_append, List.length_append, List.length_append]; simp; omega) with ⟨gs, tx, j1, j2, j3, j4, j5, j6⟩ | ⟨j1, j2⟩
          · refine .inl ⟨(a, (b, (rs, ()))) :: gs, (hdP o f ++ rowsT rs) ++ tx, .cons hH hq j1, by rw [List.length_append] at j2; simp at j2 ⊢; omega, fun x hx => ?_, fun hE => ?_, fun _ => ?_, ?_⟩
            · rcases List.mem_cons.1 hx with rfl | hx
              · exact hrw
              · exact j3 x hx
            · obtain ⟨q1, _⟩ := rowsQ_text _ (fun x hx => hE x (List.mem_cons_of_mem _ hx)) hq
              rw [List.flatten_cons, q1, j4 fun x hx => hE x (List.mem_cons_of_mem _ (by rw [hu]; simp [hx])), hH.1, List.append_assoc]
            · by_cases hr : r = []
              · subst hr
                cases j1
                have : tx = [] := by simpa using j4 (fun x hx => by cases hx)
                rw [this, List.append_nil]
                exact rowsT_end (hdP_end o f)
              · have := j5 hr
                rw [endP_app (endP_ne this), this]
            · rw [j6, List.append_assoc, List.append_assoc]; rfl
          · refine .inr ⟨fun gs hg => ?_, j2⟩
            cases hg with
            | cons hd' hr' hg' =>
              obtain ⟨rfl, rfl, rfl, rfl⟩ := head_uniq hH hd'
              rw [hq] at hr'
              obtain ⟨rfl, rfl⟩ := Prod.mk.inj (Option.some.inj hr')
              have := j1 _ hg'
              rw [List.length_append] at this
              rw [List.length_cons]
              simp at this
              omega
      · refine .inr ⟨fun gs hg => ?_, fix_end ?_⟩
        · cases hg with
          | cons hd hr hg => exact absurd hr fun h => hno _ _ _ _ _ _ _ _ hd h
        · show b_I_readUnified_2 (l :: rest) out text = _
          unfold b_I_readUnified_2
          rw [hpos, cond_true, hT, Option.bind_some]
          rfl

theorem smG_of {gs : GR} (h1 : gs.length ≤ 1000000) (h : ∀ x ∈ gs, Rw x.2.2.1 3000) : SmG gs :=
  ⟨by omega, fun x hx => ⟨by have := (h x hx).2; omega, fun r hr => by have := ((h x hx).1 r hr).2; omega⟩⟩

theorem endP_isL {l : List UInt8} (h : isL l) : endP l = true := by
  obtain ⟨t, rfl, _⟩ := h
  rw [endP_app (by simp)]; decide
/-- All lines have their end, or the text has none. -/
theorem LN_all : ∀ {ls : TX}, LN ls → (∀ l ∈ ls, isL l) ∨ (ls.flatten ≠ [] ∧ endP ls.flatten = false)
  | [], _ => .inl fun l h => by cases h
  | l :: r, ⟨h1, h2, h3⟩ => by
    rcases h2 with h2 | ⟨h2, rfl⟩
    · rcases LN_all h3 with h | ⟨ha, hb⟩
      · exact .inl fun x hx => (List.mem_cons.1 hx).elim (fun e => e ▸ h2) (h x)
      · exact .inr ⟨by rw [List.flatten_cons]; simp [ha], by rw [List.flatten_cons, endP_app ha, hb]⟩
    · refine .inr ⟨by simpa using h1, ?_⟩
      rw [List.flatten_cons, List.flatten_nil, List.append_nil]
      exact endP_no h2

/-- What the program answers. -/
theorem read_I (s : List UInt8) : ∃ res, f_I_ReadUnified s = some (res, ()) ∧
    ((∃ gs, s.length ≤ 3000 ∧ GQ (cutP s) gs ∧ (∀ l ∈ cutP s, isL l) ∧ goodGs gs = true ∧ res = (gs, 0, true, ())) ∨
     ((∀ gs, s.length ≤ 3000 → GQ (cutP s) gs → (∀ l ∈ cutP s, isL l) → goodGs gs = true → False) ∧ res = ([], 1, false, ()))) := by
  unfold f_I_ReadUnified
  by_cases hs : s.length ≤ 3000
  · rw [decide_eq_true (by omega : (s.length : Int) ≤ 3000), cond_true, linesOf_I s (by omega), Option.bind_some]
    dsimp only
    unfold f_I_readUnified
    have hln := cutP_len s
    rcases groups_I' (cutP s).length (cutP s) [] [] (Nat.le_refl _) (by omega) (fun x hx => ⟨cutP_ne hx, by have := cutP_mem hx; omega⟩) (Nat.zero_le _) (Nat.zero_le _) with ⟨gs, tx, j1, j2, j3, j4, j5, j6⟩ | ⟨j1, j2⟩
    · rw [j6, Option.bind_some]
      dsimp only
      rw [List.nil_append, List.nil_append, Option.bind_some]
      dsimp only
      rw [cond_true]
      have hS : SmG gs := smG_of (by simp at j2; omega) j3
      cases ht : tx == s
      · refine ⟨([], 1, false, ()), rfl, .inr ⟨fun gs' _ _ hE _ => ?_, rfl⟩⟩
        rw [j4 hE, cutP_flat, beq_self_eq_true] at ht; cases ht
      · have hE : ∀ l ∈ cutP s, isL l := by
          by_cases h0 : s = []
          · subst h0; intro l hl; cases hl
          · have he : endP s = true := by
              rw [← beq_iff_eq.1 ht]
              exact j5 (cutP_nil h0)
            rcases LN_all (LN_cut s.length s (Nat.le_refl _)) with h | h
            · exact h
            · rw [cutP_flat] at h; rw [h.2] at he; cases he
        rw [cond_true, groups_I hS, Option.bind_some]
        dsimp only
        cases hg : goodGs gs
        · refine ⟨([], 1, false, ()), rfl, .inr ⟨fun gs' _ h1 _ h3 => ?_, rfl⟩⟩
          rw [GQ_uniq h1 j1, hg] at h3; cases h3
        · exact ⟨(gs, 0, true, ()), rfl, .inl ⟨gs, hs, j1, hE, hg, rfl⟩⟩
    · rw [j2, Option.bind_some]
      refine ⟨([], 1, false, ()), rfl, .inr ⟨fun gs _ h1 _ h3 => j1 gs h1 ?_, rfl⟩⟩
      unfold goodGs at h3
      rw [Bool.and_eq_true, decide_eq_true_eq] at h3
      simpa using h3.1
  · rw [decide_eq_false (by omega : ¬ (s.length : Int) ≤ 3000)]
    exact ⟨([], 1, false, ()), rfl, .inr ⟨fun gs h _ _ _ => hs h, rfl⟩⟩
end R
end

section
/- Groups, as the reference reads them. -/
open Go Go.Dn
namespace R
set_option linter.unusedVariables false

theorem countT_eq (a m : Nat) : countT a m = Go.Dn.countT a m := by
  unfold countT Go.Dn.countT numb
  by_cases h : m = 1
  · rw [if_pos h, if_pos h, List.append_nil]
  · rw [if_neg h, if_neg h]; rfl
theorem countT_ch {a m : Nat} : ∀ c ∈ countT a m, isDg c = true ∨ c = 44 := by
  intro c hc
  rw [countT_eq] at hc
  unfold Go.Dn.countT at hc
  rcases List.mem_append.1 hc with h | h
  · exact .inl (List.all_eq_true.1 (digits_ok _).1 c h)
  · split at h
    · cases h
    · rcases List.mem_cons.1 h with h | h
      · exact .inr h
      · exact .inl (List.all_eq_true.1 (digits_ok _).1 c h)
theorem countT_no {a m : Nat} {d : UInt8} (h1 : isDg d = false) (h2 : d ≠ 44) : d ∉ countT a m := fun h => by
  rcases countT_ch d h with h | h
  · rw [h1] at h; cases h
  · exact h2 h
theorem countT_big {a m : Nat} (ha : a ≤ 999) (hm : 999 < m) (hm2 : m ≤ 9999) : countP (countT a m) = none := by
  have h44 : ∀ u, (44 : UInt8) ∉ Lib.decDigits u := fun u hu => by
    have := List.all_eq_true.1 (digits_ok u).1 44 hu
    cases this
  rw [countT_eq]
  unfold Go.Dn.countT
  rw [if_neg (by omega : ¬ m = 1), if_pos (by omega : 0 < m)]
  unfold countP
  rw [comma_at _ (h44 _)]
  dsimp only
  obtain ⟨d1, d2⟩ := canon_dec (n := m) (by omega)
  obtain ⟨c1, c2⟩ := canon_dec (n := a + 1) (by omega)
  rw [if_pos ⟨c1, d1⟩, c2, d2]
  unfold rngP
  rw [if_neg (by omega)]
theorem countT_inj {a m m' : Nat} (ha : a ≤ 999) (hm : m ≤ 999) (hm' : m' ≤ 9999) (h : countT a m = countT a m') : m = m' := by
  have h1 : countP (countT a m) = some ((a : Int), (m : Int)) := by rw [countT_eq]; exact countP_T ha hm
  by_cases h9 : m' ≤ 999
  · have h2 : countP (countT a m') = some ((a : Int), (m' : Int)) := by rw [countT_eq]; exact countP_T ha h9
    rw [h, h2] at h1
    have := (Prod.mk.inj (Option.some.inj h1)).2
    omega
  · rw [h, countT_big ha (by omega) hm'] at h1; cases h1

theorem hdP_isL {o f : List UInt8} (h1 : (10 : UInt8) ∉ o) (h2 : (10 : UInt8) ∉ f) : isL (hdP o f) := by
  refine ⟨hdQ o f, hdP_Q o f, ?_⟩
  unfold hdQ
  simp [h1, h2]

def hdC (a m b k : Int) : List UInt8 := hdP (countT a.toNat m.toNat) (countT b.toNat k.toNat)
theorem headT_hd (x : PV Y_impl_Group) : headT x = hdP (countT x.1.toNat (sideL x.2.2.1 3).length) (countT x.2.1.toNat (sideL x.2.2.1 2).length) := rfl
theorem hdC_isL (a m b k : Int) : isL (hdC a m b k) := hdP_isL (countT_no (by decide) (by decide)) (countT_no (by decide) (by decide))
theorem headT_isL (x : PV Y_impl_Group) : isL (headT x) := hdP_isL (countT_no (by decide) (by decide)) (countT_no (by decide) (by decide))

theorem hd_same {a m b k : Int} {rows : RW} (h : ((sideL rows 3).length : Int) = m ∧ ((sideL rows 2).length : Int) = k) : headT (a, (b, (rows, ()))) = hdC a m b k := by
  rw [headT_hd]
  unfold hdC
  rw [← h.1, ← h.2, toNat_cast, toNat_cast]
theorem hd_diff {a m b k : Int} {rows : RW} (hr : rows.length ≤ 3000) (ha : 0 ≤ a ∧ a ≤ 999 ∧ 0 ≤ m ∧ m ≤ 999) (hb : 0 ≤ b ∧ b ≤ 999 ∧ 0 ≤ k ∧ k ≤ 999) (h : ¬ (((sideL rows 3).length : Int) = m ∧ ((sideL rows 2).length : Int) = k)) : hdC a m b k ≠ headT (a, (b, (rows, ()))) := by
  intro e
  rw [headT_hd] at e
  unfold hdC at e
  obtain ⟨e1, e2⟩ := hdP_inj e (countT_no (by decide) (by decide)) (countT_no (by decide) (by decide)) (countT_no (by decide) (by decide)) (countT_no (by decide) (by decide))
  have l1 := side_len (rows := rows) (c := 3)
  have l2 := side_len (rows := rows) (c := 2)
  have q1 := countT_inj (by omega) (by omega) (by show (sideL rows 3).length ≤ 9999; omega) e1
  have q2 := countT_inj (by omega) (by omega) (by show (sideL rows 2).length ≤ 9999; omega) e2
  refine h ⟨?_, ?_⟩
  · have : m.toNat = (sideL rows 3).length := q1
    omega
  · have : k.toNat = (sideL rows 2).length := q2
    omega

theorem textL_S (l : TX) (hl : l.length ≤ 3000) (h : ∀ s ∈ l, s.length ≤ 3000) : f_S_l1Text l = some ((l.flatten, ()), ()) ∧ l.flatten.length ≤ 3000 * l.length := by
  have hF := fix_fold (B := fun d => b_S_l1Text_3 d.1 d.2.1 d.2.2.1 d.2.2.2.1) l (fun (o : List UInt8) s => o ++ s) (fun o i => (o, l, (l.length : Int), (i : Int), ())) (fun o => (o, ())) (fun i o => o.length ≤ 3000 * i)
    (fun i hi o hI => by
      have h0 := h _ (List.getElem_mem hi)
      refine ⟨by rw [List.length_append]; omega, ?_⟩
      show b_S_l1Text_3 o l l.length i = _
      unfold b_S_l1Text_3
      rw [decide_eq_true (by omega : (i : Int) < (l.length : Int)), cond_true, inB_lt hi, cond_true, toNat_cast, getD_of hi, decide_eq_true (by omega), cond_true, wrap64 (by omega) (by omega)]
      rfl)
    (fun o hI => by
      show b_S_l1Text_3 o l l.length l.length = _
      unfold b_S_l1Text_3
      rw [decide_eq_false (Int.lt_irrefl _), cond_false]) [] (Nat.zero_le _)
  have hm : ∀ (l : TX) (o : List UInt8), l.foldl (fun (o : List UInt8) s => o ++ s) o = o ++ l.flatten := by
    intro l
    induction l with
    | nil => intro o; simp
    | cons s l ih => intro o; rw [List.foldl_cons, ih, List.flatten_cons, List.append_assoc]
  have h2 := hF.2
  rw [hm, List.nil_append] at h2
  refine ⟨?_, h2⟩
  unfold f_S_l1Text
  rw [show w_S_l1Text_3 ([], l, (l.length : Int), 0, ()) = _ from hF.1, Option.bind_some]
  dsimp only
  rw [hm, List.nil_append]

theorem head_end {l : List UInt8} (h : endP l = true) : l = plainB l ++ [10] := by
  unfold plainB
  rw [h, cond_true]
  unfold endP at h
  have := List.take_append_drop (l.length - 1) l
  rw [beq_iff_eq.1 h] at this
  exact this.symm

theorem step_S6 (l : List UInt8) (rest : TX) (out : GR) (want : List UInt8) (hr : rest.length ≤ 2999) (hLN : LN (l :: rest)) (h3 : ∀ x ∈ l :: rest, x.length ≤ 3000) (ho : out.length ≤ 3000) (hw : want.length ≤ 10000000 * out.length) :
    (∃ (o f : List UInt8) (a m b k : Int) (rows : RW) (u r : TX), HeadIs l o f a m b k ∧ rest = u ++ r ∧ Rw rows 3000 ∧ ((rowsQ rest.length rest m k = some (rows, r)) ∨ (rowsQ rest.length rest m k = none ∧ ¬ (((sideL rows 3).length : Int) = m ∧ ((sideL rows 2).length : Int) = k))) ∧
      u.flatten.length ≤ 9000000 ∧ b_S_ReadUnified_6 (l :: rest) out want = some (.inl (r, out ++ [(a, (b, (rows, ())))], want ++ (hdC a m b k ++ u.flatten), ()))) ∨
    ((∀ o f a m b k, ¬ HeadIs l o f a m b k) ∧ b_S_ReadUnified_6 (l :: rest) out want = some (.inr (.inr ([], 1, false, ())))) := by
  have hl := h3 l (List.mem_cons_self ..)
  have hl1 : 1 ≤ l.length := List.length_pos_iff.2 hLN.1
  have hpl := plainB_len l
  have hpos : decide ((((l :: rest : TX)).length : Int) > 0) = true := decide_eq_true (by simp)
  have e0 : inB 0 (l :: rest : TX).length = true := inB_lt (i := 0) (by simp)
  have eg : (l :: rest : TX).getD ((0 : Int).toNat) [] = l := rfl
  have hqp : ∀ {o f : List UInt8}, endP l = true → (l = hdP o f ↔ plainB l = hdQ o f) := by
    intro o f he
    have := head_end he
    constructor
    · intro h
      rw [h, hdP_Q] at this
      rw [h, hdP_Q]
      exact (List.append_cancel_right this).symm
    · intro h
      rw [this, h, ← hdP_Q]
  rcases head_S (plainB l) (by omega) with ⟨o, f, a, m, b, k, hp, c1, c2, hT⟩ | ⟨hno, g, m, k, hT⟩
  · have g1 := countP_rng c1
    have g2 := countP_rng c2
    obtain ⟨rows, u, r, j1, j2, j3, j4⟩ := rows_S' rest.length rest [] rest [] m k rfl (Nat.le_refl _) (by omega) hLN.2.2 (fun x hx => h3 x (List.mem_cons_of_mem _ hx)) ⟨fun r hr => (by cases hr), Nat.zero_le _⟩ (by omega) (by omega)
    rw [List.nil_append] at j2 j3
    have hul : u.length + r.length = rest.length := by rw [j1]; simp
    obtain ⟨t1, t2⟩ := textL_S u (by omega) (fun x hx => h3 x (List.mem_cons_of_mem _ (by rw [j1]; simp [hx])))
    have hR : f_S_l7Rows rest m k = some ((rows, ((u.length : Nat) : Int), ()), ()) := by
      unfold f_S_l7Rows
      rw [show w_S_l7Rows_3 (rest, m, k, [], 0, ()) = some (rows, (((([] : TX).length + u.length : Nat)) : Int), ()) from j3, Option.bind_some]
      dsimp only
      rw [show ([] : TX).length + u.length = u.length by simp]
    have hC1 : f_S_l4Count a m = some ((countT a.toNat m.toNat, ()), ()) := by
      have := count_S a.toNat m.toNat (by omega) (by omega)
      rwa [Int.toNat_of_nonneg g1.1, Int.toNat_of_nonneg g1.2.2.1] at this
    have hC2 : f_S_l4Count b k = some ((countT b.toNat k.toNat, ()), ()) := by
      have := count_S b.toNat k.toNat (by omega) (by omega)
      rwa [Int.toNat_of_nonneg g2.1, Int.toNat_of_nonneg g2.2.2.1] at this
    have k1 := countT_len (a := a.toNat) (m := m.toNat) (by omega) (by omega)
    have k2 := countT_len (a := b.toNat) (m := k.toNat) (by omega) (by omega)
    have hcu : cutL 1 (((1 + u.length : Nat)) : Int) (l :: rest : TX) = u := by
      unfold cutL
      rw [toNat_cast, j1, show ((1 : Int)).toNat = 1 from rfl, Nat.add_comm, List.take_succ_cons, List.drop_succ_cons, List.drop_zero, List.take_left' rfl]
    have hcr : cutL (((1 + u.length : Nat)) : Int) ((l :: rest : TX).length : Int) (l :: rest : TX) = r := by
      unfold cutL
      rw [toNat_cast, toNat_cast, List.take_length, j1, Nat.add_comm, List.drop_succ_cons, List.drop_left' rfl]
    have hgo : b_S_ReadUnified_6 (l :: rest) out want = bif !(endP l) then some (.inr (.inr ([], 1, false, ()))) else some (.inl (r, out ++ [(a, (b, (rows, ())))], want ++ (hdC a m b k ++ u.flatten), ())) := by
      unfold b_S_ReadUnified_6
      rw [hpos, cond_true, e0, cond_true, eg, plain_S l hl1 (by omega), Option.bind_some, hT, Option.bind_some]
      dsimp only
      rw [Bool.not_true, cond_false, drop_ok, cond_true, drop_one, hR, Option.bind_some, hC1, Option.bind_some]
      dsimp only
      rw [decide_eq_true (by simp only [List.length_cons, List.length_nil]; omega), cond_true, decide_eq_true (by simp only [List.length_append, List.length_cons, List.length_nil]; omega), cond_true, hC2, Option.bind_some]
      dsimp only
      rw [decide_eq_true (by simp only [List.length_append, List.length_cons, List.length_nil]; omega), cond_true, decide_eq_true (by simp only [List.length_append, List.length_cons, List.length_nil]; omega), cond_true, wrap64 (by omega) (by omega), show (1 : Int) + ((u.length : Nat) : Int) = ((1 + u.length : Nat) : Int) by omega]
      rw [show cutB 1 (((1 + u.length : Nat)) : Int) (l :: rest : TX).length = true from by unfold cutB; simp; omega, cond_true, hcu, t1, Option.bind_some]
      dsimp only
      rw [decide_eq_true (by simp only [List.length_append, List.length_cons, List.length_nil]; omega), cond_true, decide_eq_true (by simp only [List.length_append, List.length_cons, List.length_nil]; omega), cond_true, cond_true, ends_S l hl1 (by omega), Option.bind_some]
      dsimp only
      rw [hcr, show cutB (((1 + u.length : Nat)) : Int) ((l :: rest : TX).length : Int) (l :: rest : TX).length = true from by unfold cutB; simp; omega, cond_true, roomB_ok (by simp; omega), cond_true]
      rfl
    cases he : endP l with
    | true =>
      rw [he] at hgo
      exact .inl ⟨o, f, a, m, b, k, rows, u, r, ⟨(hqp he).2 hp, c1, c2⟩, j1, j2, j4, by omega, hgo⟩
    | false =>
      rw [he] at hgo
      refine .inr ⟨fun o f a m b k h => ?_, hgo⟩
      rw [h.1, hdP_end] at he; cases he
  · refine .inr ⟨fun o f a m b k h => ?_, ?_⟩
    · have he : endP l = true := by rw [h.1, hdP_end]
      exact hno o f a m b k ((hqp he).1 h.1) h.2.1 h.2.2
    · unfold b_S_ReadUnified_6
      rw [hpos, cond_true, e0, cond_true, eg, plain_S l hl1 (by omega), Option.bind_some, hT, Option.bind_some]
      rfl

/-! ### all groups -/
def Bad (want : List UInt8) (out : GR) : Prop := ∃ A h1 h2 B C, isL h1 ∧ isL h2 ∧ h1 ≠ h2 ∧ want = A ++ (h1 ++ B) ∧ textG out = A ++ (h2 ++ C)
theorem textG_snoc (out : GR) (x : PV Y_impl_Group) : textG (out ++ [x]) = textG out ++ groupT x := by
  unfold textG
  rw [List.flatMap_append, List.flatMap_singleton]
theorem Bad.more {want : List UInt8} {out : GR} (h : Bad want out) (W : List UInt8) (x : PV Y_impl_Group) : Bad (want ++ W) (out ++ [x]) := by
  obtain ⟨A, h1, h2, B, C, q1, q2, q3, q4, q5⟩ := h
  exact ⟨A, h1, h2, B ++ W, C ++ groupT x, q1, q2, q3, by rw [q4]; simp, by rw [textG_snoc, q5]; simp⟩
theorem Bad.ne {want : List UInt8} {out : GR} (h : Bad want out) : textG out ≠ want := by
  obtain ⟨A, h1, h2, B, C, q1, q2, q3, q4, q5⟩ := h
  rw [q4, q5]
  intro e
  have := congrArg cutP (List.append_cancel_left e)
  rw [cutP_isL q2, cutP_isL q1] at this
  exact q3 (List.cons.inj this).1.symm

theorem groups_S' : ∀ (n : Nat) (ls : TX) (out : GR) (want : List UInt8), ls.length ≤ n → out.length + ls.length ≤ 3000 → LN ls → (∀ x ∈ ls, x.length ≤ 3000) → (∀ x ∈ out, Rw x.2.2.1 3000) → want.length ≤ 10000000 * out.length →
    (w_S_ReadUnified_6 (ls, out, want, ()) = some (.inr ([], 1, false, ())) ∧ ∀ gs, ¬ GQ ls gs) ∨
    ∃ (out' : GR) (want' : List UInt8), w_S_ReadUnified_6 (ls, out, want, ()) = some (.inl (out', want', ())) ∧ out'.length ≤ 3000 ∧ (∀ x ∈ out', Rw x.2.2.1 3000) ∧ (Bad want out → Bad want' out') ∧ (ls ≠ [] ∨ out ≠ [] → out' ≠ []) ∧ ((¬ ∀ l ∈ ls, isL l) → endP want' = false) ∧
      ((∃ gs, GQ ls gs ∧ out' = out ++ gs ∧ (want = textG out → (∀ l ∈ ls, isL l) → want' = textG out')) ∨ ((∀ gs, ¬ GQ ls gs) ∧ (want = textG out → (∀ l ∈ ls, isL l) → Bad want' out'))) := by
  intro n
  induction n with
  | zero =>
    intro ls out want hl h3 hn hx ho hw
    obtain rfl := List.eq_nil_of_length_eq_zero (Nat.le_zero.1 hl)
    exact .inr ⟨out, want, fix_end rfl, by omega, ho, id, fun h => h.elim (fun h => absurd rfl h) id, fun h => absurd (fun l hl => by cases hl) h, .inl ⟨[], .nil, by simp, fun h _ => h⟩⟩
  | succ n ih =>
    intro ls out want hl h3 hn hx ho hw
    cases ls with
    | nil => exact .inr ⟨out, want, fix_end rfl, by omega, ho, id, fun h => h.elim (fun h => absurd rfl h) id, fun h => absurd (fun l hl => by cases hl) h, .inl ⟨[], .nil, by simp, fun h _ => h⟩⟩
    | cons l rest =>
      rw [List.length_cons] at hl h3
      rcases step_S6 l rest out want (by omega) hn hx (by omega) hw with ⟨o, f, a, m, b, k, rows, u, r, hH, j1, j2, j3, j4, j5⟩ | ⟨hno, hT⟩
      · have hst : w_S_ReadUnified_6 (l :: rest, out, want, ()) = w_S_ReadUnified_6 (r, out ++ [(a, (b, (rows, ())))], want ++ (hdC a m b k ++ u.flatten), ()) := fix_go j5
        rw [hst]
        have hrl : u.length + r.length = rest.length := by rw [j1]; simp
        have k1 := countT_len (a := a.toNat) (m := m.toNat) (by have := countP_rng hH.2.1; omega) (by have := countP_rng hH.2.1; omega)
        have k2 := countT_len (a := b.toNat) (m := k.toNat) (by have := countP_rng hH.2.2; omega) (by have := countP_rng hH.2.2; omega)
        have hhd : (hdC a m b k).length ≤ 100 := by unfold hdC hdP; simp only [List.length_append, List.length_cons, List.length_nil]; omega
        have hrn : LN r := by have := hn.2.2; rw [j1] at this; exact LN_tail this
        have hlL : isL l := by rw [hH.1]; exact hdP_isL (count_no10 hH.2.1) (count_no10 hH.2.2)
        have ih1 := ih r (out ++ [(a, (b, (rows, ())))]) (want ++ (hdC a m b k ++ u.flatten)) (by omega) (by rw [List.length_append]; simp; omega) hrn (fun x hx' => hx x (List.mem_cons_of_mem _ (by rw [j1]; simp [hx'])))
          (fun x hx' => by
            rcases List.mem_append.1 hx' with hx' | hx'
            · exact ho x hx'
            · obtain rfl := List.mem_singleton.1 hx'; exact j2) (by simp only [List.length_append, List.length_cons, List.length_nil]; omega)
        have hE : (∀ x ∈ l :: rest, isL x) → ∀ x ∈ r, isL x := fun h x hx' => h x (List.mem_cons_of_mem _ (by rw [j1]; simp [hx']))
        have hgood : rowsQ rest.length rest m k = some (rows, r) → want = textG out → (∀ x ∈ l :: rest, isL x) → want ++ (hdC a m b k ++ u.flatten) = textG (out ++ [(a, (b, (rows, ())))]) := by
          intro hq he hL
          obtain ⟨q1, _⟩ := rowsQ_text _ (fun x hx' => hL x (List.mem_cons_of_mem _ hx')) hq
          rw [j1, List.flatten_append] at q1
          rw [textG_snoc, ← he, List.append_cancel_right q1, ← hd_same (rowsQ_side _ hq)]
          rfl
        have hbad : ¬ (((sideL rows 3).length : Int) = m ∧ ((sideL rows 2).length : Int) = k) → want = textG out → Bad (want ++ (hdC a m b k ++ u.flatten)) (out ++ [(a, (b, (rows, ())))]) := by
          intro hd he
          exact ⟨want, _, _, u.flatten, rowsT rows, hdC_isL a m b k, headT_isL (a, (b, (rows, ()))), hd_diff j2.2 (countP_rng hH.2.1) (countP_rng hH.2.2) hd, rfl, by rw [textG_snoc, ← he]; rfl⟩
        have hGQ : ∀ gs, GQ (l :: rest) gs → ∃ rs' r' gs', rowsQ rest.length rest m k = some (rs', r') ∧ GQ r' gs' ∧ gs = (a, (b, (rs', ()))) :: gs' := by
          intro gs hg
          cases hg with
          | cons hd' hr' hg' =>
            obtain ⟨rfl, rfl, rfl, rfl⟩ := head_uniq hH hd'
            exact ⟨_, _, _, hr', hg', rfl⟩
        rcases ih1 with ⟨i1, i2⟩ | ⟨out', want', i1, i2, i3, i4, i5, i6, i7⟩
        · refine .inl ⟨i1, fun gs hg => ?_⟩
          obtain ⟨rs', r', gs', q1, q2, _⟩ := hGQ gs hg
          rcases j3 with j3 | j3
          · rw [j3] at q1
            obtain ⟨rfl, rfl⟩ := Prod.mk.inj (Option.some.inj q1)
            exact i2 _ q2
          · rw [j3.1] at q1; cases q1
        · refine .inr ⟨out', want', i1, i2, i3, fun h => i4 (h.more _ _), fun _ => i5 (.inr (by simp)), fun hU => ?_, ?_⟩
          · by_cases hr : ∀ x ∈ r, isL x
            · have hu : u.flatten ≠ [] ∧ endP u.flatten = false := by
                rcases LN_all hn with h | h
                · exact absurd h hU
                · rcases LN_all hn.2.2 with h2 | ⟨h2, h4⟩
                  · exact absurd (fun x hx' => (List.mem_cons.1 hx').elim (fun e => e ▸ hlL) (h2 x)) hU
                  · rw [j1, List.flatten_append] at h2 h4
                    by_cases hr0 : r = []
                    · subst hr0
                      rw [List.flatten_nil, List.append_nil] at h2 h4
                      exact ⟨h2, h4⟩
                    · have hrf : r.flatten ≠ [] := by
                        obtain ⟨y, ys, rfl⟩ := List.exists_cons_of_ne_nil hr0
                        rw [List.flatten_cons]
                        have := hrn.1
                        simp [this]
                      rcases LN_all hrn with h5 | ⟨_, h5⟩
                      · have h6 : ∀ {q : TX}, q ≠ [] → (∀ x ∈ q, isL x) → endP q.flatten = true := by
                          intro q
                          induction q with
                          | nil => intro h; exact absurd rfl h
                          | cons y q ihq =>
                            intro _ hq
                            rw [List.flatten_cons]
                            by_cases h0 : q = []
                            · subst h0; rw [List.flatten_nil, List.append_nil]; exact endP_isL (hq y (List.mem_cons_self ..))
                            · have := ihq h0 fun x hx' => hq x (List.mem_cons_of_mem _ hx')
                              rw [endP_app (endP_ne this), this]
                        rw [endP_app hrf, h6 hr0 h5] at h4; cases h4
                      · exfalso
                        have h6 : ∀ {q : TX}, q ≠ [] → (∀ x ∈ q, isL x) → endP q.flatten = true := by
                          intro q
                          induction q with
                          | nil => intro h; exact absurd rfl h
                          | cons y q ihq =>
                            intro _ hq
                            rw [List.flatten_cons]
                            by_cases h0 : q = []
                            · subst h0; rw [List.flatten_nil, List.append_nil]; exact endP_isL (hq y (List.mem_cons_self ..))
                            · have := ihq h0 fun x hx' => hq x (List.mem_cons_of_mem _ hx')
                              rw [endP_app (endP_ne this), this]
                        rw [h6 hr0 hr] at h5; cases h5
              have hr0 : r = [] := by
                refine Classical.byContradiction fun h0 => ?_
                -- lines ahead of others have their end
                have h7 : ∀ {q p : TX}, LN (q ++ p) → p ≠ [] → ∀ x ∈ q, isL x := by
                  intro q
                  induction q with
                  | nil => intro p _ _ x hx'; cases hx'
                  | cons y q ihq =>
                    intro p h hp x hx'
                    rcases List.mem_cons.1 hx' with rfl | hx'
                    · exact h.2.1.resolve_right fun q' => hp (List.append_eq_nil_iff.1 q'.2).2
                    · exact ihq h.2.2 hp x hx'
                have h8 := hn.2.2
                rw [j1] at h8
                exact hU fun x hx' => (List.mem_cons.1 hx').elim (fun e => e ▸ hlL) fun hx' => by
                  rw [j1] at hx'
                  rcases List.mem_append.1 hx' with hx' | hx'
                  · exact h7 h8 h0 x hx'
                  · exact hr x hx'
              subst hr0
              have : w_S_ReadUnified_6 ([], out ++ [(a, (b, (rows, ())))], want ++ (hdC a m b k ++ u.flatten), ()) = some (.inl (out ++ [(a, (b, (rows, ())))], want ++ (hdC a m b k ++ u.flatten), ())) := fix_end rfl
              rw [this] at i1
              have e := Sum.inl.inj (Option.some.inj i1)
              have e2 : want ++ (hdC a m b k ++ u.flatten) = want' := congrArg (fun z => z.2.1) e
              rw [← e2, ← List.append_assoc, endP_app hu.1, hu.2]
            · exact i6 hr
          · rcases j3 with j3 | j3
            · rcases i7 with ⟨gs, q1, q2, q3⟩ | ⟨q1, q2⟩
              · exact .inl ⟨(a, (b, (rows, ()))) :: gs, .cons hH j3 q1, by rw [q2]; simp, fun he hL => q3 (hgood j3 he hL) (hE hL)⟩
              · refine .inr ⟨fun gs hg => ?_, fun he hL => q2 (hgood j3 he hL) (hE hL)⟩
                obtain ⟨rs', r', gs', q3, q4, _⟩ := hGQ gs hg
                rw [j3] at q3
                obtain ⟨rfl, rfl⟩ := Prod.mk.inj (Option.some.inj q3)
                exact q1 _ q4
            · refine .inr ⟨fun gs hg => ?_, fun he _ => i4 (hbad j3.2 he)⟩
              obtain ⟨rs', r', gs', q3, _⟩ := hGQ gs hg
              rw [j3.1] at q3; cases q3
      · refine .inl ⟨fix_end hT, fun gs hg => ?_⟩
        cases hg with
        | cons hd _ _ => exact hno _ _ _ _ _ _ hd

theorem textG_end {out : GR} (h : out ≠ []) : endP (textG out) = true := by
  rcases List.eq_nil_or_concat out with rfl | ⟨q, x, rfl⟩
  · exact absurd rfl h
  · rw [List.concat_eq_append, textG_snoc]
    have h2 : endP (groupT x) = true := by unfold groupT; exact rowsT_end (endP_isL (headT_isL x))
    rw [endP_app (endP_ne h2), h2]

/-- What the reference answers. -/
theorem read_S (s : List UInt8) : ∃ res, f_S_ReadUnified s = some (res, ()) ∧
    ((∃ gs, s.length ≤ 3000 ∧ GQ (cutP s) gs ∧ (∀ l ∈ cutP s, isL l) ∧ goodGs gs = true ∧ res = (gs, 0, true, ())) ∨
     ((∀ gs, s.length ≤ 3000 → GQ (cutP s) gs → (∀ l ∈ cutP s, isL l) → goodGs gs = true → False) ∧ res = ([], 1, false, ()))) := by
  unfold f_S_ReadUnified
  by_cases hs : s.length ≤ 3000
  · rw [decide_eq_false (by omega : ¬ (s.length : Int) > 3000), cond_false, l1Cut_S s (by omega), Option.bind_some]
    dsimp only
    have hln := cutP_len s
    rcases groups_S' (cutP s).length (cutP s) [] [] (Nat.le_refl _) (by simp; omega) (LN_cut s.length s (Nat.le_refl _)) (fun x hx => by have := cutP_mem hx; omega) (fun x hx => by cases hx) (Nat.zero_le _) with ⟨i1, i2⟩ | ⟨out', want', i1, i2, i3, i4, i5, i6, i7⟩
    · rw [i1, Option.bind_some]
      exact ⟨([], 1, false, ()), rfl, .inr ⟨fun gs _ h _ _ => i2 gs h, rfl⟩⟩
    · rw [i1, Option.bind_some]
      dsimp only
      have hS : SmG out' := smG_of (by omega) i3
      rw [groups_S hS, Option.bind_some]
      dsimp only
      cases hg : goodGs out'
      · refine ⟨([], 1, false, ()), rfl, .inr ⟨fun gs _ h1 h2 h3 => ?_, rfl⟩⟩
        rcases i7 with ⟨gs', q1, q2, _⟩ | ⟨q1, _⟩
        · rw [q2, List.nil_append, GQ_uniq q1 h1, h3] at hg; cases hg
        · exact q1 gs h1
      · rw [Bool.not_true, cond_false, groupsText_S' hS hg, Option.bind_some, Option.bind_some]
        dsimp only
        by_cases hE : ∀ l ∈ cutP s, isL l
        · rcases i7 with ⟨gs, q1, q2, q3⟩ | ⟨q1, q2⟩
          · rw [List.nil_append] at q2
            subst q2
            rw [q3 rfl hE, beq_self_eq_true, Bool.not_true, cond_false]
            exact ⟨(out', 0, true, ()), rfl, .inl ⟨out', hs, q1, hE, hg, rfl⟩⟩
          · rw [beq_eq_false_iff_ne.2 (q2 rfl hE).ne, Bool.not_false, cond_true]
            exact ⟨([], 1, false, ()), rfl, .inr ⟨fun gs _ h _ _ => q1 gs h, rfl⟩⟩
        · have hne : cutP s ≠ [] := fun h => hE (by rw [h]; intro l hl; cases hl)
          have h1 := textG_end (i5 (.inl hne))
          have h2 := i6 hE
          have : textG out' ≠ want' := fun e => by rw [e, h2] at h1; cases h1
          rw [beq_eq_false_iff_ne.2 this, Bool.not_false, cond_true]
          exact ⟨([], 1, false, ()), rfl, .inr ⟨fun gs _ _ h _ => hE h, rfl⟩⟩
  · rw [decide_eq_true (by omega : (s.length : Int) > 3000)]
    exact ⟨([], 1, false, ()), rfl, .inr ⟨fun gs h _ _ _ => hs h, rfl⟩⟩
end R
end

section
/- ReadUnified: both sides answer the same. -/
open Go Go.Dn
namespace R
set_option linter.unusedVariables false

theorem tot_le {e : TypeId} {t : Ty} {c : Nat} : ∀ {l : List (PV t)}, (∀ x ∈ l, tot t x ≤ c) → tot (.slice e t) l ≤ (c + 1) * l.length := by
  intro l h
  have : tot (.slice e t) l = l.length + (l.map (tot t)).sum := tot_slice
  rw [this]
  have hs : (l.map (tot t)).sum ≤ c * l.length := by
    clear this
    induction l with
    | nil => simp
    | cons x l ih =>
      have h1 := h x (List.mem_cons_self ..)
      have h2 := ih fun y hy => h y (List.mem_cons_of_mem _ hy)
      rw [List.map_cons, List.sum_cons, List.length_cons, Nat.mul_add]
      omega
  rw [Nat.add_mul, Nat.one_mul]
  omega

theorem good_tot {gs : GR} (h : goodGs gs = true) : tot S_impl_Group gs ≤ 1000000 := by
  have hlen : gs.length ≤ 20 := by
    unfold goodGs at h
    rw [Bool.and_eq_true, decide_eq_true_eq] at h
    exact h.1
  have hx : ∀ x ∈ gs, tot Y_impl_Group x ≤ 10000 := by
    intro x hx
    obtain ⟨i, hi, rfl⟩ := List.mem_iff_getElem.1 hx
    obtain ⟨hg, _⟩ := good_mem' h hi
    obtain ⟨r1, r2⟩ := rowsOk hg
    have hr : ∀ r ∈ (gs[i].2.2.1 : RW), tot Y_impl_Row r ≤ 40 := by
      intro r hr
      have h3 := (r2 r hr).2.2
      have : tot .str r.2.1 = List.length r.2.1 := tot_str
      simp only [tot] at this ⊢
      omega
    have h4 : tot S_impl_Row gs[i].2.2.1 ≤ (40 + 1) * List.length gs[i].2.2.1 := tot_le hr
    simp only [tot] at h4 ⊢
    omega
  have h5 : tot S_impl_Group gs ≤ (10000 + 1) * gs.length := tot_le hx
  omega

theorem read_both (s : List UInt8) : ∃ (gs : GR) (c : Int) (q : Bool), f_I_ReadUnified s = some ((gs, c, q, ()), ()) ∧ f_S_ReadUnified s = some ((gs, c, q, ()), ()) ∧ tot S_impl_Group gs ≤ 1000000 := by
  obtain ⟨r1, e1, h1⟩ := read_I s
  obtain ⟨r2, e2, h2⟩ := read_S s
  rcases h1 with ⟨gs, a1, a2, a3, a4, rfl⟩ | ⟨a1, rfl⟩
  · rcases h2 with ⟨gs', b1, b2, b3, b4, rfl⟩ | ⟨b1, rfl⟩
    · obtain rfl := GQ_uniq a2 b2
      exact ⟨gs, 0, true, e1, e2, good_tot a4⟩
    · exact absurd trivial fun _ => b1 gs a1 a2 a3 a4
  · rcases h2 with ⟨gs', b1, b2, b3, b4, rfl⟩ | ⟨b1, rfl⟩
    · exact absurd trivial fun _ => a1 gs' b1 b2 b3 b4
    · exact ⟨[], 1, false, e1, e2, by decide⟩

end R
end

section
/- Printed good groups tell themselves. -/
open Go Go.Dn
namespace R
set_option linter.unusedVariables false

theorem lineP_form {s : List UInt8} (h : lineP s = true) : s ≠ [] ∧ ((isL s ∧ endP s = true) ∨ ((10 : UInt8) ∉ s ∧ endP s = false)) := by
  have hl := line_len h
  have hne : s ≠ [] := fun e => by rw [e] at hl; simp at hl
  refine ⟨hne, ?_⟩
  unfold lineP at h
  rw [Bool.and_eq_true, Bool.not_eq_true'] at h
  have h10 : (10 : UInt8) ∉ s.take (s.length - 1) := by
    have := h.2
    unfold hasEnd at this
    simpa using this
  rcases List.eq_nil_or_concat s with rfl | ⟨t, c, rfl⟩
  · exact absurd rfl hne
  · rw [List.concat_eq_append] at *
    rw [List.length_append, List.length_singleton, Nat.add_sub_cancel, List.take_left' rfl] at h10
    by_cases hc : c = 10
    · subst hc
      exact .inl ⟨⟨t, rfl, h10⟩, endP_isL ⟨t, rfl, h10⟩⟩
    · have : (10 : UInt8) ∉ t ++ [c] := by
        simp only [List.mem_append, List.mem_singleton, not_or]
        exact ⟨h10, fun e => hc e.symm⟩
      exact .inr ⟨this, endP_no this⟩

def rowL (r : PV Y_impl_Row) : TX := bif endP r.2.1 then [signT r.1 ++ r.2.1] else [signT r.1 ++ r.2.1 ++ [10], noneL]
def RowG (r : PV Y_impl_Row) : Prop := (r.1 = 1 ∨ r.1 = 2 ∨ r.1 = 3) ∧ lineP r.2.1 = true

theorem rowsG {g : PV Y_impl_Group} (h : goodG g = true) : ∀ r ∈ (g.2.2.1 : RW), RowG r := by
  unfold goodG inI at h
  simp only [Bool.and_eq_true, decide_eq_true_eq, Bool.not_eq_true'] at h
  obtain ⟨_, _, ⟨h1, h2⟩, h3, _⟩ := h
  refine fun r hr => ?_
  obtain ⟨k, hk, rfl⟩ := List.mem_iff_getElem.1 hr
  have hb : badRow g.2.2.1 k = false := by
    cases hb : badRow g.2.2.1 k with
    | false => rfl
    | true => rw [anyN_iff.2 ⟨k, hk, hb⟩] at h3; cases h3
  unfold badRow inI kd at hb
  rw [getD_of hk] at hb
  simp only [Bool.or_eq_false_iff, Bool.not_eq_false', Bool.and_eq_true, decide_eq_true_eq] at hb
  obtain ⟨⟨b1, b2⟩, b3, _⟩ := hb
  have e : ∀ z : Int, z ≥ 1 → z ≤ 3 → z = 1 ∨ z = 2 ∨ z = 3 := fun z _ _ => by omega
  exact ⟨e _ b1 b2, b3⟩

theorem sign_form {k : Int} (h : k = 1 ∨ k = 2 ∨ k = 3) : ∃ c : UInt8, signT k = [c] ∧ kindQ c = k ∧ c ≠ 10 ∧ c ≠ 92 ∧ kindQ c ≠ 0 := by
  rcases h with rfl | rfl | rfl
  · exact ⟨32, by decide, by decide, by decide, by decide, by decide⟩
  · exact ⟨45, by decide, by decide, by decide, by decide, by decide⟩
  · exact ⟨43, by decide, by decide, by decide, by decide, by decide⟩

theorem noneL_isL : isL noneL := ⟨[92, 32, 110, 111, 110, 101], rfl, by decide⟩
theorem rowL_isL {r : PV Y_impl_Row} (h : RowG r) : ∀ l ∈ rowL r, isL l := by
  obtain ⟨c, e, _, hc, _⟩ := sign_form h.1
  intro l hl
  unfold rowL at hl
  rcases (lineP_form h.2).2 with ⟨⟨t, ht, h10⟩, he⟩ | ⟨h10, he⟩
  · rw [he, cond_true, e] at hl
    obtain rfl := List.mem_singleton.1 hl
    refine ⟨c :: t, by rw [ht]; rfl, ?_⟩
    simp only [List.mem_cons, not_or]
    exact ⟨fun q => hc q.symm, h10⟩
  · rw [he, cond_false, e] at hl
    rcases List.mem_cons.1 hl with rfl | hl
    · refine ⟨c :: r.2.1, rfl, ?_⟩
      simp only [List.mem_cons, not_or]
      exact ⟨fun q => hc q.symm, h10⟩
    · obtain rfl := List.mem_singleton.1 hl
      exact noneL_isL
theorem rowL_flat (r : PV Y_impl_Row) : (rowL r).flatten = rowT r := by
  unfold rowL rowT shownT
  cases endP r.2.1
  · rw [cond_false, cond_false]; unfold none10; simp
  · rw [cond_true, cond_true]; simp

def NN (r : TX) : Prop := r.head? ≠ some noneL
theorem rowL_NN {r : PV Y_impl_Row} (h : RowG r) (q : TX) : NN (rowL r ++ q) := by
  obtain ⟨c, e, _, _, h92, _⟩ := sign_form h.1
  unfold rowL NN
  cases endP r.2.1
  · rw [cond_false, e]
    intro hh
    have := Option.some.inj hh
    simp at this
    exact h92 this.1
  · rw [cond_true, e]
    intro hh
    have := Option.some.inj hh
    simp at this
    exact h92 this.1

theorem rows_tell : ∀ (rows : RW) (fu : Nat) (r : TX) (m k : Int), (∀ x ∈ rows, RowG x) → NN r → rows.length ≤ fu → ((sideL rows 3).length : Int) = m → ((sideL rows 2).length : Int) = k → rowsQ fu (rows.flatMap rowL ++ r) m k = some (rows, r)
  | [], fu, r, m, k, _, _, _, hm, hk => by
    obtain rfl : m = 0 := by rw [← hm]; rfl
    obtain rfl : k = 0 := by rw [← hk]; rfl
    exact rowsQ_zero fu r
  | x :: rows, fu, r, m, k, hg, hr, hfu, hm, hk => by
    have hx := hg x (List.mem_cons_self ..)
    obtain ⟨c, e, hkc, hc, _, hk0⟩ := sign_form hx.1
    obtain ⟨fu, rfl⟩ : ∃ f', fu = f' + 1 := ⟨fu - 1, by simp at hfu; omega⟩
    have hnn : NN (rows.flatMap rowL ++ r) := by
      cases rows with
      | nil => exact hr
      | cons y rows => rw [List.flatMap_cons, List.append_assoc]; exact rowL_NN (hg y (by simp)) _
    rw [side_cons, ← hkc, kind_ne3] at hm
    rw [side_cons, ← hkc, kind_ne2] at hk
    have hbd := mN_bd c
    have hside : ¬ (m = 0 ∧ k = 0) := by
      rintro ⟨rfl, rfl⟩
      have hmd : mN c = (if kindQ c = 3 then 0 else 1) := rfl
      have hkd : kN c = (if kindQ c = 2 then 0 else 1) := rfl
      rw [hmd] at hm
      rw [hkd] at hk
      by_cases h3 : kindQ c = 3
      · rw [if_neg (by omega)] at hk; omega
      · rw [if_neg h3] at hm; omega
    have ih := rows_tell rows fu r (m - mN c) (k - kN c) (fun y hy => hg y (List.mem_cons_of_mem _ hy)) hr (by simp at hfu; omega) (by omega) (by omega)
    have hmk : mkRow (kindQ c) x.2.1 = x := by
      obtain ⟨x1, x2, u⟩ := x
      show (kindQ c, (x2, ())) = _
      rw [hkc]
    rw [List.flatMap_cons, List.append_assoc]
    rcases (lineP_form hx.2).2 with ⟨_, he⟩ | ⟨h10, he⟩
    · have : rowL x = [c :: x.2.1] := by unfold rowL; rw [he, cond_true, e]; rfl
      rw [this, List.singleton_append, rowsQ_step hside (by omega), if_neg hk0]
      have hq : restQ (rows.flatMap rowL ++ r) = rows.flatMap rowL ++ r := by unfold restQ; rw [if_neg hnn]
      have hl : lineQ x.2.1 (rows.flatMap rowL ++ r) = x.2.1 := by unfold lineQ; rw [if_neg hnn]
      rw [hq, hl, ih, hmk]; rfl
    · have : rowL x = [c :: (x.2.1 ++ [10]), noneL] := by unfold rowL; rw [he, cond_false, e]; rfl
      rw [this, List.cons_append, List.singleton_append, rowsQ_step hside (by omega), if_neg hk0]
      have hq : restQ (noneL :: (rows.flatMap rowL ++ r)) = rows.flatMap rowL ++ r := by unfold restQ; rw [if_pos (show (noneL :: (rows.flatMap rowL ++ r)).head? = some noneL from rfl)]; rfl
      have hl : lineQ (x.2.1 ++ [10]) (noneL :: (rows.flatMap rowL ++ r)) = x.2.1 := by
        unfold lineQ
        rw [if_pos (show (noneL :: (rows.flatMap rowL ++ r)).head? = some noneL from rfl)]
        unfold plainB
        rw [endP_app (by simp), show endP [10] = true from by decide, cond_true, List.length_append, List.length_singleton, Nat.add_sub_cancel, List.take_left' rfl]
      rw [hq, hl, ih, hmk]; rfl

def groupL (x : PV Y_impl_Group) : TX := headT x :: (x.2.2.1 : RW).flatMap rowL
theorem flat_flatMap {α : Type} (f : α → TX) : ∀ l : List α, (l.flatMap f).flatten = l.flatMap fun x => (f x).flatten
  | [] => rfl
  | x :: l => by rw [List.flatMap_cons, List.flatMap_cons, List.flatten_append, flat_flatMap f l]
theorem groupL_flat (x : PV Y_impl_Group) : (groupL x).flatten = groupT x := by
  unfold groupL groupT rowsT
  rw [List.flatten_cons, flat_flatMap]
  congr 1
  exact congrArg (fun f => List.flatMap f x.2.2.1) (funext rowL_flat)
theorem head_tells {x : PV Y_impl_Group} (h : goodG x = true) : HeadIs (headT x) (countT x.1.toNat (sideL x.2.2.1 3).length) (countT x.2.1.toNat (sideL x.2.2.1 2).length) x.1 ((sideL x.2.2.1 3).length : Int) x.2.1 ((sideL x.2.2.1 2).length : Int) := by
  obtain ⟨⟨a, ea, ha⟩, ⟨b, eb, hb⟩, h3, h4⟩ := group_facts h
  refine ⟨headT_hd x, ?_, ?_⟩
  · rw [ea, toNat_cast, countT_eq]; exact countP_T ha (by omega)
  · rw [eb, toNat_cast, countT_eq]; exact countP_T hb (by omega)
theorem head_NN (x : PV Y_impl_Group) (q : TX) : NN (groupL x ++ q) := by
  unfold groupL NN
  intro hh
  have := Option.some.inj hh
  rw [headT_hd] at this
  unfold hdP at this
  simp at this

theorem groups_tell : ∀ (gs : GR), (∀ x ∈ gs, goodG x = true) → GQ (gs.flatMap groupL) gs
  | [], _ => .nil
  | x :: gs, h => by
    have hx := h x (List.mem_cons_self ..)
    have ih := groups_tell gs fun y hy => h y (List.mem_cons_of_mem _ hy)
    have hnn : NN (gs.flatMap groupL) := by
      cases gs with
      | nil => intro hh; cases hh
      | cons y gs => rw [List.flatMap_cons]; exact head_NN y _
    rw [List.flatMap_cons]
    have hq := rows_tell x.2.2.1 ((x.2.2.1 : RW).flatMap rowL ++ gs.flatMap groupL).length (gs.flatMap groupL) _ _ (rowsG hx) hnn (by
      have : ∀ rows : RW, rows.length ≤ (rows.flatMap rowL).length := by
        intro rows
        induction rows with
        | nil => exact Nat.le_refl _
        | cons y rows ih =>
          rw [List.flatMap_cons, List.length_append, List.length_cons]
          have : 1 ≤ (rowL y).length := by unfold rowL; cases endP y.2.1 <;> simp
          omega
      have := this x.2.2.1
      rw [List.length_append]; omega) rfl rfl
    exact GQ.cons (head_tells hx) hq ih

/-- The lines of printed good groups. -/
theorem text_tells {gs : GR} (hg : goodGs gs = true) : GQ (cutP (textG gs)) gs ∧ ∀ l ∈ cutP (textG gs), isL l := by
  have hx : ∀ x ∈ gs, goodG x = true := fun x hx => by
    obtain ⟨i, hi, rfl⟩ := List.mem_iff_getElem.1 hx
    exact (good_mem' hg hi).1
  have hL : ∀ l ∈ gs.flatMap groupL, isL l := by
    intro l hl
    obtain ⟨x, hxm, hl⟩ := List.mem_flatMap.1 hl
    rcases List.mem_cons.1 hl with rfl | hl
    · exact headT_isL x
    · obtain ⟨r, hr, hl⟩ := List.mem_flatMap.1 hl
      exact rowL_isL (rowsG (hx x hxm) r hr) l hl
  have ht : textG gs = (gs.flatMap groupL).flatten := by
    unfold textG
    rw [flat_flatMap]
    exact congrArg (fun f => List.flatMap f gs) (funext fun x => (groupL_flat x).symm)
  rw [ht, cutP_lines hL]
  exact ⟨groups_tell gs hx, hL⟩

/-- What is printed is read back. -/
theorem read_back {gs : GR} (hg : goodGs gs = true) (hl : (textG gs).length ≤ 3000) : f_I_ReadUnified (textG gs) = some ((gs, 0, true, ()), ()) := by
  obtain ⟨h1, h2⟩ := text_tells hg
  obtain ⟨res, e, h⟩ := read_I (textG gs)
  rcases h with ⟨gs', _, a2, _, _, rfl⟩ | ⟨a1, _⟩
  · rw [e, GQ_uniq h1 a2]
  · exact absurd trivial fun _ => a1 gs hl h1 h2 hg
end R
end

section
/- What is written anew is never longer than what was read. -/
open Go Go.Dn
namespace R
set_option linter.unusedVariables false

theorem dec_canon {s : List UInt8} (h : canon s = true) : dec (dval s) = s := by
  obtain ⟨_, h2, h3, _⟩ := canon_at h
  exact dec_dval _ rfl h2 h3

theorem rngP_some {n m a b : Int} (h : rngP n m = some (a, b)) : a = n ∧ b = m ∧ 0 ≤ n ∧ 0 ≤ m := by
  unfold rngP at h
  split at h
  · rename_i hc
    obtain ⟨rfl, rfl⟩ := Prod.mk.inj (Option.some.inj h)
    exact ⟨rfl, rfl, hc.1, hc.2.2.1⟩
  · cases h

theorem count_short {o : List UInt8} {a m : Int} (h : countP o = some (a, m)) : (countT a.toNat m.toNat).length ≤ o.length := by
  unfold countP at h
  by_cases hm : (44 : UInt8) ∈ o
  · obtain ⟨x, y, rfl, hx⟩ := first_of hm
    rw [comma_at y hx] at h
    dsimp only at h
    split at h
    · rename_i hc
      obtain ⟨ea, em, h0, h1⟩ := rngP_some h
      have hn : numb a.toNat m.toNat = dval x := by
        unfold numb
        by_cases hd : 0 < dval y
        · rw [if_pos hd] at ea h0
          rw [if_pos (by omega)]; omega
        · rw [if_neg hd] at ea
          rw [if_neg (by omega)]; omega
      have hmm : m.toNat = dval y := by omega
      unfold countT
      rw [hn, dec_canon hc.1]
      split
      · rw [List.length_append, List.length_cons]; omega
      · rw [hmm, dec_canon hc.2]; simp
    · cases h
  · rw [comma_no hm] at h
    dsimp only at h
    split at h
    · rename_i hc
      obtain ⟨ea, em, h0, h1⟩ := rngP_some h
      have hn : numb a.toNat m.toNat = dval o := by
        unfold numb
        rw [if_pos (by omega)]; omega
      unfold countT
      rw [hn, dec_canon hc, if_pos (by omega)]
      exact Nat.le_refl _
    · cases h

theorem head_short {l o f : List UInt8} {a m b k : Int} (h : HeadIs l o f a m b k) : (hdC a m b k).length ≤ l.length := by
  have h1 := count_short h.2.1
  have h2 := count_short h.2.2
  rw [h.1]
  unfold hdC hdP
  simp only [List.length_append, List.length_cons, List.length_nil]
  omega

theorem GQ_short : ∀ {ls : TX} {gs : GR}, GQ ls gs → (∀ l ∈ ls, isL l) → (textG gs).length ≤ ls.flatten.length := by
  intro ls gs h
  induction h with
  | nil => intro _; exact Nat.le_refl _
  | @cons l o f a m b k rest r rs gs hd hr hg ih =>
    intro hL
    obtain ⟨q1, u, q2⟩ := rowsQ_text _ (fun x hx => hL x (List.mem_cons_of_mem _ hx)) hr
    have h1 := head_short hd
    have h2 := ih fun x hx => hL x (List.mem_cons_of_mem _ (by rw [q2]; simp [hx]))
    have e : textG ((a, (b, (rs, ()))) :: gs) = (hdC a m b k ++ rowsT rs) ++ textG gs := by
      unfold textG
      rw [List.flatMap_cons, ← hd_same (rowsQ_side _ hr)]
      rfl
    rw [e, List.flatten_cons, q1]
    simp only [List.length_append] at *
    omega

/-- What is read is written in no more bytes, and read back. -/
theorem read_again {s : List UInt8} {gs : GR} (h : f_I_ReadUnified s = some ((gs, 0, true, ()), ())) : goodGs gs = true ∧ s.length ≤ 3000 ∧ (textG gs).length ≤ s.length ∧ f_I_ReadUnified (textG gs) = some ((gs, 0, true, ()), ()) := by
  obtain ⟨res, e, hc⟩ := read_I s
  rw [h] at e
  rcases hc with ⟨gs', a1, a2, a3, a4, rfl⟩ | ⟨_, rfl⟩
  · have e2 := congrArg Prod.fst (Option.some.inj e)
    have e3 : gs = gs' := congrArg Prod.fst e2
    subst e3
    have h1 := GQ_short a2 a3
    rw [cutP_flat] at h1
    exact ⟨a4, a1, h1, read_back a4 (by omega)⟩
  · have e2 := congrArg Prod.fst (Option.some.inj e)
    have e3 : (true : Bool) = false := congrArg (fun z => z.2.2.1) e2
    cases e3
end R
end
