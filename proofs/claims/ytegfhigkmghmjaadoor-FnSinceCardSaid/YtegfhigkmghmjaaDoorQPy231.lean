/- Parts of the proof: PbZ Py1 Py8 Py9 Py10 Py11 Py12 Py13 Py2 Py14 Py15 Py16 Py18 Py17 Py20 Py21 Py22. -/
import Derived.Test.YtegfhigkmghmjaaDoorPaZ
import Derived.Test.YtegfhigkmghmjaaDoorL3
import Derived.Lib.ItoaLen
section
/- Plain laws of the helpers. -/
open Go Go.Dn
namespace R
set_option linter.unusedVariables false

end R
end

section
/- Lines: both sides' tests of lines answer the same. -/
open Go Go.Dn
namespace R
set_option linter.unusedVariables false

theorem in_I (a b c : Int) : f_I_in a b c = some ((decide (a ≥ b) && decide (a ≤ c), ()), ()) := by
  unfold f_I_in
  cases decide (a ≥ b) <;> rfl
theorem in_S (a b c : Int) : f_S_l1In a b c = some ((decide (a ≥ b) && decide (a ≤ c), ()), ()) := by
  unfold f_S_l1In
  cases decide (a ≥ b) <;> rfl

def inI (a b c : Int) : Bool := decide (a ≥ b) && decide (a ≤ c)
def hasEnd (s : List UInt8) : Bool := (s.take (s.length - 1)).contains 10
def lineP (s : List UInt8) : Bool := inI (s.length : Int) 1 30 && !hasEnd s
def endP (s : List UInt8) : Bool := s.drop (s.length - 1) == [10]

theorem line_len {s : List UInt8} (h : lineP s = true) : 1 ≤ s.length ∧ s.length ≤ 30 := by
  unfold lineP inI at h
  simp only [Bool.and_eq_true, decide_eq_true_eq] at h
  omega

theorem line_S (s : List UInt8) (hs : s.length ≤ 4611686018427387904) : f_S_l1Line s = some ((lineP s, ()), ()) := by
  unfold f_S_l1Line
  have hw : IntKind.wrap .i64 ((s.length : Int) - 1) = (s.length : Int) - 1 := wrap64 (by omega) (by omega)
  rw [show w_S_l1Line_2 (s, 0, ()) = _ from fix_anyN (B := fun d => b_S_l1Line_2 d.1 d.2.1) (s.length - 1) (fun i => s.getD i 0 == 10) (fun i => (s, (i : Int), ())) (fun _ => .inr (false, ())) (.inl (s, ()))
    (fun i hi hq => by
      show b_S_l1Line_2 s i = _
      unfold b_S_l1Line_2
      rw [hw, decide_eq_true (by omega : (i : Int) < (s.length : Int) - 1), cond_true, inB_lt (by omega), cond_true, toNat_cast]
      rw [show ((((s.getD i 0 : UInt8).toNat : Nat) : Int) == 10) = (s.getD i 0 == 10) from byte_eq (n := 10) (by omega), hq, cond_false, wrap64 (by omega) (by omega)]
      simp)
    (fun i hi hq => by
      show b_S_l1Line_2 s i = _
      unfold b_S_l1Line_2
      rw [hw, decide_eq_true (by omega : (i : Int) < (s.length : Int) - 1), cond_true, inB_lt (by omega), cond_true, toNat_cast]
      rw [show ((((s.getD i 0 : UInt8).toNat : Nat) : Int) == 10) = (s.getD i 0 == 10) from byte_eq (n := 10) (by omega), hq, cond_true])
    (by
      show b_S_l1Line_2 s ((s.length - 1 : Nat) : Int) = _
      unfold b_S_l1Line_2
      rw [hw, decide_eq_false (by omega : ¬ (((s.length - 1 : Nat) : Int) < (s.length : Int) - 1)), cond_false])]
  rw [contains_take (by omega)]
  unfold lineP hasEnd
  cases (s.take (s.length - 1)).contains 10
  · simp only [Bool.false_eq_true, if_false, Option.bind_some, in_S]; simp [inI]
  · simp

theorem ends_S (s : List UInt8) (h1 : 1 ≤ s.length) (hs : s.length ≤ 4611686018427387904) : f_S_l1Ends s = some ((endP s, ()), ()) := by
  unfold f_S_l1Ends
  have hw : IntKind.wrap .i64 ((s.length : Int) - 1) = ((s.length - 1 : Nat) : Int) := by rw [wrap64 (by omega) (by omega)]; omega
  rw [hw, inB_lt (by omega), cond_true, toNat_cast]
  rw [show ((((s.getD (s.length - 1) 0 : UInt8).toNat : Nat) : Int) == 10) = (s.getD (s.length - 1) 0 == 10) from byte_eq (n := 10) (by omega)]
  unfold endP
  rw [List.drop_eq_getElem_cons (by omega : s.length - 1 < s.length), List.drop_of_length_le (by omega), getD_of (by omega)]
  simp

theorem line_I (s : List UInt8) (hs : s.length ≤ 4611686018427387904) : f_I_isLine s = some ((lineP s, ()), ()) := by
  unfold f_I_isLine
  rw [in_I, Option.bind_some]
  dsimp only
  unfold lineP
  cases h : inI (s.length : Int) 1 30
  · unfold inI at h; rw [h]; rfl
  · have h' := h
    unfold inI at h'
    rw [h', cond_true]
    simp only [Bool.and_eq_true, decide_eq_true_eq] at h'
    rw [wrap64 (by omega) (by omega)]
    rw [show cutB 0 ((s.length : Int) - 1) s.length = true from by unfold cutB; simp; omega, cond_true]
    unfold f_strings_Contains containsF
    rw [Option.bind_some]
    unfold hasEnd cutL
    rw [show ((s.length : Int) - 1).toNat = s.length - 1 from by omega]
    simp

theorem ends_I (s : List UInt8) (hs : s.length ≤ 4611686018427387904) : f_I_isEnded s = some ((endP s, ()), ()) := by
  unfold f_I_isEnded f_strings_HasSuffix f_internal_stringslite_HasSuffix endP
  by_cases h : 1 ≤ s.length
  · rw [decide_eq_true (by simp; omega : (s.length : Int) ≥ (([10] : List UInt8).length : Int)), cond_true]
    have hw : IntKind.wrap .i64 ((s.length : Int) - (([10] : List UInt8).length : Int)) = ((s.length - 1 : Nat) : Int) := by
      rw [show ((([10] : List UInt8).length : Nat) : Int) = 1 from rfl, wrap64 (by omega) (by omega)]; omega
    rw [hw, show cutB ((s.length - 1 : Nat) : Int) (s.length : Int) s.length = true from by unfold cutB; simp, cond_true]
    unfold cutL
    simp
  · have : s = [] := List.eq_nil_of_length_eq_zero (by omega)
    subst this
    rfl

/-- Lines, each by itself, and not too many. -/
def linesP (l : List (List UInt8)) : Bool := decide (l.length ≤ 40) && !(l.any fun s => !lineP s)
def endsP (l : List (List UInt8)) : Bool := !(anyN l.length fun k => decide ((k : Int) < (l.length : Int) - 1) && !(endP (l.getD k [])))
def goodP (l : List (List UInt8)) : Bool := linesP l && endsP l

def Sm (l : List (List UInt8)) : Prop := l.length ≤ 4611686018427387904 ∧ ∀ s ∈ l, s.length ≤ 4611686018427387904

theorem Sm.len {l : List (List UInt8)} (h : Sm l) : l.length ≤ 4611686018427387904 := h.1
theorem Sm.mem {l : List (List UInt8)} (h : Sm l) {i : Nat} (hi : i < l.length) : (l[i]).length ≤ 4611686018427387904 := h.2 _ (List.getElem_mem hi)
theorem Sm.of {l : List (List UInt8)} {n : Nat} (h : tot (.slice 9 .str) l ≤ n) (hn : n ≤ 4611686018427387904) : Sm l := by
  refine ⟨?_, fun s hs => ?_⟩
  · have h' := h
    rw [tot_slice] at h'
    omega
  · obtain ⟨i, hi, rfl⟩ := List.mem_iff_getElem.1 hs
    have := Nat.le_trans (tot_mem (e := 9) (t := .str) (xs := l) hi) h
    rw [tot_str] at this
    omega

theorem areLines_I (t0 : List (List UInt8)) (hs : Sm t0) : f_I_areLines t0 = some ((linesP t0, ()), ()) := by
  unfold f_I_areLines linesP
  by_cases hl : t0.length ≤ 40
  · rw [decide_eq_true (by omega : (t0.length : Int) ≤ 40), cond_true, decide_eq_true hl, Bool.true_and]
    rw [show w_I_areLines_184_2 (t0, false, t0, (t0.length : Int), true, true, t0, t0, false, t0, t0, (t0.length : Int), 0, ()) = _ from
      fix_any (B := fun d => b_I_areLines_184_2 d.1 d.2.1 d.2.2.1 d.2.2.2.1 d.2.2.2.2.1 d.2.2.2.2.2.1 d.2.2.2.2.2.2.1 d.2.2.2.2.2.2.2.1 d.2.2.2.2.2.2.2.2.1 d.2.2.2.2.2.2.2.2.2.1 d.2.2.2.2.2.2.2.2.2.2.1 d.2.2.2.2.2.2.2.2.2.2.2.1 d.2.2.2.2.2.2.2.2.2.2.2.2.1) t0 (fun s => !lineP s)
      (fun i => (t0, false, t0, (t0.length : Int), true, true, t0, t0, false, t0, t0, (t0.length : Int), (i : Int), ())) (fun i => .inr (t0, false, t0, (t0.length : Int), true, true, t0, t0, false, t0, (i : Int), ())) (.inl (t0, false, t0, (t0.length : Int), true, true, t0, t0, false, t0, ()))
      (fun i hi hq => by
        show b_I_areLines_184_2 _ _ _ _ _ _ _ _ _ _ t0 t0.length i = _
        unfold b_I_areLines_184_2 f_I_areLines_1
        rw [decide_eq_true (by omega : (i : Int) < (t0.length : Int)), cond_true, inB_lt hi, cond_true, toNat_cast, getD_of hi, line_I _ (hs.mem hi), Option.bind_some, Option.bind_some]
        dsimp only
        rw [hq, cond_false, wrap64 (by omega) (by omega)]; rfl)
      (fun i hi hq => by
        show b_I_areLines_184_2 _ _ _ _ _ _ _ _ _ _ t0 t0.length i = _
        unfold b_I_areLines_184_2 f_I_areLines_1
        rw [decide_eq_true (by omega : (i : Int) < (t0.length : Int)), cond_true, inB_lt hi, cond_true, toNat_cast, getD_of hi, line_I _ (hs.mem hi), Option.bind_some, Option.bind_some]
        dsimp only
        rw [hq, cond_true])
      (by
        show b_I_areLines_184_2 _ _ _ _ _ _ _ _ _ _ t0 t0.length t0.length = _
        unfold b_I_areLines_184_2
        rw [decide_eq_false (Int.lt_irrefl _), cond_false])]
    cases h : t0.any fun s => !lineP s
    · rfl
    · simp
  · rw [decide_eq_false (by omega : ¬ (t0.length : Int) ≤ 40), cond_false, decide_eq_false hl]; rfl

theorem goodLines_I (t0 : List (List UInt8)) (hs : Sm t0) : f_I_goodLines t0 = some ((goodP t0, ()), ()) := by
  have hl := hs.len
  unfold f_I_goodLines goodP
  rw [areLines_I t0 hs, Option.bind_some]
  dsimp only
  cases linesP t0
  · rfl
  · rw [Bool.not_true, cond_false]
    have hw : IntKind.wrap .i64 ((t0.length : Int) - 1) = (t0.length : Int) - 1 := wrap64 (by omega) (by omega)
    have hr : ∀ i, i < t0.length → ((bif decide ((i : Int) < (t0.length : Int) - 1) then (f_I_isEnded (t0.getD i [])).bind fun r7 => some (t0, t0, (t0.length : Int), (i : Int), !r7.1.1, ()) else some (t0, t0, (t0.length : Int), (i : Int), false, ())) : Option (PV S_string × PV S_string × Int × Int × Bool × Unit)) =
        some (t0, t0, (t0.length : Int), (i : Int), decide ((i : Int) < (t0.length : Int) - 1) && !(endP (t0.getD i [])), ()) := by
      intro i hi
      cases decide ((i : Int) < (t0.length : Int) - 1)
      · rfl
      · rw [cond_true, getD_of hi, ends_I _ (hs.mem hi)]; rfl
    rw [show w_I_goodLines_4 (t0, t0, (t0.length : Int), 0, ()) = _ from fix_anyN (B := fun d => b_I_goodLines_4 d.1 d.2.1 d.2.2.1 d.2.2.2.1) t0.length (fun k => decide ((k : Int) < (t0.length : Int) - 1) && !(endP (t0.getD k [])))
      (fun i => (t0, t0, (t0.length : Int), (i : Int), ())) (fun _ => .inr (false, ())) (.inl ())
      (fun i hi hq => by
        show b_I_goodLines_4 t0 t0 t0.length i = _
        unfold b_I_goodLines_4
        rw [decide_eq_true (by omega : (i : Int) < (t0.length : Int)), cond_true, inB_lt hi, cond_true, toNat_cast, hw, hr i hi, hq, Option.bind_some]
        dsimp only
        rw [cond_false, wrap64 (by omega) (by omega)]; rfl)
      (fun i hi hq => by
        show b_I_goodLines_4 t0 t0 t0.length i = _
        unfold b_I_goodLines_4
        rw [decide_eq_true (by omega : (i : Int) < (t0.length : Int)), cond_true, inB_lt hi, cond_true, toNat_cast, hw, hr i hi, hq, Option.bind_some]
        rfl)
      (by
        show b_I_goodLines_4 t0 t0 t0.length t0.length = _
        unfold b_I_goodLines_4
        rw [decide_eq_false (Int.lt_irrefl _), cond_false])]
    unfold endsP
    cases anyN t0.length fun k => decide ((k : Int) < (t0.length : Int) - 1) && !(endP (t0.getD k [])) <;> rfl

theorem l1Good_S (t0 : List (List UInt8)) (hs : Sm t0) : f_S_l1Good t0 = some ((goodP t0, ()), ()) := by
  have hl := hs.len
  unfold f_S_l1Good
  have hw : IntKind.wrap .i64 ((t0.length : Int) - 1) = (t0.length : Int) - 1 := wrap64 (by omega) (by omega)
  have hr : ∀ i, i < t0.length → (((f_S_l1Line (t0.getD i [])).bind fun r4 => bif !r4.1.1 then some (t0, t0, (t0.length : Int), (i : Int), true, ()) else
      bif decide ((i : Int) < (t0.length : Int) - 1) then (f_S_l1Ends (t0.getD i [])).bind fun r5 => some (t0, t0, (t0.length : Int), (i : Int), !r5.1.1, ()) else some (t0, t0, (t0.length : Int), (i : Int), false, ())) : Option (PV S_string × PV S_string × Int × Int × Bool × Unit)) =
      some (t0, t0, (t0.length : Int), (i : Int), !(lineP (t0.getD i [])) || (decide ((i : Int) < (t0.length : Int) - 1) && !(endP (t0.getD i []))), ()) := by
    intro i hi
    rw [getD_of hi, line_S _ (hs.mem hi), Option.bind_some]
    dsimp only
    cases hL : lineP t0[i]
    · rfl
    · rw [Bool.not_true, cond_false, Bool.false_or]
      cases decide ((i : Int) < (t0.length : Int) - 1)
      · rfl
      · rw [cond_true, ends_S _ (line_len hL).1 (hs.mem hi)]; rfl
  rw [show w_S_l1Good_2 (t0, t0, (t0.length : Int), 0, ()) = _ from fix_anyN (B := fun d => b_S_l1Good_2 d.1 d.2.1 d.2.2.1 d.2.2.2.1) t0.length (fun k => !(lineP (t0.getD k [])) || (decide ((k : Int) < (t0.length : Int) - 1) && !(endP (t0.getD k []))))
      (fun i => (t0, t0, (t0.length : Int), (i : Int), ())) (fun _ => .inr (false, ())) (.inl (t0, ()))
      (fun i hi hq => by
        show b_S_l1Good_2 t0 t0 t0.length i = _
        unfold b_S_l1Good_2
        rw [decide_eq_true (by omega : (i : Int) < (t0.length : Int)), cond_true, inB_lt hi, cond_true, toNat_cast, hw, hr i hi, hq, Option.bind_some]
        dsimp only
        rw [cond_false, wrap64 (by omega) (by omega)]; rfl)
      (fun i hi hq => by
        show b_S_l1Good_2 t0 t0 t0.length i = _
        unfold b_S_l1Good_2
        rw [decide_eq_true (by omega : (i : Int) < (t0.length : Int)), cond_true, inB_lt hi, cond_true, toNat_cast, hw, hr i hi, hq, Option.bind_some]
        rfl)
      (by
        show b_S_l1Good_2 t0 t0 t0.length t0.length = _
        unfold b_S_l1Good_2
        rw [decide_eq_false (Int.lt_irrefl _), cond_false])]
  rw [anyN_or, show (anyN t0.length fun k => !(lineP (t0.getD k []))) = t0.any fun s => !lineP s from anyN_list (f := fun s => !lineP s)]
  unfold goodP linesP endsP
  cases t0.any fun s => !lineP s
  · cases anyN t0.length fun k => decide ((k : Int) < (t0.length : Int) - 1) && !(endP (t0.getD k []))
    · simp; omega
    · simp
  · simp
end R
end

section
/- The table of what two texts share: both sides make the same. -/
open Go Go.Dn
namespace R
set_option linter.unusedVariables false

abbrev TXT := List (List UInt8)
def rowP (a b : TXT) (i m : Nat) : List Int := mkT (b.length + 1) fun j => if m ≤ j then (T a b i j : Int) else 0
def rowT (a b : TXT) (i : Nat) : List Int := mkT (b.length + 1) fun j => (T a b i j : Int)
def tabT (a b : TXT) : List (List Int) := mkT (a.length + 1) (rowT a b)
/-- Row i told from m on, the rows behind it all, the ones ahead as f says. -/
def tabP (f : Nat → List Int) (a b : TXT) (i m : Nat) : List (List Int) := mkT (a.length + 1) fun r => if r = i then rowP a b i m else if i < r then rowT a b r else f r

theorem rowP_0 (a b : TXT) (i : Nat) : rowP a b i 0 = rowT a b i := mkT_ext fun j _ => if_pos (Nat.zero_le j)
theorem rowP_end (a b : TXT) (i : Nat) : rowP a b i b.length = mkT (b.length + 1) fun _ => (0 : Int) := mkT_ext fun j hj => by
  split
  · rw [T_end_r (by omega)]; rfl
  · rfl
theorem rowP_set {a b : TXT} {i m : Nat} : (rowP a b i (m + 1)).set m (T a b i m : Int) = rowP a b i m := by
  unfold rowP
  rw [mkT_set]
  refine mkT_ext fun j hj => ?_
  by_cases h : j = m
  · subst h; rw [if_pos rfl, if_pos (Nat.le_refl _)]
  · rw [if_neg h]
    by_cases h2 : m ≤ j
    · rw [if_pos (by omega), if_pos h2]
    · rw [if_neg (by omega), if_neg h2]
theorem tabP_set {f : Nat → List Int} {a b : TXT} {i m : Nat} {v : List Int} (hv : v = rowP a b i m) {m' : Nat} : (tabP f a b i m').set i v = tabP f a b i m := by
  subst hv
  unfold tabP
  rw [mkT_set]
  refine mkT_ext fun r hr => ?_
  by_cases h : r = i
  · rw [if_pos h, if_pos h]
  · rw [if_neg h, if_neg h, if_neg h]
theorem tabP_len {f : Nat → List Int} {a b : TXT} {i m : Nat} : (tabP f a b i m).length = a.length + 1 := mkT_len
theorem tabP_at {f : Nat → List Int} {a b : TXT} {i m : Nat} (hi : i ≤ a.length) {d : List Int} : (tabP f a b i m).getD i d = rowP a b i m := by
  unfold tabP
  rw [mkT_get (by omega), if_pos rfl]
theorem tabP_next {f : Nat → List Int} {a b : TXT} {i m : Nat} (hi : i < a.length) {d : List Int} : (tabP f a b i m).getD (i + 1) d = rowT a b (i + 1) := by
  unfold tabP
  rw [mkT_get (by omega), if_neg (by omega), if_pos (by omega)]
theorem rowP_len {a b : TXT} {i m : Nat} : (rowP a b i m).length = b.length + 1 := mkT_len
theorem rowT_len {a b : TXT} {i : Nat} : (rowT a b i).length = b.length + 1 := mkT_len
theorem rowT_get {a b : TXT} {i j : Nat} (hj : j ≤ b.length) {d : Int} : (rowT a b i).getD j d = (T a b i j : Int) := mkT_get (by omega)
theorem rowP_get {a b : TXT} {i m j : Nat} (hj : j ≤ b.length) (hm : m ≤ j) {d : Int} : (rowP a b i m).getD j d = (T a b i j : Int) := by
  unfold rowP
  rw [mkT_get (by omega), if_pos hm]

theorem T_small {a b : TXT} (h : a.length ≤ 1048576) (i j : Nat) : T a b i j ≤ 1048576 := Nat.le_trans T_le (by omega)

theorem inner_I {a b : TXT} {f : Nat → List Int} (ha : a.length ≤ 1048576) (hb : b.length ≤ 1048576) {i : Nat} (hi : i < a.length) :
    w_I_common_8 (a, b, tabP f a b i b.length, (i : Int), IntKind.wrap .i64 ((b.length : Int) - 1), ()) = some (a, b, tabP f a b i 0, (i : Int), ()) := by
  have := fix_down (B := fun d => b_I_common_8 d.1 d.2.1 d.2.2.1 d.2.2.2.1 d.2.2.2.2.1) (fun m => (a, b, tabP f a b i m, (i : Int), (m : Int) - 1, ())) (r := (a, b, tabP f a b i 0, (i : Int), ()))
    (by
      show b_I_common_8 a b (tabP f a b i 0) i (((0 : Nat) : Int) - 1) = _
      unfold b_I_common_8
      rw [decide_eq_false (by omega : ¬ ((((0 : Nat) : Int) - 1) ≥ 0)), cond_false]) b.length
    (fun m hm => by
      show b_I_common_8 a b (tabP f a b i (m + 1)) i (((m + 1 : Nat) : Int) - 1) = _
      rw [show ((m + 1 : Nat) : Int) - 1 = (m : Int) from by omega]
      unfold b_I_common_8
      have w1 : IntKind.wrap .i64 ((i : Int) + 1) = ((i + 1 : Nat) : Int) := by rw [wrap64 (by omega) (by omega)]; omega
      have w2 : IntKind.wrap .i64 ((m : Int) + 1) = ((m + 1 : Nat) : Int) := by rw [wrap64 (by omega) (by omega)]; omega
      have t1 := T_small (b := b) ha (i + 1) (m + 1)
      have w3 : IntKind.wrap .i64 ((T a b (i + 1) (m + 1) : Int) + 1) = (T a b (i + 1) (m + 1) : Int) + 1 := wrap64 (by omega) (by omega)
      have w4 : IntKind.wrap .i64 ((m : Int) - 1) = (m : Int) - 1 := wrap64 (by omega) (by omega)
      rw [decide_eq_true (by omega : (m : Int) ≥ 0), cond_true, inB_lt hi, cond_true, inB_lt hm, cond_true]
      simp only [toNat_cast, w1, w2, w4, tabP_len, tabP_at (Nat.le_of_lt hi), tabP_next hi, rowT_len, rowP_len, inB_lt (by omega : i < a.length + 1), inB_lt (by omega : i + 1 < a.length + 1), inB_lt (by omega : m + 1 < b.length + 1), inB_lt (by omega : m < b.length + 1), cond_true,
        rowT_get (by omega : m + 1 ≤ b.length), rowT_get (by omega : m ≤ b.length), rowP_get (by omega : m + 1 ≤ b.length) (Nat.le_refl (m + 1)), w3, getD_of hi, getD_of hm]
      have hs := T_step hi hm
      by_cases hc : a[i] = b[m]
      · rw [if_pos hc] at hs
        rw [beq_iff_eq.2 hc, cond_true, Option.bind_some]
        dsimp only
        rw [w4, show ((T a b (i + 1) (m + 1) : Nat) : Int) + 1 = (T a b i m : Int) from by omega, rowP_set, tabP_set rfl]
      · rw [if_neg hc] at hs
        rw [beq_eq_false_iff_ne.2 hc, cond_false, Option.bind_some]
        dsimp only
        rw [w4]
        have e : (bif decide ((T a b i (m + 1) : Int) > (T a b (i + 1) m : Int)) then (T a b i (m + 1) : Int) else (T a b (i + 1) m : Int)) = (T a b i m : Int) := by
          by_cases h : (T a b i (m + 1) : Int) > (T a b (i + 1) m : Int)
          · rw [decide_eq_true h, cond_true]; omega
          · rw [decide_eq_false h, cond_false]; omega
        rw [e, rowP_set, tabP_set rfl])
  rw [show IntKind.wrap .i64 ((b.length : Int) - 1) = (b.length : Int) - 1 from wrap64 (by omega) (by omega)]
  exact this

def noRow (b : TXT) : Nat → List Int := fun _ => []
def tabE (f : Nat → List Int) (a b : TXT) (n : Nat) : List (List Int) := mkT (a.length + 1) fun r => if n ≤ r then rowT a b r else f r

theorem tabE_of {f : Nat → List Int} {a b : TXT} {i : Nat} : tabP f a b i 0 = tabE f a b i := mkT_ext fun r hr => by
  rw [rowP_0]
  by_cases h : r = i
  · subst h; rw [if_pos rfl, if_pos (Nat.le_refl _)]
  · rw [if_neg h]
    by_cases h2 : i < r
    · rw [if_pos h2, if_pos (by omega)]
    · rw [if_neg h2, if_neg (by omega)]
theorem tabE_set {f : Nat → List Int} {a b : TXT} {i : Nat} : (tabE f a b (i + 1)).set i (rowP a b i b.length) = tabP f a b i b.length := by
  unfold tabE tabP
  rw [mkT_set]
  exact mkT_ext fun r hr => by
    by_cases h : r = i
    · rw [if_pos h, if_pos h]
    · rw [if_neg h, if_neg h]
      rfl
theorem tabE_0 {f : Nat → List Int} {a b : TXT} : tabE f a b 0 = tabT a b := mkT_ext fun r hr => if_pos (Nat.zero_le r)

theorem room1 {n : Nat} (h : n ≤ 1048576) : (decide (0 ≤ (IntKind.wrap .i64 ((n : Int) + 1))) && (decide ((IntKind.wrap .i64 ((n : Int) + 1)) ≤ (IntKind.wrap .i64 ((n : Int) + 1))) && roomB (IntKind.wrap .i64 ((n : Int) + 1)).toNat)) = true ∧ (IntKind.wrap .i64 ((n : Int) + 1)).toNat = n + 1 := by
  have w : IntKind.wrap .i64 ((n : Int) + 1) = ((n + 1 : Nat) : Int) := by rw [wrap64 (by omega) (by omega)]; omega
  rw [w]
  exact ⟨room_len (by omega), by simp⟩

theorem common_I {a b : TXT} (ha : a.length ≤ 1048576) (hb : b.length ≤ 1048576) : f_I_common a b = some ((tabT a b, ()), ()) := by
  obtain ⟨ra, na⟩ := room1 ha
  obtain ⟨rb, nb⟩ := room1 hb
  unfold f_I_common
  rw [ra, cond_true, rb, cond_true, na, nb, inB_lt (by simp), cond_true, toNat_cast]
  have e0 : (List.replicate (a.length + 1) ([] : List Int)).set a.length (List.replicate (b.length + 1) (0 : Int)) = tabE (noRow b) a b a.length := by
    rw [mkT_rep, mkT_set, mkT_rep]
    refine mkT_ext fun r hr => ?_
    by_cases h : r = a.length
    · subst h
      rw [if_pos rfl, if_pos (Nat.le_refl _), ← rowP_end a b a.length, ← rowP_0]
      exact mkT_ext fun j hj => by
        rw [T_end_l (Nat.le_refl _)]
        split <;> split <;> rfl
    · rw [if_neg h, if_neg (by omega)]
      rfl
  rw [show (List.replicate (a.length + 1) ([] : PV S_int)).set a.length (List.replicate (b.length + 1) (0 : Int)) = tabE (noRow b) a b a.length from e0]
  have := fix_down (B := fun d => b_I_common_4 d.1 d.2.1 d.2.2.1 d.2.2.2.1) (fun n => (a, b, tabE (noRow b) a b n, (n : Int) - 1, ())) (r := (tabT a b, ()))
    (by
      show b_I_common_4 a b (tabE (noRow b) a b 0) (((0 : Nat) : Int) - 1) = _
      unfold b_I_common_4
      rw [decide_eq_false (by omega : ¬ ((((0 : Nat) : Int) - 1) ≥ 0)), cond_false, tabE_0]) a.length
    (fun i hi => by
      show b_I_common_4 a b (tabE (noRow b) a b (i + 1)) (((i + 1 : Nat) : Int) - 1) = _
      rw [show ((i + 1 : Nat) : Int) - 1 = (i : Int) from by omega]
      unfold b_I_common_4
      rw [decide_eq_true (by omega : (i : Int) ≥ 0), cond_true, rb, cond_true, nb, toNat_cast, inB_lt (by unfold tabE; rw [mkT_len]; omega), cond_true]
      rw [show (List.replicate (b.length + 1) (0 : Int)) = rowP a b i b.length from by rw [rowP_end, mkT_rep], tabE_set, inner_I ha hb hi, Option.bind_some]
      dsimp only
      rw [tabE_of, show IntKind.wrap .i64 ((i : Int) - 1) = (i : Int) - 1 from wrap64 (by omega) (by omega)])
  rw [show IntKind.wrap .i64 ((a.length : Int) - 1) = (a.length : Int) - 1 from wrap64 (by omega) (by omega), show w_I_common_4 (a, b, tabE (noRow b) a b a.length, (a.length : Int) - 1, ()) = _ from this]
  rfl
end R
end

section
/- The reference's table, and its pairs. -/
open Go Go.Dn
namespace R
set_option linter.unusedVariables false

theorem most_S (x y : Int) : f_S_l1Most x y = some ((max x y, ()), ()) := by
  unfold f_S_l1Most
  by_cases h : x > y
  · rw [decide_eq_true h, cond_true, show max x y = x from by omega]
  · rw [decide_eq_false h, cond_false, show max x y = y from by omega]

theorem getD_set_other {α : Type} {ys : List α} {i j : Nat} {a d : α} (h : i ≠ j) : (ys.set i a).getD j d = ys.getD j d := by
  simp [List.getD, List.getElem?_set, h]

theorem inner_S {a b : TXT} {f : Nat → List Int} (ha : a.length ≤ 1048576) (hb : b.length ≤ 1048576) {i : Nat} (hi : i < a.length) :
    w_S_l3Table_11 (a, b, tabP f a b i b.length, (i : Int), IntKind.wrap .i64 ((b.length : Int) - 1), ()) = some (a, b, tabP f a b i 0, (i : Int), ()) := by
  have := fix_down (B := fun d => b_S_l3Table_11 d.1 d.2.1 d.2.2.1 d.2.2.2.1 d.2.2.2.2.1) (fun m => (a, b, tabP f a b i m, (i : Int), (m : Int) - 1, ())) (r := (a, b, tabP f a b i 0, (i : Int), ()))
    (by
      show b_S_l3Table_11 a b (tabP f a b i 0) i (((0 : Nat) : Int) - 1) = _
      unfold b_S_l3Table_11
      rw [decide_eq_false (by omega : ¬ ((((0 : Nat) : Int) - 1) ≥ 0)), cond_false]) b.length
    (fun m hm => by
      show b_S_l3Table_11 a b (tabP f a b i (m + 1)) i (((m + 1 : Nat) : Int) - 1) = _
      rw [show ((m + 1 : Nat) : Int) - 1 = (m : Int) from by omega]
      unfold b_S_l3Table_11
      have w1 : IntKind.wrap .i64 ((i : Int) + 1) = ((i + 1 : Nat) : Int) := by rw [wrap64 (by omega) (by omega)]; omega
      have w2 : IntKind.wrap .i64 ((m : Int) + 1) = ((m + 1 : Nat) : Int) := by rw [wrap64 (by omega) (by omega)]; omega
      have t1 := T_small (b := b) ha (i + 1) (m + 1)
      have w3 : IntKind.wrap .i64 ((T a b (i + 1) (m + 1) : Int) + 1) = (T a b (i + 1) (m + 1) : Int) + 1 := wrap64 (by omega) (by omega)
      have w4 : IntKind.wrap .i64 ((m : Int) - 1) = (m : Int) - 1 := wrap64 (by omega) (by omega)
      have hn : i ≠ i + 1 := by omega
      have hs := T_max hi hm
      rw [decide_eq_true (by omega : (m : Int) ≥ 0), cond_true]
      simp only [toNat_cast, w1, w2, tabP_len, tabP_at (Nat.le_of_lt hi), tabP_next hi, rowT_len, rowP_len, inB_lt hi, inB_lt hm, inB_lt (by omega : i < a.length + 1), inB_lt (by omega : i + 1 < a.length + 1), inB_lt (by omega : m + 1 < b.length + 1), inB_lt (by omega : m < b.length + 1), cond_true,
        rowT_get (by omega : m + 1 ≤ b.length), rowT_get (by omega : m ≤ b.length), rowP_get (by omega : m + 1 ≤ b.length) (Nat.le_refl (m + 1)), most_S, Option.bind_some, getD_of hi, getD_of hm, List.length_set,
        getD_set_self (by rw [tabP_len]; omega : i < (tabP f a b i (m + 1)).length), getD_set_self (by rw [rowP_len]; omega : m < (rowP a b i (m + 1)).length), getD_set_other hn, w3, List.set_set]
      by_cases hc : a[i] = b[m]
      · rw [if_pos hc] at hs
        rw [beq_iff_eq.2 hc, cond_true, Option.bind_some]
        dsimp only
        rw [w4, show max (max (T a b (i + 1) m : Int) (T a b i (m + 1) : Int)) ((T a b (i + 1) (m + 1) : Int) + 1) = (T a b i m : Int) from by omega, rowP_set, tabP_set rfl]
      · rw [if_neg hc] at hs
        rw [beq_eq_false_iff_ne.2 hc, cond_false, Option.bind_some]
        dsimp only
        rw [w4, show max (T a b (i + 1) m : Int) (T a b i (m + 1) : Int) = (T a b i m : Int) from by omega, rowP_set, tabP_set rfl])
  rw [show IntKind.wrap .i64 ((b.length : Int) - 1) = (b.length : Int) - 1 from wrap64 (by omega) (by omega)]
  exact this

def zeroRow (b : TXT) : Nat → List Int := fun _ => mkT (b.length + 1) fun _ => (0 : Int)

theorem table_S {a b : TXT} (ha : a.length ≤ 1048576) (hb : b.length ≤ 1048576) : f_S_l3Table a b = some ((tabT a b, ()), ()) := by
  obtain ⟨ra, na⟩ := room1 ha
  obtain ⟨rb, nb⟩ := room1 hb
  unfold f_S_l3Table
  rw [ra, cond_true, na, List.length_replicate]
  -- the rows
  have h1 := fix_all (B := fun d => b_S_l3Table_3 d.1 d.2.1 d.2.2.1 d.2.2.2.1 d.2.2.2.2.1) (fun n => (a, b, mkT (a.length + 1) (fun r => if r < n then zeroRow b r else ([] : List Int)), ((a.length + 1 : Nat) : Int), (n : Int), ())) (a.length + 1) (r := (a, b, mkT (a.length + 1) (zeroRow b), ()))
    (fun i hi => by
      show b_S_l3Table_3 a b (mkT (a.length + 1) _) ((a.length + 1 : Nat) : Int) i = _
      unfold b_S_l3Table_3
      rw [decide_eq_true (by omega : (i : Int) < ((a.length + 1 : Nat) : Int)), cond_true, rb, cond_true, inB_lt (by rw [mkT_len]; omega), cond_true, nb, toNat_cast, mkT_set, wrap64 (by omega) (by omega)]
      have e : (mkT (a.length + 1) fun r => if r = i then List.replicate (b.length + 1) (0 : Int) else if r < i then zeroRow b r else []) = mkT (a.length + 1) fun r => if r < i + 1 then zeroRow b r else [] := mkT_ext fun r hr => by
        by_cases h : r = i
        · rw [if_pos h, if_pos (by omega), mkT_rep]; rfl
        · rw [if_neg h]
          by_cases h2 : r < i
          · rw [if_pos h2, if_pos (by omega)]
          · rw [if_neg h2, if_neg (by omega)]
      rw [e]
      rfl)
    (by
      show b_S_l3Table_3 a b (mkT (a.length + 1) _) ((a.length + 1 : Nat) : Int) ((a.length + 1 : Nat) : Int) = _
      unfold b_S_l3Table_3
      rw [decide_eq_false (Int.lt_irrefl _), cond_false]
      have e : (mkT (a.length + 1) fun r => if r < a.length + 1 then zeroRow b r else []) = mkT (a.length + 1) (zeroRow b) := mkT_ext fun r hr => if_pos hr
      rw [e])
  have e0 : List.replicate (a.length + 1) ([] : List Int) = mkT (a.length + 1) (fun r => if r < 0 then zeroRow b r else ([] : List Int)) := by
    rw [mkT_rep]
    exact mkT_ext fun r hr => by rw [if_neg (by omega)]
  rw [show w_S_l3Table_3 (a, b, List.replicate (a.length + 1) ([] : PV S_int), ((a.length + 1 : Nat) : Int), 0, ()) = _ from e0 ▸ h1, Option.bind_some]
  dsimp only
  have e1 : mkT (a.length + 1) (zeroRow b) = tabE (zeroRow b) a b a.length := mkT_ext fun r hr => by
    by_cases h : a.length ≤ r
    · rw [if_pos h]
      exact mkT_ext fun j hj => by rw [T_end_l h]; rfl
    · rw [if_neg h]
  rw [e1]
  have := fix_down (B := fun d => b_S_l3Table_8 d.1 d.2.1 d.2.2.1 d.2.2.2.1) (fun n => (a, b, tabE (zeroRow b) a b n, (n : Int) - 1, ())) (r := (tabT a b, ()))
    (by
      show b_S_l3Table_8 a b (tabE (zeroRow b) a b 0) (((0 : Nat) : Int) - 1) = _
      unfold b_S_l3Table_8
      rw [decide_eq_false (by omega : ¬ ((((0 : Nat) : Int) - 1) ≥ 0)), cond_false, tabE_0]) a.length
    (fun i hi => by
      show b_S_l3Table_8 a b (tabE (zeroRow b) a b (i + 1)) (((i + 1 : Nat) : Int) - 1) = _
      rw [show ((i + 1 : Nat) : Int) - 1 = (i : Int) from by omega]
      unfold b_S_l3Table_8
      have e2 : tabE (zeroRow b) a b (i + 1) = tabP (zeroRow b) a b i b.length := by
        rw [← tabE_set]
        unfold tabE
        rw [mkT_set]
        refine mkT_ext fun r hr => ?_
        by_cases h : r = i
        · rw [if_pos h, if_neg (by omega), rowP_end]; rfl
        · rw [if_neg h]
      rw [decide_eq_true (by omega : (i : Int) ≥ 0), cond_true, e2, inner_S ha hb hi, Option.bind_some]
      dsimp only
      rw [tabE_of, show IntKind.wrap .i64 ((i : Int) - 1) = (i : Int) - 1 from wrap64 (by omega) (by omega)])
  rw [show IntKind.wrap .i64 ((a.length : Int) - 1) = (a.length : Int) - 1 from wrap64 (by omega) (by omega), show w_S_l3Table_8 (a, b, tabE (zeroRow b) a b a.length, (a.length : Int) - 1, ()) = _ from this]
  rfl
end R
end

section
/- The pairs that the reference tells. -/
open Go Go.Dn
namespace R
set_option linter.unusedVariables false

/-- A pair that may be the next one. -/
def cand (a b : TXT) (i j p q : Nat) : Bool := (a.getD p [] == b.getD q []) && decide (T a b (p + 1) (q + 1) + 1 = T a b i j)
def scanQ (c : Nat → Bool) (p j : Nat) : Nat → Nat × Nat → Nat × Nat
  | 0, acc => acc
  | k + 1, acc => scanQ c p j k (if c (j + k) then (p, j + k) else acc)
def scanR (c : Nat → Nat → Bool) (i j n : Nat) : Nat → Nat × Nat → Nat × Nat
  | 0, acc => acc
  | k + 1, acc => scanR c i j n k (scanQ (c (i + k)) (i + k) j n acc)
def nextPr (a b : TXT) (i j : Nat) : Nat × Nat := scanR (cand a b i j) i j (b.length - j) (a.length - i) (a.length, b.length)
def pairsF (a b : TXT) : Nat → Nat → Nat → List (Nat × Nat)
  | 0, _, _ => []
  | n + 1, i, j => nextPr a b i j :: pairsF a b n ((nextPr a b i j).1 + 1) ((nextPr a b i j).2 + 1)

theorem scanQ_spec (c : Nat → Bool) (p j : Nat) : ∀ (k : Nat) (acc : Nat × Nat),
    (scanQ c p j k acc = acc ∧ ∀ q, j ≤ q → q < j + k → c q = false) ∨ (∃ q, scanQ c p j k acc = (p, q) ∧ j ≤ q ∧ q < j + k ∧ c q = true ∧ ∀ q', j ≤ q' → q' < q → c q' = false)
  | 0, acc => .inl ⟨rfl, fun q h1 h2 => by omega⟩
  | k + 1, acc => by
    simp only [scanQ]
    cases hc : c (j + k) with
    | true =>
      simp only [if_true]
      rcases scanQ_spec c p j k (p, j + k) with ⟨h1, h2⟩ | ⟨q, h1, h2, h3, h4, h5⟩
      · exact .inr ⟨j + k, h1, by omega, by omega, hc, fun q' a1 a2 => h2 q' a1 a2⟩
      · exact .inr ⟨q, h1, h2, by omega, h4, h5⟩
    | false =>
      simp only [Bool.false_eq_true, if_false]
      rcases scanQ_spec c p j k acc with ⟨h1, h2⟩ | ⟨q, h1, h2, h3, h4, h5⟩
      · refine .inl ⟨h1, fun q a1 a2 => ?_⟩
        by_cases h : q = j + k
        · subst h; exact hc
        · exact h2 q a1 (by omega)
      · exact .inr ⟨q, h1, h2, by omega, h4, h5⟩

theorem scanR_spec (c : Nat → Nat → Bool) (i j n : Nat) : ∀ (k : Nat) (acc : Nat × Nat),
    (scanR c i j n k acc = acc ∧ ∀ p q, i ≤ p → p < i + k → j ≤ q → q < j + n → c p q = false) ∨
      (∃ p q, scanR c i j n k acc = (p, q) ∧ i ≤ p ∧ p < i + k ∧ j ≤ q ∧ q < j + n ∧ c p q = true ∧ (∀ q', j ≤ q' → q' < q → c p q' = false) ∧ ∀ p' q', i ≤ p' → p' < p → j ≤ q' → q' < j + n → c p' q' = false)
  | 0, acc => .inl ⟨rfl, fun p q h1 h2 => by omega⟩
  | k + 1, acc => by
    simp only [scanR]
    rcases scanR_spec c i j n k (scanQ (c (i + k)) (i + k) j n acc) with ⟨h1, h2⟩ | ⟨p, q, h1, h2, h3, h4, h5, h6, h7, h8⟩
    · rcases scanQ_spec (c (i + k)) (i + k) j n acc with ⟨g1, g2⟩ | ⟨q, g1, g2, g3, g4, g5⟩
      · refine .inl ⟨h1.trans g1, fun p q a1 a2 a3 a4 => ?_⟩
        by_cases h : p = i + k
        · subst h; exact g2 q a3 a4
        · exact h2 p q a1 (by omega) a3 a4
      · exact .inr ⟨i + k, q, h1.trans g1, by omega, by omega, g2, g3, g4, g5, fun p' q' a1 a2 a3 a4 => h2 p' q' a1 a2 a3 a4⟩
    · exact .inr ⟨p, q, h1, h2, by omega, h4, h5, h6, h7, h8⟩

theorem cand_of {a b : TXT} {i j p q : Nat} (hp : p < a.length) (hq : q < b.length) : cand a b i j p q = true ↔ a[p] = b[q] ∧ T a b (p + 1) (q + 1) + 1 = T a b i j := by
  unfold cand
  rw [getD_of hp, getD_of hq, Bool.and_eq_true, beq_iff_eq, decide_eq_true_eq]

/-- The next pair is there, and is the least. -/
theorem next_spec {a b : TXT} {i j : Nat} (hi : i ≤ a.length) (hj : j ≤ b.length) (h : 0 < T a b i j) :
    i ≤ (nextPr a b i j).1 ∧ (nextPr a b i j).1 < a.length ∧ j ≤ (nextPr a b i j).2 ∧ (nextPr a b i j).2 < b.length ∧ cand a b i j (nextPr a b i j).1 (nextPr a b i j).2 = true ∧
      (∀ q', j ≤ q' → q' < (nextPr a b i j).2 → cand a b i j (nextPr a b i j).1 q' = false) ∧ ∀ p' q', i ≤ p' → p' < (nextPr a b i j).1 → j ≤ q' → q' < b.length → cand a b i j p' q' = false := by
  obtain ⟨p0, q0, a1, a2, hp, hq, a3, a4⟩ := T_pair _ i j (Nat.le_refl _) h
  rcases scanR_spec (cand a b i j) i j (b.length - j) (a.length - i) (a.length, b.length) with ⟨h1, h2⟩ | ⟨p, q, h1, h2, h3, h4, h5, h6, h7, h8⟩
  · have := h2 p0 q0 a1 (by omega) a2 (by omega)
    rw [(cand_of hp hq).2 ⟨a3, a4⟩] at this
    cases this
  · unfold nextPr
    rw [h1]
    exact ⟨h2, by dsimp only; omega, h4, by dsimp only; omega, h6, h7, fun p' q' b1 b2 b3 b4 => h8 p' q' b1 b2 b3 (by omega)⟩

theorem next_T {a b : TXT} {i j n : Nat} (hi : i ≤ a.length) (hj : j ≤ b.length) (h : T a b i j = n + 1) : T a b ((nextPr a b i j).1 + 1) ((nextPr a b i j).2 + 1) = n := by
  obtain ⟨_, h2, _, h4, h5, _⟩ := next_spec hi hj (by omega)
  have := ((cand_of h2 h4).1 h5).2
  omega

theorem pairs_len (a b : TXT) : ∀ n i j, (pairsF a b n i j).length = n
  | 0, _, _ => rfl
  | n + 1, i, j => by simp [pairsF, pairs_len a b n]

theorem tabT_at {a b : TXT} {i : Nat} (hi : i ≤ a.length) {d : List Int} : (tabT a b).getD i d = rowT a b i := mkT_get (by omega)
theorem tabT_len {a b : TXT} : (tabT a b).length = a.length + 1 := mkT_len

abbrev PRS := List (Int × Int × Unit)
theorem scanQ_loop {a b : TXT} {out : PRS} (ha : a.length ≤ 1048576) (hb : b.length ≤ 1048576) {i j p : Nat} (hi : i ≤ a.length) (hj : j ≤ b.length) (hp : p < a.length) : ∀ (k : Nat) (acc : Nat × Nat), j + k ≤ b.length →
    w_S_l3Pairs_10 (a, b, tabT a b, out, (i : Int), (j : Int), (acc.1 : Int), (acc.2 : Int), (p : Int), ((j + k : Nat) : Int) - 1, ()) =
      some (a, b, tabT a b, out, (i : Int), (j : Int), ((scanQ (cand a b i j p) p j k acc).1 : Int), ((scanQ (cand a b i j p) p j k acc).2 : Int), (p : Int), ())
  | 0, acc, hk => by
    refine fix_end (B := fun d => b_S_l3Pairs_10 d.1 d.2.1 d.2.2.1 d.2.2.2.1 d.2.2.2.2.1 d.2.2.2.2.2.1 d.2.2.2.2.2.2.1 d.2.2.2.2.2.2.2.1 d.2.2.2.2.2.2.2.2.1 d.2.2.2.2.2.2.2.2.2.1) ?_
    show b_S_l3Pairs_10 a b (tabT a b) out i j acc.1 acc.2 p (((j + 0 : Nat) : Int) - 1) = _
    unfold b_S_l3Pairs_10
    rw [decide_eq_false (by omega : ¬ (((j + 0 : Nat) : Int) - 1 ≥ (j : Int))), cond_false]
    rfl
  | k + 1, acc, hk => by
    have hq : j + k < b.length := by omega
    have hs : b_S_l3Pairs_10 a b (tabT a b) out i j acc.1 acc.2 p (((j + (k + 1) : Nat) : Int) - 1) = some (.inl (a, b, tabT a b, out, (i : Int), (j : Int), (((if cand a b i j p (j + k) then (p, j + k) else acc).1 : Nat) : Int), (((if cand a b i j p (j + k) then (p, j + k) else acc).2 : Nat) : Int), (p : Int), ((j + k : Nat) : Int) - 1, ())) := by
      rw [show ((j + (k + 1) : Nat) : Int) - 1 = ((j + k : Nat) : Int) from by omega]
      unfold b_S_l3Pairs_10
      have w1 : IntKind.wrap .i64 ((p : Int) + 1) = ((p + 1 : Nat) : Int) := by rw [wrap64 (by omega) (by omega)]; omega
      have w2 : IntKind.wrap .i64 (((j + k : Nat) : Int) + 1) = ((j + k + 1 : Nat) : Int) := by rw [wrap64 (by omega) (by omega)]; omega
      have t1 := T_small (b := b) ha (p + 1) (j + k + 1)
      have w3 : IntKind.wrap .i64 ((T a b (p + 1) (j + k + 1) : Int) + 1) = (T a b (p + 1) (j + k + 1) : Int) + 1 := wrap64 (by omega) (by omega)
      have w4 : IntKind.wrap .i64 (((j + k : Nat) : Int) - 1) = ((j + k : Nat) : Int) - 1 := wrap64 (by omega) (by omega)
      have hc : cand a b i j p (j + k) = ((a.getD p [] == b.getD (j + k) []) && ((T a b (p + 1) (j + k + 1) : Int) + 1 == (T a b i j : Int))) := by
        unfold cand
        congr 1
        rw [Bool.eq_iff_iff, decide_eq_true_eq, beq_iff_eq]
        omega
      rw [decide_eq_true (by omega : ((j + k : Nat) : Int) ≥ (j : Int)), cond_true, hc]
      simp only [toNat_cast, w1, w2, inB_lt hp, inB_lt hq, tabT_len, inB_lt (by omega : p + 1 < a.length + 1), inB_lt (by omega : i < a.length + 1), tabT_at (by omega : p + 1 ≤ a.length), tabT_at hi, rowT_len, inB_lt (by omega : j + k + 1 < b.length + 1), inB_lt (by omega : j < b.length + 1), cond_true,
        rowT_get (by omega : j + k + 1 ≤ b.length), rowT_get hj, w3]
      cases (a.getD p [] == b.getD (j + k) [])
      · simp only [cond_false, Option.bind_some, Bool.false_and, Bool.false_eq_true, if_false, w4]
      · simp only [cond_true, Option.bind_some, Bool.true_and]
        cases ((T a b (p + 1) (j + k + 1) : Int) + 1 == (T a b i j : Int))
        · simp only [cond_false, Option.bind_some, Bool.false_eq_true, if_false, w4]
        · simp only [cond_true, Option.bind_some, if_true, w4]
    refine Eq.trans (fix_go (B := fun d => b_S_l3Pairs_10 d.1 d.2.1 d.2.2.1 d.2.2.2.1 d.2.2.2.2.1 d.2.2.2.2.2.1 d.2.2.2.2.2.2.1 d.2.2.2.2.2.2.2.1 d.2.2.2.2.2.2.2.2.1 d.2.2.2.2.2.2.2.2.2.1) hs) ?_
    exact scanQ_loop ha hb hi hj hp k _ (by omega)

theorem scanR_loop {a b : TXT} {out : PRS} (ha : a.length ≤ 1048576) (hb : b.length ≤ 1048576) {i j : Nat} (hi : i ≤ a.length) (hj : j ≤ b.length) : ∀ (k : Nat) (acc : Nat × Nat), i + k ≤ a.length →
    w_S_l3Pairs_7 (a, b, tabT a b, out, (i : Int), (j : Int), (acc.1 : Int), (acc.2 : Int), ((i + k : Nat) : Int) - 1, ()) =
      some (a, b, tabT a b, out, ((scanR (cand a b i j) i j (b.length - j) k acc).1 : Int), ((scanR (cand a b i j) i j (b.length - j) k acc).2 : Int), ())
  | 0, acc, hk => by
    refine fix_end (B := fun d => b_S_l3Pairs_7 d.1 d.2.1 d.2.2.1 d.2.2.2.1 d.2.2.2.2.1 d.2.2.2.2.2.1 d.2.2.2.2.2.2.1 d.2.2.2.2.2.2.2.1 d.2.2.2.2.2.2.2.2.1) ?_
    show b_S_l3Pairs_7 a b (tabT a b) out i j acc.1 acc.2 (((i + 0 : Nat) : Int) - 1) = _
    unfold b_S_l3Pairs_7
    rw [decide_eq_false (by omega : ¬ (((i + 0 : Nat) : Int) - 1 ≥ (i : Int))), cond_false]
    rfl
  | k + 1, acc, hk => by
    have hs : b_S_l3Pairs_7 a b (tabT a b) out i j acc.1 acc.2 (((i + (k + 1) : Nat) : Int) - 1) = some (.inl (a, b, tabT a b, out, (i : Int), (j : Int), ((scanQ (cand a b i j (i + k)) (i + k) j (b.length - j) acc).1 : Int), ((scanQ (cand a b i j (i + k)) (i + k) j (b.length - j) acc).2 : Int), ((i + k : Nat) : Int) - 1, ())) := by
      rw [show ((i + (k + 1) : Nat) : Int) - 1 = ((i + k : Nat) : Int) from by omega]
      unfold b_S_l3Pairs_7
      rw [decide_eq_true (by omega : ((i + k : Nat) : Int) ≥ (i : Int)), cond_true]
      have := scanQ_loop (out := out) ha hb hi hj (by omega : i + k < a.length) (b.length - j) acc (by omega)
      rw [show ((j + (b.length - j) : Nat) : Int) - 1 = IntKind.wrap .i64 ((b.length : Int) - 1) from by rw [wrap64 (by omega) (by omega)]; omega] at this
      rw [this, Option.bind_some]
      dsimp only
      rw [wrap64 (by omega) (by omega)]
    refine Eq.trans (fix_go (B := fun d => b_S_l3Pairs_7 d.1 d.2.1 d.2.2.1 d.2.2.2.1 d.2.2.2.2.1 d.2.2.2.2.2.1 d.2.2.2.2.2.2.1 d.2.2.2.2.2.2.2.1 d.2.2.2.2.2.2.2.2.1) hs) ?_
    exact scanR_loop ha hb hi hj k _ (by omega)

def encP (x : Nat × Nat) : Int × Int × Unit := ((x.1 : Int), (x.2 : Int), ())

theorem pairs_loop {a b : TXT} (ha : a.length ≤ 1048576) (hb : b.length ≤ 1048576) : ∀ (n i j : Nat) (out : PRS), i ≤ a.length → j ≤ b.length → T a b i j = n → out.length + n ≤ 1099511627776 →
    w_S_l3Pairs_4 (a, b, tabT a b, out, (i : Int), (j : Int), ()) = some (out ++ (pairsF a b n i j).map encP, ())
  | 0, i, j, out, hi, hj, hT, ho => by
    refine fix_end (B := fun d => b_S_l3Pairs_4 d.1 d.2.1 d.2.2.1 d.2.2.2.1 d.2.2.2.2.1 d.2.2.2.2.2.1) ?_
    show b_S_l3Pairs_4 a b (tabT a b) out i j = _
    unfold b_S_l3Pairs_4
    rw [inB_lt (by rw [tabT_len]; omega), cond_true, toNat_cast, toNat_cast, tabT_at hi, inB_lt (by rw [rowT_len]; omega), cond_true, rowT_get hj, hT, decide_eq_false (by omega : ¬ (((0 : Nat) : Int) > 0)), cond_false]
    simp [pairsF]
  | n + 1, i, j, out, hi, hj, hT, ho => by
    obtain ⟨s1, s2, s3, s4, s5, s6, s7⟩ := next_spec hi hj (by omega : 0 < T a b i j)
    have hs : b_S_l3Pairs_4 a b (tabT a b) out i j = some (.inl (a, b, tabT a b, out ++ [encP (nextPr a b i j)], (((nextPr a b i j).1 + 1 : Nat) : Int), (((nextPr a b i j).2 + 1 : Nat) : Int), ())) := by
      unfold b_S_l3Pairs_4
      rw [inB_lt (by rw [tabT_len]; omega), cond_true, toNat_cast, toNat_cast, tabT_at hi, inB_lt (by rw [rowT_len]; omega), cond_true, rowT_get hj, hT, decide_eq_true (by omega : (((n + 1 : Nat) : Int) > 0)), cond_true]
      have := scanR_loop (out := out) ha hb hi hj (a.length - i) (a.length, b.length) (by omega)
      rw [show ((i + (a.length - i) : Nat) : Int) - 1 = IntKind.wrap .i64 ((a.length : Int) - 1) from by rw [wrap64 (by omega) (by omega)]; omega] at this
      rw [this, Option.bind_some]
      dsimp only
      rw [roomB_ok (by simp; omega), cond_true]
      have e : scanR (cand a b i j) i j (b.length - j) (a.length - i) (a.length, b.length) = nextPr a b i j := rfl
      rw [e, wrap64 (by omega) (by omega), wrap64 (by omega) (by omega)]
      simp [encP]
    refine Eq.trans (fix_go (B := fun d => b_S_l3Pairs_4 d.1 d.2.1 d.2.2.1 d.2.2.2.1 d.2.2.2.2.1 d.2.2.2.2.2.1) hs) ?_
    refine Eq.trans (pairs_loop ha hb n ((nextPr a b i j).1 + 1) ((nextPr a b i j).2 + 1) (out ++ [encP (nextPr a b i j)]) (by omega) (by omega) (next_T hi hj hT) (by simp; omega)) ?_
    simp [pairsF]

/-- The pairs of two texts. -/
def pairsP (a b : TXT) : List (Nat × Nat) := pairsF a b (T a b 0 0) 0 0

theorem pairs_S {a b : TXT} (ha : a.length ≤ 1048576) (hb : b.length ≤ 1048576) : f_S_l3Pairs a b = some (((pairsP a b).map encP, ()), ()) := by
  have h := T_small (b := b) ha 0 0
  have := pairs_loop ha hb (T a b 0 0) 0 0 [] (by omega) (by omega) rfl (by simp; omega)
  unfold f_S_l3Pairs
  rw [table_S ha hb, Option.bind_some]
  dsimp only
  rw [show w_S_l3Pairs_4 (a, b, tabT a b, [], 0, 0, ()) = _ from this]
  rfl
end R
end

section
/- Versions, and how much turns from each to the next: both sides answer the same. -/
open Go Go.Dn
namespace R
set_option linter.unusedVariables false

theorem sum_const {α : Type} {f : α → Nat} {c : Nat} : ∀ {l : List α}, (∀ x ∈ l, f x ≤ c) → (l.map f).sum ≤ c * l.length
  | [], _ => by simp
  | x :: l, h => by
    simp only [List.map_cons, List.sum_cons, List.length_cons]
    have h1 := h x (List.mem_cons_self ..)
    have h2 := sum_const (l := l) fun y hy => h y (List.mem_cons_of_mem _ hy)
    rw [Nat.mul_add]
    omega

def versP (v : List TXT) : Bool := inI (v.length : Int) 1 8 && !(v.any fun l => !goodP l)
def SmV (v : List TXT) : Prop := v.length ≤ 4611686018427387904 ∧ ∀ l ∈ v, Sm l

theorem SmV.of {e : TypeId} {v : List TXT} {n : Nat} (h : tot (.slice e S_string) v ≤ n) (hn : n ≤ 4611686018427387904) : SmV v := by
  refine ⟨?_, fun l hl => Sm.of (n := n) (tot_all h l hl) hn⟩
  have h' := h
  rw [tot_slice] at h'
  omega

theorem vers_I {v : List TXT} (hs : SmV v) : f_I_areVersions v = some ((versP v, ()), ()) := by
  unfold f_I_areVersions versP
  rw [in_I, Option.bind_some]
  dsimp only
  unfold inI
  generalize hb : (decide ((v.length : Int) ≥ 1) && decide ((v.length : Int) ≤ 8)) = b
  cases b
  · rfl
  · have hl := hs.1
    rw [cond_true, show w_I_areVersions_172_2 (v, false, v, (v.length : Int), true, true, v, v, false, v, v, (v.length : Int), 0, ()) = _ from
      fix_any (B := fun d => b_I_areVersions_172_2 d.1 d.2.1 d.2.2.1 d.2.2.2.1 d.2.2.2.2.1 d.2.2.2.2.2.1 d.2.2.2.2.2.2.1 d.2.2.2.2.2.2.2.1 d.2.2.2.2.2.2.2.2.1 d.2.2.2.2.2.2.2.2.2.1 d.2.2.2.2.2.2.2.2.2.2.1 d.2.2.2.2.2.2.2.2.2.2.2.1 d.2.2.2.2.2.2.2.2.2.2.2.2.1) v (fun l => !goodP l)
      (fun i => (v, false, v, (v.length : Int), true, true, v, v, false, v, v, (v.length : Int), (i : Int), ())) (fun i => .inr (v, false, v, (v.length : Int), true, true, v, v, false, v, (i : Int), ())) (.inl (v, false, v, (v.length : Int), true, true, v, v, false, v, ()))
      (fun i hi hq => by
        show b_I_areVersions_172_2 _ _ _ _ _ _ _ _ _ _ v v.length i = _
        unfold b_I_areVersions_172_2 f_I_areVersions_1
        rw [decide_eq_true (by omega : (i : Int) < (v.length : Int)), cond_true, inB_lt hi, cond_true, toNat_cast, getD_of hi, goodLines_I _ (hs.2 _ (List.getElem_mem hi)), Option.bind_some, Option.bind_some]
        dsimp only
        rw [hq, cond_false, wrap64 (by omega) (by omega)]; rfl)
      (fun i hi hq => by
        show b_I_areVersions_172_2 _ _ _ _ _ _ _ _ _ _ v v.length i = _
        unfold b_I_areVersions_172_2 f_I_areVersions_1
        rw [decide_eq_true (by omega : (i : Int) < (v.length : Int)), cond_true, inB_lt hi, cond_true, toNat_cast, getD_of hi, goodLines_I _ (hs.2 _ (List.getElem_mem hi)), Option.bind_some, Option.bind_some]
        dsimp only
        rw [hq, cond_true])
      (by
        show b_I_areVersions_172_2 _ _ _ _ _ _ _ _ _ _ v v.length v.length = _
        unfold b_I_areVersions_172_2
        rw [decide_eq_false (Int.lt_irrefl _), cond_false])]
    cases v.any fun l => !goodP l
    · rfl
    · simp

theorem vers_S {v : List TXT} (hs : SmV v) : f_S_l12Good v = some ((versP v, ()), ()) := by
  have hl := hs.1
  unfold f_S_l12Good versP
  rw [show w_S_l12Good_2 (v, v, (v.length : Int), 0, ()) = _ from fix_any (B := fun d => b_S_l12Good_2 d.1 d.2.1 d.2.2.1 d.2.2.2.1) v (fun l => !goodP l) (fun i => (v, v, (v.length : Int), (i : Int), ())) (fun _ => .inr (false, ())) (.inl (v, ()))
    (fun i hi hq => by
      show b_S_l12Good_2 v v v.length i = _
      unfold b_S_l12Good_2
      rw [decide_eq_true (by omega : (i : Int) < (v.length : Int)), cond_true, inB_lt hi, cond_true, toNat_cast, getD_of hi, l1Good_S _ (hs.2 _ (List.getElem_mem hi)), Option.bind_some]
      dsimp only
      rw [hq, cond_false, wrap64 (by omega) (by omega)]; rfl)
    (fun i hi hq => by
      show b_S_l12Good_2 v v v.length i = _
      unfold b_S_l12Good_2
      rw [decide_eq_true (by omega : (i : Int) < (v.length : Int)), cond_true, inB_lt hi, cond_true, toNat_cast, getD_of hi, l1Good_S _ (hs.2 _ (List.getElem_mem hi)), Option.bind_some]
      dsimp only
      rw [hq, cond_true])
    (by
      show b_S_l12Good_2 v v v.length v.length = _
      unfold b_S_l12Good_2
      rw [decide_eq_false (Int.lt_irrefl _), cond_false])]
  unfold inI
  cases v.any fun l => !goodP l
  · rw [if_neg (by simp), Option.bind_some]
    dsimp only
    rw [in_S, Option.bind_some, Bool.not_false, Bool.and_true]
  · rw [if_pos rfl]
    simp

theorem goodP_small {l : TXT} (h : goodP l = true) : l.length ≤ 40 := by
  unfold goodP linesP at h
  simp only [Bool.and_eq_true, decide_eq_true_eq] at h
  exact h.1.1

theorem vers_at {v : List TXT} (h : versP v = true) : 1 ≤ v.length ∧ v.length ≤ 8 ∧ ∀ i, i < v.length → (v.getD i []).length ≤ 40 := by
  unfold versP inI at h
  simp only [Bool.and_eq_true, decide_eq_true_eq, Bool.not_eq_true'] at h
  refine ⟨by omega, by omega, fun i hi => ?_⟩
  have := List.any_eq_false.1 h.2 _ (List.getElem_mem hi)
  rw [getD_of hi]
  exact goodP_small (by simpa using this)
end R
end

section
/- The program's pairs and the places in the next version: as the reference's. -/
open Go Go.Dn
namespace R
set_option linter.unusedVariables false

abbrev LL := List (List Int)
def encL (x : Nat × Nat) : List Int := [(x.1 : Int), (x.2 : Int)]

set_option linter.unusedSectionVars false
section
variable {a b : TXT} (ha : a.length ≤ 1048576) (hb : b.length ≤ 1048576)
include ha hb

theorem cl_step {i q n : Nat} (hi : i < a.length) (hq : q < b.length) (j0 : Nat) (hn : n ≤ 1048576) (out : LL) (ho : out.length + 1 ≤ 1099511627776) :
    b_I_commonLines_7 a b (tabT a b) out (j0 : Int) ((n + 1 : Nat) : Int) (i : Int) (q : Int) (a.length : Int) (i : Int) =
      if a[i] = b[q] ∧ T a b (i + 1) (q + 1) = n then some (.inr (a, b, tabT a b, out ++ [encL (i, q)], ((q + 1 : Nat) : Int), (n : Int), (a.length : Int), (i : Int), ()))
      else some (.inl (a, b, tabT a b, out, (j0 : Int), ((n + 1 : Nat) : Int), (i : Int), ((q + 1 : Nat) : Int), (a.length : Int), (i : Int), ())) := by
  unfold b_I_commonLines_7
  have w1 : IntKind.wrap .i64 ((i : Int) + 1) = ((i + 1 : Nat) : Int) := by rw [wrap64 (by omega) (by omega)]; omega
  have w2 : IntKind.wrap .i64 ((q : Int) + 1) = ((q + 1 : Nat) : Int) := by rw [wrap64 (by omega) (by omega)]; omega
  have w3 : IntKind.wrap .i64 (((n + 1 : Nat) : Int) - 1) = (n : Int) := by rw [wrap64 (by omega) (by omega)]; omega
  have r1 : roomB (out.length + 1) = true := roomB_ok ho
  rw [decide_eq_true (by omega : (q : Int) < (b.length : Int)), cond_true, decide_eq_true (by omega : ((n + 1 : Nat) : Int) > 0), cond_true, inB_lt hi, cond_true, inB_lt hq, cond_true, w1, w2, w3,
    inB_lt (by rw [tabT_len]; omega : i + 1 < (tabT a b).length), cond_true, toNat_cast, toNat_cast, toNat_cast, toNat_cast, tabT_at (by omega : i + 1 ≤ a.length), inB_lt (by rw [rowT_len]; omega), cond_true, rowT_get (by omega), getD_of hi, getD_of hq]
  by_cases hc : a[i] = b[q]
  · rw [beq_iff_eq.2 hc, cond_true, Option.bind_some]
    dsimp only
    by_cases ht : T a b (i + 1) (q + 1) = n
    · rw [if_pos ⟨hc, ht⟩, ht, beq_self_eq_true, cond_true, List.length_singleton, r1, cond_true, w2, w3]; rfl
    · rw [if_neg (fun h => ht h.2), beq_eq_false_iff_ne.2 (fun h => ht (by have h' : ((T a b (i + 1) (q + 1) : Nat) : Int) = (n : Int) := h; omega)), cond_false, w2]
  · rw [beq_eq_false_iff_ne.2 hc, cond_false, Option.bind_some]
    dsimp only
    rw [cond_false, w2, if_neg (fun h => hc h.1)]

theorem cl_end {i n : Nat} (j0 : Nat) (out : LL) (x : Int) (hx : x = b.length ∨ n = 0) :
    b_I_commonLines_7 a b (tabT a b) out (j0 : Int) (n : Int) (i : Int) x (a.length : Int) (i : Int) = some (.inr (a, b, tabT a b, out, (j0 : Int), (n : Int), (a.length : Int), (i : Int), ())) := by
  unfold b_I_commonLines_7
  by_cases h : x < (b.length : Int)
  · rw [decide_eq_true h, cond_true, decide_eq_false (by omega : ¬ ((n : Int) > 0)), cond_false]
  · rw [decide_eq_false h, cond_false]

noncomputable abbrev B7 : List (List UInt8) × List (List UInt8) × LL × LL × Int × Int × Int × Int × Int × Int × Unit → Option ((List (List UInt8) × List (List UInt8) × LL × LL × Int × Int × Int × Int × Int × Int × Unit) ⊕ (List (List UInt8) × List (List UInt8) × LL × LL × Int × Int × Int × Int × Unit)) :=
  fun d => b_I_commonLines_7 d.1 d.2.1 d.2.2.1 d.2.2.2.1 d.2.2.2.2.1 d.2.2.2.2.2.1 d.2.2.2.2.2.2.1 d.2.2.2.2.2.2.2.1 d.2.2.2.2.2.2.2.2.1 d.2.2.2.2.2.2.2.2.2.1

/-- A round without a pair. -/
theorem cl_none {i n : Nat} (hi : i < a.length) {j0 : Nat} (hj : j0 ≤ b.length) (hn : n ≤ 1048576) (out : LL) (ho : out.length + n ≤ 1099511627776)
    (h : n = 0 ∨ ∀ q (hq : q < b.length), j0 ≤ q → ¬ (a[i] = b[q] ∧ T a b (i + 1) (q + 1) + 1 = n)) :
    w_I_commonLines_7 (a, b, tabT a b, out, (j0 : Int), (n : Int), (i : Int), (j0 : Int), (a.length : Int), (i : Int), ()) = some (a, b, tabT a b, out, (j0 : Int), (n : Int), (a.length : Int), (i : Int), ()) := by
  cases n with
  | zero => exact fix_end (B := B7) (cl_end ha hb j0 out _ (.inr rfl))
  | succ n =>
    have h := h.resolve_left (by omega)
    have := fix_iter (B := B7) (fun q => (a, b, tabT a b, out, (j0 : Int), ((n + 1 : Nat) : Int), (i : Int), (q : Int), (a.length : Int), (i : Int), ())) (b.length - j0) j0 (fun q h1 h2 => by
      show b_I_commonLines_7 a b (tabT a b) out (j0 : Int) ((n + 1 : Nat) : Int) (i : Int) (q : Int) (a.length : Int) (i : Int) = _
      rw [cl_step ha hb hi (by omega) j0 (by omega) out (by omega), if_neg (fun hc => h q (by omega) h1 ⟨hc.1, by omega⟩)])
    refine Eq.trans this ?_
    exact fix_end (B := B7) (cl_end ha hb j0 out _ (.inl (by simp only []; omega)))

/-- A round that finds one. -/
theorem cl_one {i n : Nat} (hi : i < a.length) {j0 q1 : Nat} (hj : j0 ≤ q1) (hq1 : q1 < b.length) (hn : n ≤ 1048576) (out : LL) (ho : out.length + 1 ≤ 1099511627776)
    (h : ∀ q (hq : q < b.length), j0 ≤ q → q < q1 → ¬ (a[i] = b[q] ∧ T a b (i + 1) (q + 1) = n)) (hc : a[i] = b[q1] ∧ T a b (i + 1) (q1 + 1) = n) :
    w_I_commonLines_7 (a, b, tabT a b, out, (j0 : Int), ((n + 1 : Nat) : Int), (i : Int), (j0 : Int), (a.length : Int), (i : Int), ()) = some (a, b, tabT a b, out ++ [encL (i, q1)], ((q1 + 1 : Nat) : Int), (n : Int), (a.length : Int), (i : Int), ()) := by
  have := fix_iter (B := B7) (fun q => (a, b, tabT a b, out, (j0 : Int), ((n + 1 : Nat) : Int), (i : Int), (q : Int), (a.length : Int), (i : Int), ())) (q1 - j0) j0 (fun q h1 h2 => by
    show b_I_commonLines_7 a b (tabT a b) out (j0 : Int) ((n + 1 : Nat) : Int) (i : Int) (q : Int) (a.length : Int) (i : Int) = _
    rw [cl_step ha hb hi (by omega) j0 hn out ho, if_neg (h q (by omega) h1 (by omega))])
  refine Eq.trans this ?_
  refine fix_end (B := B7) ?_
  show b_I_commonLines_7 a b (tabT a b) out (j0 : Int) ((n + 1 : Nat) : Int) (i : Int) ((j0 + (q1 - j0) : Nat) : Int) (a.length : Int) (i : Int) = _
  rw [show j0 + (q1 - j0) = q1 from by omega, cl_step ha hb hi hq1 j0 hn out ho, if_pos hc]

theorem cl_loop : ∀ (k i i0 j0 n : Nat) (out : LL), i + k = a.length → i0 ≤ i → j0 ≤ b.length → T a b i0 j0 = n → (n = 0 ∨ i ≤ (nextPr a b i0 j0).1) → out.length + n ≤ 1099511627776 →
    w_I_commonLines_4 (a, b, tabT a b, out, (j0 : Int), (n : Int), (a.length : Int), (i : Int), ()) = some (out ++ (pairsF a b n i0 j0).map encL, ())
  | 0, i, i0, j0, n, out, hk, h0, hj, hT, hnx, ho => by
    have hn0 : n = 0 := by
      rcases hnx with h | h
      · exact h
      · rcases Nat.eq_zero_or_pos n with h' | h'
        · exact h'
        · have := next_spec (by omega : i0 ≤ a.length) hj (by omega); omega
    subst hn0
    refine fix_end (B := fun d => b_I_commonLines_4 d.1 d.2.1 d.2.2.1 d.2.2.2.1 d.2.2.2.2.1 d.2.2.2.2.2.1 d.2.2.2.2.2.2.1 d.2.2.2.2.2.2.2.1) ?_
    show b_I_commonLines_4 a b (tabT a b) out (j0 : Int) ((0 : Nat) : Int) (a.length : Int) (i : Int) = _
    unfold b_I_commonLines_4
    rw [decide_eq_false (by omega : ¬ ((i : Int) < (a.length : Int))), cond_false]
    simp [pairsF]
  | k + 1, i, i0, j0, n, out, hk, h0, hj, hT, hnx, ho => by
    have hi : i < a.length := by omega
    have w1 : IntKind.wrap .i64 ((i : Int) + 1) = ((i + 1 : Nat) : Int) := by rw [wrap64 (by omega) (by omega)]; omega
    have hTs := T_small (b := b) ha i0 j0
    have go : ∀ {out' : LL} {j' n' : Nat}, w_I_commonLines_7 (a, b, tabT a b, out, (j0 : Int), (n : Int), (i : Int), (j0 : Int), (a.length : Int), (i : Int), ()) = some (a, b, tabT a b, out', (j' : Int), (n' : Int), (a.length : Int), (i : Int), ()) →
        w_I_commonLines_4 (a, b, tabT a b, out, (j0 : Int), (n : Int), (a.length : Int), (i : Int), ()) = w_I_commonLines_4 (a, b, tabT a b, out', (j' : Int), (n' : Int), (a.length : Int), ((i + 1 : Nat) : Int), ()) := by
      intro out' j' n' h
      refine fix_go (B := fun d => b_I_commonLines_4 d.1 d.2.1 d.2.2.1 d.2.2.2.1 d.2.2.2.2.1 d.2.2.2.2.2.1 d.2.2.2.2.2.2.1 d.2.2.2.2.2.2.2.1) ?_
      show b_I_commonLines_4 a b (tabT a b) out (j0 : Int) (n : Int) (a.length : Int) (i : Int) = _
      unfold b_I_commonLines_4
      rw [decide_eq_true (by omega : ((i : Int) < (a.length : Int))), cond_true, h, Option.bind_some]
      dsimp only
      rw [w1]
    cases n with
    | zero =>
      rw [go (cl_none ha hb hi hj (by omega) out ho (.inl rfl))]
      exact cl_loop k (i + 1) i0 j0 0 out (by omega) (by omega) hj hT (.inl rfl) ho
    | succ n =>
      obtain ⟨s1, s2, s3, s4, s5, s6, s7⟩ := next_spec (by omega : i0 ≤ a.length) hj (by omega : 0 < T a b i0 j0)
      have hle := hnx.resolve_left (by omega)
      have hcand : ∀ {p q : Nat} (hp : p < a.length) (hq : q < b.length), (a[p] = b[q] ∧ T a b (p + 1) (q + 1) = n) ↔ cand a b i0 j0 p q = true := fun hp hq => by
        rw [cand_of hp hq, hT]; exact ⟨fun h => ⟨h.1, by omega⟩, fun h => ⟨h.1, by omega⟩⟩
      rcases Nat.lt_or_ge i (nextPr a b i0 j0).1 with hlt | hge
      · rw [go (cl_none ha hb hi hj (by omega) out ho (.inr fun q hq hjq hc => by
          have := (hcand hi hq).1 ⟨hc.1, by omega⟩
          rw [s7 i q h0 hlt hjq hq] at this
          cases this))]
        exact cl_loop k (i + 1) i0 j0 (n + 1) out (by omega) (by omega) hj hT (.inr hlt) ho
      · have hip : i = (nextPr a b i0 j0).1 := by omega
        have hfound := (hcand s2 s4).2 s5
        have hfound' : a[i] = b[(nextPr a b i0 j0).2] ∧ T a b (i + 1) ((nextPr a b i0 j0).2 + 1) = n := by
          have e : ∀ {p : Nat} (hp : p < a.length) , i = p → (a[p] = b[(nextPr a b i0 j0).2] ∧ T a b (p + 1) ((nextPr a b i0 j0).2 + 1) = n) → (a[i] = b[(nextPr a b i0 j0).2] ∧ T a b (i + 1) ((nextPr a b i0 j0).2 + 1) = n) := by
            intro p hp h h'; subst h; exact h'
          exact e s2 hip hfound
        rw [go (cl_one ha hb hi s3 s4 (by omega) out (by omega) (fun q hq h1 h2 hc => by
          have h3 := (hcand hi hq).1 hc
          rw [hip, s6 q h1 h2] at h3
          cases h3) hfound')]
        have hT' := next_T (by omega : i0 ≤ a.length) hj hT
        rw [← hip] at hT'
        have := cl_loop k (i + 1) (i + 1) ((nextPr a b i0 j0).2 + 1) n (out ++ [encL (i, (nextPr a b i0 j0).2)]) (by omega) (Nat.le_refl _) (by omega) hT' (by
          rcases Nat.eq_zero_or_pos n with h' | h'
          · exact .inl h'
          · exact .inr (next_spec (by omega) (by omega) (by omega)).1) (by simp; omega)
        rw [this]
        have he : (nextPr a b i0 j0) = (i, (nextPr a b i0 j0).2) := by rw [hip]
        simp only [pairsF, List.map_cons, ← hip, List.append_assoc, List.singleton_append]
        rw [← he]

theorem clines_I : f_I_commonLines a b = some (((pairsP a b).map encL, ()), ()) := by
  unfold f_I_commonLines
  have h := T_small (b := b) ha 0 0
  rw [common_I ha hb, Option.bind_some]
  dsimp only
  rw [show inB 0 (tabT a b).length = true from inB_lt (i := 0) (by rw [tabT_len]; omega), cond_true, show ((0 : Int).toNat) = 0 from rfl, tabT_at (Nat.zero_le _), show inB 0 (rowT a b 0).length = true from inB_lt (i := 0) (by rw [rowT_len]; omega), cond_true, rowT_get (Nat.zero_le _)]
  have := cl_loop ha hb a.length 0 0 0 (T a b 0 0) [] (by omega) (Nat.le_refl _) (Nat.zero_le _) rfl (by
    rcases Nat.eq_zero_or_pos (T a b 0 0) with h' | h'
    · exact .inl h'
    · exact .inr (Nat.zero_le _)) (by simp; omega)
  rw [show w_I_commonLines_4 (a, b, tabT a b, [], 0, (T a b 0 0 : Int), (a.length : Int), 0, ()) = _ from this, Option.bind_some]
  rfl
end
end R
end

section
/- For each line its place in the next version: both sides. -/
open Go Go.Dn
namespace R
set_option linter.unusedVariables false
set_option linter.unusedSectionVars false

def setP (o : List Int) (p : Nat × Nat) : List Int := o.set p.1 (p.2 : Int)
def matesP (a b : TXT) : List Int := (pairsP a b).foldl setP (List.replicate a.length (-1))

theorem pairs_in {a b : TXT} : ∀ (n i j : Nat), i ≤ a.length → j ≤ b.length → T a b i j = n → ∀ p ∈ pairsF a b n i j, p.1 < a.length ∧ p.2 < b.length
  | 0, i, j, hi, hj, hT, p, hp => by simp [pairsF] at hp
  | n + 1, i, j, hi, hj, hT, p, hp => by
    obtain ⟨s1, s2, s3, s4, s5, s6, s7⟩ := next_spec hi hj (by omega : 0 < T a b i j)
    simp only [pairsF, List.mem_cons] at hp
    rcases hp with rfl | hp
    · exact ⟨s2, s4⟩
    · exact pairs_in n _ _ (by omega) (by omega) (next_T hi hj hT) p hp
theorem pairsP_in {a b : TXT} {p : Nat × Nat} (h : p ∈ pairsP a b) : p.1 < a.length ∧ p.2 < b.length := pairs_in _ 0 0 (Nat.zero_le _) (Nat.zero_le _) rfl p h
theorem pairsP_len (a b : TXT) : (pairsP a b).length = T a b 0 0 := pairs_len a b _ 0 0

theorem foldl_setP {xs : List (Nat × Nat)} : ∀ {o : List Int}, (xs.foldl setP o).length = o.length := by
  induction xs with
  | nil => intro o; rfl
  | cons x xs ih => intro o; rw [List.foldl_cons, ih]; simp [setP]
theorem matesP_len (a b : TXT) : (matesP a b).length = a.length := by unfold matesP; rw [foldl_setP, List.length_replicate]
theorem foldl_mem {n : Nat} : ∀ {xs : List (Nat × Nat)} {o : List Int}, (∀ p ∈ xs, p.2 < n) → (∀ x ∈ o, x = -1 ∨ (0 ≤ x ∧ x < n)) → ∀ x ∈ xs.foldl setP o, x = -1 ∨ (0 ≤ x ∧ x < (n : Int)) := by
  intro xs
  induction xs with
  | nil => intro o _ h; exact h
  | cons p xs ih =>
    intro o hp h
    rw [List.foldl_cons]
    refine ih (fun q hq => hp q (List.mem_cons_of_mem _ hq)) (fun x hx => ?_)
    rcases List.mem_or_eq_of_mem_set hx with hx | rfl
    · exact h x hx
    · exact .inr ⟨by omega, by have := hp p (List.mem_cons_self); omega⟩
theorem matesP_val {a b : TXT} {x : Int} (h : x ∈ matesP a b) : x = -1 ∨ (0 ≤ x ∧ x < (b.length : Int)) :=
  foldl_mem (n := b.length) (fun p hp => (pairsP_in hp).2) (fun y hy => .inl (List.eq_of_mem_replicate hy)) x h
theorem matesP_at {a b : TXT} {k : Nat} (hk : k < a.length) {d : Int} : (matesP a b).getD k d = -1 ∨ (0 ≤ (matesP a b).getD k d ∧ (matesP a b).getD k d < (b.length : Int)) := by
  rw [getD_of (by rw [matesP_len]; exact hk)]
  exact matesP_val (List.getElem_mem _)

section
variable {a b : TXT} (ha : a.length ≤ 1048576) (hb : b.length ≤ 1048576)
include ha hb

theorem mates_I : f_I_mates a b = some ((matesP a b, ()), ()) := by
  unfold f_I_mates
  have hrep : f_slices_Repeat_int [(-1)] (a.length : Int) = some ((List.replicate a.length (-1), ()), ()) := by
    unfold f_slices_Repeat_int repF
    dsimp only
    rw [decide_eq_true (by omega : (0 : Int) ≤ (a.length : Int)), decide_eq_true (show (a.length : Int) ≤ 1099511627776 by omega)]
    rfl
  rw [hrep, Option.bind_some, clines_I ha hb, Option.bind_some]
  dsimp only
  have hsm := T_small (b := b) ha 0 0
  have hl := pairsP_len a b
  have hloop := (fix_fold (B := fun d => b_I_mates_3 d.1 d.2.1 d.2.2.1 d.2.2.2.1) (pairsP a b) setP (fun o i => (o, (pairsP a b).map encL, (((pairsP a b).map encL).length : Int), (i : Int), ())) (fun o => (o, ())) (fun _ o => o.length = a.length)
    (fun i hi o ho => by
      refine ⟨by simp [setP, ho], ?_⟩
      show b_I_mates_3 o ((pairsP a b).map encL) (((pairsP a b).map encL).length : Int) i = _
      unfold b_I_mates_3
      have hin := pairsP_in (List.getElem_mem hi)
      have hget : ((pairsP a b).map encL).getD i [] = encL (pairsP a b)[i] := by rw [getD_of (by simpa using hi)]; simp
      rw [List.length_map, decide_eq_true (by omega : (i : Int) < ((pairsP a b).length : Int)), cond_true, inB_lt hi, cond_true, toNat_cast, hget]
      show (bif inB ((0 : Nat) : Int) 2 then (bif inB ((1 : Nat) : Int) 2 then (bif inB (((pairsP a b)[i].1 : Nat) : Int) o.length then _ else _) else _) else _) = _
      rw [inB_lt (by omega), cond_true, inB_lt (by omega), cond_true, inB_lt (by rw [ho]; exact hin.1), cond_true, wrap64 (by omega) (by omega)]
      rfl)
    (fun o ho => by
      show b_I_mates_3 o ((pairsP a b).map encL) (((pairsP a b).map encL).length : Int) ((pairsP a b).length : Int) = _
      unfold b_I_mates_3
      rw [List.length_map, decide_eq_false (by omega : ¬ (((pairsP a b).length : Int) < ((pairsP a b).length : Int))), cond_false]) (List.replicate a.length (-1)) (by simp)).1
  rw [show w_I_mates_3 (List.replicate a.length (-1), (pairsP a b).map encL, (((pairsP a b).map encL).length : Int), 0, ()) = _ from hloop, Option.bind_some]
  rfl

theorem next_S : f_S_l12Next a b = some ((matesP a b, ()), ()) := by
  unfold f_S_l12Next
  rw [room_len (by omega), cond_true, toNat_cast, List.length_replicate]
  have hsm := T_small (b := b) ha 0 0
  have hl := pairsP_len a b
  have hfill := fix_all (B := fun d => b_S_l12Next_3 d.1 d.2.1 d.2.2.1 d.2.2.2.1 d.2.2.2.2.1) (fun i => (a, b, (List.replicate a.length (-1 : Int)).take i ++ List.replicate ((List.replicate a.length (-1 : Int)).length - i) (0 : Int), (a.length : Int), (i : Int), ())) a.length
    (r := (a, b, List.replicate a.length (-1 : Int), ()))
    (fun i hi => by
      show b_S_l12Next_3 a b ((List.replicate a.length (-1 : Int)).take i ++ List.replicate ((List.replicate a.length (-1 : Int)).length - i) (0 : Int)) a.length i = _
      unfold b_S_l12Next_3
      have hi' : i < (List.replicate a.length (-1 : Int)).length := by rw [List.length_replicate]; exact hi
      have hs := set_fill (d := (0 : Int)) hi'
      rw [List.getElem_replicate] at hs
      rw [decide_eq_true (by omega : (i : Int) < (a.length : Int)), cond_true, inB_lt (by simp; omega), cond_true, toNat_cast, hs, wrap64 (by omega) (by omega)]
      rfl)
    (by
      show b_S_l12Next_3 a b _ a.length (a.length : Int) = _
      unfold b_S_l12Next_3
      rw [decide_eq_false (by omega : ¬ ((a.length : Int) < (a.length : Int))), cond_false]
      simp)
  rw [show w_S_l12Next_3 (a, b, List.replicate a.length (0 : Int), (a.length : Int), 0, ()) = _ from by
    refine Eq.trans ?_ hfill
    unfold w_S_l12Next_3
    congr 1
    simp, Option.bind_some]
  dsimp only
  rw [pairs_S ha hb, Option.bind_some]
  dsimp only
  have hloop := (fix_fold (B := fun d => b_S_l12Next_8 d.1 d.2.1 d.2.2.1 d.2.2.2.1) (pairsP a b) setP (fun o i => (o, (pairsP a b).map encP, (((pairsP a b).map encP).length : Int), (i : Int), ())) (fun o => (o, ())) (fun _ o => o.length = a.length)
    (fun i hi o ho => by
      refine ⟨by simp [setP, ho], ?_⟩
      show b_S_l12Next_8 o ((pairsP a b).map encP) (((pairsP a b).map encP).length : Int) i = _
      unfold b_S_l12Next_8
      have hin := pairsP_in (List.getElem_mem hi)
      have hget : ∀ d, ((pairsP a b).map encP).getD i d = encP (pairsP a b)[i] := fun d => by rw [getD_of (by simpa using hi)]; simp
      rw [List.length_map, decide_eq_true (by omega : (i : Int) < ((pairsP a b).length : Int)), cond_true, inB_lt hi, cond_true, toNat_cast]
      erw [hget]
      show (bif inB (((pairsP a b)[i].1 : Nat) : Int) o.length then _ else _) = _
      rw [inB_lt (by rw [ho]; exact hin.1), cond_true, wrap64 (by omega) (by omega)]
      rfl)
    (fun o ho => by
      show b_S_l12Next_8 o ((pairsP a b).map encP) (((pairsP a b).map encP).length : Int) ((pairsP a b).length : Int) = _
      unfold b_S_l12Next_8
      rw [List.length_map, decide_eq_false (by omega : ¬ (((pairsP a b).length : Int) < ((pairsP a b).length : Int))), cond_false]) (List.replicate a.length (-1)) (by simp)).1
  rw [show w_S_l12Next_8 (List.replicate a.length (-1), (pairsP a b).map encP, (((pairsP a b).map encP).length : Int), 0, ()) = _ from hloop, Option.bind_some]
  rfl
end
end R
end

section
/- Numbers as texts: both sides write the same. -/
open Go Go.Dn
namespace R
set_option linter.unusedVariables false

theorem wrap8 {x : Int} (h1 : 0 ≤ x) (h2 : x ≤ 255) : IntKind.wrap .u8 x = x := by
  simp [IntKind.wrap, IntKind.signed, IntKind.bits]
  omega

abbrev dec (n : Nat) : List UInt8 := Lib.decDigits n
theorem dec_len (n : Nat) (h : n ≤ 1000000) : (dec n).length ≤ 21 := by
  have := Lib.itoa_length_le (n : Int) (by omega) (by omega)
  rwa [Lib.itoa_nonneg] at this

theorem dig_one {n : Nat} (h : n < 10) : bytesOfInts [IntKind.wrap .u8 (IntKind.wrap .i64 (48 + (n : Int)))] = [UInt8.ofNat (48 + n)] := by
  rw [wrap64 (by omega) (by omega), wrap8 (by omega) (by omega)]
  show [UInt8.ofNat ((48 + (n : Int)).toNat)] = _
  congr 2

theorem num_n : ∀ (f n : Nat), n < f → n ≤ 1000000 → fn_S_l1Num f (n : Int) = some ((dec n, ()), ())
  | 0, n, h, _ => by omega
  | f + 1, n, h, hb => by
    show fr_S_l1Num (fn_S_l1Num f) (n : Int) = _
    unfold fr_S_l1Num
    by_cases hn : n < 10
    · rw [decide_eq_true (by omega : (n : Int) < 10), cond_true, dig_one hn, show dec n = _ from Lib.decDigits_one hn]
    · rw [decide_eq_false (by omega : ¬ (n : Int) < 10), cond_false, show ((10 : Nat) == 0) = false from rfl, cond_false]
      rw [show (n : Int).tdiv 10 = ((n / 10 : Nat) : Int) from by rw [Int.tdiv_eq_ediv_of_nonneg (by omega)]; omega, show (n : Int).tmod 10 = ((n % 10 : Nat) : Int) from by rw [Int.tmod_eq_emod_of_nonneg (by omega)]; omega]
      rw [wrap64 (x := ((n / 10 : Nat) : Int)) (by omega) (by omega), num_n f (n / 10) (by omega) (by omega), Option.bind_some, cond_false]
      have hl := dec_len (n / 10) (by omega)
      rw [dig_one (by omega)]
      dsimp only
      rw [decide_eq_true (by simp only [List.length_cons, List.length_nil]; omega), cond_true]
      rw [show dec n = dec (n / 10) ++ [UInt8.ofNat (48 + n % 10)] from by
        show Lib.decDigits n = _
        rw [Lib.decDigits, dif_neg hn]]

theorem num_S (n : Nat) (h : n ≤ 1000000) : f_S_l1Num (n : Int) = some ((dec n, ()), ()) := by
  unfold f_S_l1Num
  exact num_n _ n (by simp) h
theorem num_I (n : Nat) (h : n ≤ 1000000) : f_strconv_Itoa (n : Int) = some ((dec n, ()), ()) := by
  unfold f_strconv_Itoa itoaF
  rw [decide_eq_true (by omega), decide_eq_true (by omega : (n : Int) ≤ 9223372036854775807), Lib.itoa_nonneg]
  rfl
end R
end

section
/- A line's places from a version on. -/
open Go Go.Dn
namespace R
set_option linter.unusedVariables false
set_option linter.unusedSectionVars false

def trF (v : List TXT) : Nat → Nat → Int → List Int → List Int
  | 0, _, _, out => out
  | f + 1, n, k, out => bif decide ((matesP (v.getD n []) (v.getD (n + 1) [])).getD k.toNat 0 < 0) then out
      else trF v f (n + 1) ((matesP (v.getD n []) (v.getD (n + 1) [])).getD k.toNat 0) (out ++ [(matesP (v.getD n []) (v.getD (n + 1) [])).getD k.toNat 0])

theorem trF_len (v : List TXT) : ∀ (f n : Nat) (k : Int) (out : List Int), (trF v f n k out).length ≤ out.length + f
  | 0, _, _, out => Nat.le_refl _
  | f + 1, n, k, out => by
    unfold trF
    cases decide ((matesP (v.getD n []) (v.getD (n + 1) [])).getD k.toNat 0 < 0) with
    | true => rw [cond_true]; omega
    | false => rw [cond_false]; refine Nat.le_trans (trF_len v f _ _ _) (by simp; omega)

section
variable {v : List TXT} (h : versP v = true)
include h

theorem tr_I : ∀ (f n : Nat) (k : Int) (out : List Int), n + f + 1 = v.length → 0 ≤ k → k < ((v.getD n []).length : Int) → out.length + f ≤ 100 → w_I_trace_2 (v, (n : Int), k, out, ()) = some (trF v f n k out, ())
  | 0, n, k, out, hn, hk0, hk1, ho => by
    obtain ⟨v1, v2, v3⟩ := vers_at h
    refine fix_end (B := fun d => b_I_trace_2 d.1 d.2.1 d.2.2.1 d.2.2.2.1) ?_
    show b_I_trace_2 v n k out = _
    unfold b_I_trace_2
    rw [wrap64 (by omega) (by omega), decide_eq_false (by omega : ¬ ((n : Int) + 1 < (v.length : Int))), cond_false]
    rfl
  | f + 1, n, k, out, hn, hk0, hk1, ho => by
    obtain ⟨v1, v2, v3⟩ := vers_at h
    have ha := v3 n (by omega)
    have hb := v3 (n + 1) (by omega)
    obtain ⟨m, rfl⟩ := Int.eq_ofNat_of_zero_le hk0
    have hm : m < (v.getD n []).length := by omega
    have hat := matesP_at (b := v.getD (n + 1) []) hm (d := 0)
    have w1 : IntKind.wrap .i64 ((n : Int) + 1) = ((n + 1 : Nat) : Int) := by rw [wrap64 (by omega) (by omega)]; omega
    have e : b_I_trace_2 v n (m : Int) out = bif decide ((matesP (v.getD n []) (v.getD (n + 1) [])).getD m 0 < 0) then some (.inr (out, ())) else
        some (.inl (v, ((n + 1 : Nat) : Int), (matesP (v.getD n []) (v.getD (n + 1) [])).getD m 0, out ++ [(matesP (v.getD n []) (v.getD (n + 1) [])).getD m 0], ())) := by
      unfold b_I_trace_2
      rw [w1, decide_eq_true (by omega : (((n + 1 : Nat) : Int) < (v.length : Int))), cond_true, inB_lt (by omega), cond_true, inB_lt (by omega), cond_true, toNat_cast, toNat_cast, mates_I (by omega) (by omega), Option.bind_some]
      dsimp only
      rw [inB_lt (by rw [matesP_len]; exact hm), cond_true, toNat_cast, roomB_ok (by simp; omega), cond_true]
    unfold trF
    rw [toNat_cast]
    cases hd : decide ((matesP (v.getD n []) (v.getD (n + 1) [])).getD m 0 < 0) with
    | true =>
      rw [hd] at e
      exact fix_end (B := fun d => b_I_trace_2 d.1 d.2.1 d.2.2.1 d.2.2.2.1) e
    | false =>
      rw [hd] at e
      have hd := of_decide_eq_false hd
      refine Eq.trans (fix_go (B := fun d => b_I_trace_2 d.1 d.2.1 d.2.2.1 d.2.2.2.1) e) ?_
      exact tr_I f (n + 1) _ _ (by omega) (by omega) (by omega) (by simp; omega)

end

def okT (v : List TXT) (x y : Int) : Bool := versP v && (inI x 0 ((v.length : Int) - 1) && inI y 0 (((v.getD x.toNat []).length : Int) - 1))
def traceR (v : List TXT) (x y : Int) : List Int := bif okT v x y then trF v (v.length - 1 - x.toNat) x.toNat y [y] else []

theorem okT_at {v : List TXT} {x y : Int} (h : okT v x y = true) : versP v = true ∧ (0 ≤ x ∧ x < v.length) ∧ (0 ≤ y ∧ y < ((v.getD x.toNat []).length : Int)) := by
  unfold okT inI at h
  simp only [Bool.and_eq_true, decide_eq_true_eq] at h
  exact ⟨h.1, by omega, by omega⟩

theorem trace_I {v : List TXT} (hs : SmV v) (x y : Int) : f_I_TraceLine v x y = some ((traceR v x y, okT v x y, ()), ()) := by
  unfold f_I_TraceLine traceR
  rw [vers_I hs, Option.bind_some]
  dsimp only
  cases hv : versP v with
  | false =>
    have : okT v x y = false := by unfold okT; rw [hv]; rfl
    rw [this]; rfl
  | true =>
    obtain ⟨v1, v2, v3⟩ := vers_at hv
    simp only [Bool.not_true, cond_false]
    rw [in_I, Option.bind_some, wrap64 (by omega) (by omega)]
    dsimp only
    change Option.bind (bif !inI x 0 ((v.length : Int) - 1) then _ else _) _ = _
    cases hx : inI x 0 ((v.length : Int) - 1) with
    | false =>
      have : okT v x y = false := by unfold okT; rw [hv, hx]; rfl
      rw [this]; rfl
    | true =>
      have hx' : 0 ≤ x ∧ x < v.length := by unfold inI at hx; simp only [Bool.and_eq_true, decide_eq_true_eq] at hx; omega
      obtain ⟨n, rfl⟩ := Int.eq_ofNat_of_zero_le hx'.1
      have ha := v3 n (by omega)
      simp only [Bool.not_true, cond_false]
      rw [inB_lt (by omega), cond_true, toNat_cast, in_I, wrap64 (by omega) (by omega), Option.bind_some, Option.bind_some]
      dsimp only
      have e : okT v (n : Int) y = inI y 0 (((v.getD n []).length : Int) - 1) := by unfold okT; rw [hv, hx, toNat_cast]; rfl
      rw [e]
      change (bif !inI y 0 (((v.getD n []).length : Int) - 1) then _ else _) = _
      cases hy : inI y 0 (((v.getD n []).length : Int) - 1) with
      | false => rfl
      | true =>
        obtain ⟨_, _, y1, y2⟩ := okT_at (e.trans hy)
        rw [toNat_cast] at y2
        simp only [Bool.not_true, cond_false, cond_true]
        unfold f_I_trace
        rw [tr_I hv (v.length - 1 - n) n y [y] (by omega) y1 y2 (by simp; omega)]
        rfl

theorem tot_ints (l : List Int) : tot S_int l = l.length := by
  rw [show tot S_int l = l.length + (l.map (tot (.int .i64))).sum from tot_slice]
  have : (l.map (tot (.int .i64))).sum = 0 := sum_zero (fun x => by simp only [tot])
  omega

theorem trace_tot (v : List TXT) (x y : Int) : tot S_int (traceR v x y) ≤ 100 := by
  rw [tot_ints]
  unfold traceR
  cases h : okT v x y with
  | false => exact Nat.zero_le _
  | true =>
    obtain ⟨h1, _⟩ := okT_at h
    obtain ⟨v1, v2, v3⟩ := vers_at h1
    rw [cond_true]
    refine Nat.le_trans (trF_len v _ _ _ _) (by simp; omega)
end R
end

section
/- Up to which version each line stays: both sides. -/
open Go Go.Dn
namespace R
set_option linter.unusedVariables false
set_option linter.unusedSectionVars false

def tillV (v : List TXT) : Nat → Nat → Nat → Int
  | 0, n, _ => (n : Int)
  | f + 1, n, k => bif decide ((matesP (v.getD n []) (v.getD (n + 1) [])).getD k 0 < 0) then (n : Int) else tillV v f (n + 1) ((matesP (v.getD n []) (v.getD (n + 1) [])).getD k 0).toNat

theorem trF_till (v : List TXT) : ∀ (f n k : Nat) (out : List Int), ((trF v f n (k : Int) out).length : Int) + n = out.length + tillV v f n k
  | 0, n, k, out => by simp [trF, tillV]
  | f + 1, n, k, out => by
    unfold trF tillV
    rw [toNat_cast]
    cases hd : decide ((matesP (v.getD n []) (v.getD (n + 1) [])).getD k 0 < 0) with
    | true => rfl
    | false =>
      have hd := of_decide_eq_false hd
      obtain ⟨q, hq⟩ := Int.eq_ofNat_of_zero_le (by omega : 0 ≤ (matesP (v.getD n []) (v.getD (n + 1) [])).getD k 0)
      rw [hq, cond_false, cond_false, toNat_cast]
      have := trF_till v f (n + 1) q (out ++ [(q : Int)])
      rw [List.length_append, List.length_singleton] at this
      omega

theorem tillV_bd (v : List TXT) : ∀ (f n k : Nat), (n : Int) ≤ tillV v f n k ∧ tillV v f n k ≤ (n + f : Nat)
  | 0, n, k => by simp [tillV]
  | f + 1, n, k => by
    unfold tillV
    cases hd : decide ((matesP (v.getD n []) (v.getD (n + 1) [])).getD k 0 < 0) with
    | true => rw [cond_true]; omega
    | false =>
      rw [cond_false]
      have := tillV_bd v f (n + 1) ((matesP (v.getD n []) (v.getD (n + 1) [])).getD k 0).toNat
      omega

def tillP (v : List TXT) (n : Nat) : List Int := mkT (v.getD n []).length fun k => tillV v (v.length - 1 - n) n k
def tillsP (v : List TXT) : List (List Int) := mkT v.length (tillP v)
theorem tillP_len (v : List TXT) (n : Nat) : (tillP v n).length = (v.getD n []).length := mkT_len

theorem mkT_succ {α : Type} (n : Nat) (f : Nat → α) : mkT (n + 1) f = mkT n f ++ [f n] := by simp [mkT, List.range_succ]

def tabR (v : List TXT) (m : Nat) (row : List Int) : List (List Int) := mkT v.length fun r => if r = m then row else if m < r then tillP v r else []
def tabQ (v : List TXT) (n : Nat) : List (List Int) := mkT v.length fun r => if n ≤ r then tillP v r else []
theorem tabR_len {v : List TXT} {m : Nat} {row : List Int} : (tabR v m row).length = v.length := mkT_len
theorem tabQ_len {v : List TXT} {m : Nat} : (tabQ v m).length = v.length := mkT_len
theorem tabR_at {v : List TXT} {m : Nat} {row d : List Int} (h : m < v.length) : (tabR v m row).getD m d = row := by
  unfold tabR
  rw [mkT_get h, if_pos rfl]
theorem tabR_next {v : List TXT} {m : Nat} {row d : List Int} (h : m + 1 < v.length) : (tabR v m row).getD (m + 1) d = tillP v (m + 1) := by
  unfold tabR
  rw [mkT_get h, if_neg (by omega), if_pos (by omega)]
theorem tabR_set {v : List TXT} {m : Nat} {row row' : List Int} : (tabR v m row).set m row' = tabR v m row' := by
  unfold tabR
  rw [mkT_set]
  refine mkT_ext fun r hr => ?_
  by_cases h : r = m
  · rw [if_pos h, if_pos h]
  · rw [if_neg h, if_neg h, if_neg h]
theorem tabQ_set {v : List TXT} {m : Nat} {row : List Int} : (tabQ v (m + 1)).set m row = tabR v m row := by
  unfold tabR tabQ
  rw [mkT_set]
  refine mkT_ext fun r hr => ?_
  by_cases h : r = m
  · rw [if_pos h, if_pos h]
  · rw [if_neg h, if_neg h]
    by_cases h2 : m < r
    · rw [if_pos (by omega), if_pos h2]
    · rw [if_neg (by omega), if_neg h2]
theorem tabR_done {v : List TXT} {m : Nat} : tabR v m (tillP v m) = tabQ v m := by
  unfold tabR tabQ
  refine mkT_ext fun r hr => ?_
  by_cases h : r = m
  · subst h; rw [if_pos rfl, if_pos (Nat.le_refl _)]
  · rw [if_neg h]
    by_cases h2 : m < r
    · rw [if_pos h2, if_pos (by omega)]
    · rw [if_neg h2, if_neg (by omega)]

section
variable {v : List TXT} (h : versP v = true)
include h

theorem ownT_I {n : Nat} (hn : n < v.length) (out : List (List Int)) :
    w_I_TillOf_9 (v, out, (n : Int), ([] : List Int), v, (v.length : Int), (n : Int), ((v.getD n []).length : Int), 0, ()) = some (v, out, tillP v n, v, (v.length : Int), (n : Int), ()) := by
  obtain ⟨v1, v2, v3⟩ := vers_at h
  have ha := v3 n hn
  have hloop := fix_all (B := fun d => b_I_TillOf_9 d.1 d.2.1 d.2.2.1 d.2.2.2.1 d.2.2.2.2.1 d.2.2.2.2.2.1 d.2.2.2.2.2.2.1 d.2.2.2.2.2.2.2.1 d.2.2.2.2.2.2.2.2.1)
    (fun i => (v, out, (n : Int), mkT i (fun k => tillV v (v.length - 1 - n) n k), v, (v.length : Int), (n : Int), ((v.getD n []).length : Int), (i : Int), ())) (v.getD n []).length (r := (v, out, tillP v n, v, (v.length : Int), (n : Int), ()))
    (fun i hi => by
      show b_I_TillOf_9 v out (n : Int) (mkT i (fun k => tillV v (v.length - 1 - n) n k)) v (v.length : Int) (n : Int) ((v.getD n []).length : Int) (i : Int) = _
      unfold b_I_TillOf_9 f_I_trace
      have hl := trF_len v (v.length - 1 - n) n (i : Int) [(i : Int)]
      have ht := trF_till v (v.length - 1 - n) n i [(i : Int)]
      rw [List.length_singleton] at hl ht
      rw [decide_eq_true (by omega : (i : Int) < ((v.getD n []).length : Int)), cond_true, tr_I h (v.length - 1 - n) n (i : Int) [(i : Int)] (by omega) (by omega) (by omega) (by simp; omega), Option.bind_some, Option.bind_some]
      dsimp only
      have w1 : IntKind.wrap .i64 ((n : Int) + ((trF v (v.length - 1 - n) n (i : Int) [(i : Int)]).length : Int)) = (n : Int) + ((trF v (v.length - 1 - n) n (i : Int) [(i : Int)]).length : Int) := wrap64 (by omega) (by omega)
      have w2 : IntKind.wrap .i64 ((n : Int) + ((trF v (v.length - 1 - n) n (i : Int) [(i : Int)]).length : Int) - 1) = (n : Int) + ((trF v (v.length - 1 - n) n (i : Int) [(i : Int)]).length : Int) - 1 := wrap64 (by omega) (by omega)
      have w3 : IntKind.wrap .i64 ((i : Int) + 1) = (i : Int) + 1 := wrap64 (by omega) (by omega)
      rw [roomB_ok (by rw [mkT_len]; simp; omega), cond_true, w1, w2, w3, mkT_succ,
        show (n : Int) + ((trF v (v.length - 1 - n) n (i : Int) [(i : Int)]).length : Int) - 1 = tillV v (v.length - 1 - n) n i from by omega]
      rfl)
    (by
      show b_I_TillOf_9 v out (n : Int) _ v (v.length : Int) (n : Int) ((v.getD n []).length : Int) ((v.getD n []).length : Int) = _
      unfold b_I_TillOf_9
      rw [decide_eq_false (by omega : ¬ (((v.getD n []).length : Int) < ((v.getD n []).length : Int))), cond_false]
      rfl)
  exact hloop

theorem tills_I : w_I_TillOf_5 (v, ([] : List (List Int)), v, (v.length : Int), 0, ()) = some (tillsP v, ()) := by
  obtain ⟨v1, v2, v3⟩ := vers_at h
  have hloop := fix_all (B := fun d => b_I_TillOf_5 d.1 d.2.1 d.2.2.1 d.2.2.2.1 d.2.2.2.2.1) (fun i => (v, mkT i (tillP v), v, (v.length : Int), (i : Int), ())) v.length (r := (tillsP v, ()))
    (fun i hi => by
      show b_I_TillOf_5 v (mkT i (tillP v)) v (v.length : Int) (i : Int) = _
      unfold b_I_TillOf_5
      rw [decide_eq_true (by omega : (i : Int) < (v.length : Int)), cond_true, inB_lt hi, cond_true, toNat_cast, ownT_I h hi, Option.bind_some]
      dsimp only
      rw [roomB_ok (by rw [mkT_len]; simp; omega), cond_true, wrap64 (by omega) (by omega), mkT_succ]
      rfl)
    (by
      show b_I_TillOf_5 v (mkT v.length (tillP v)) v (v.length : Int) (v.length : Int) = _
      unfold b_I_TillOf_5
      rw [decide_eq_false (by omega : ¬ ((v.length : Int) < (v.length : Int))), cond_false]
      rfl)
  exact hloop

theorem fillT_S {m : Nat} (hm : m < v.length) :
    w_S_TillOf_9 (v, tabR v m (List.replicate (v.getD m []).length (0 : Int)), (m : Int), ((v.getD m []).length : Int), 0, ()) = some (v, tabR v m (mkT (v.getD m []).length fun _ => (m : Int)), (m : Int), ()) := by
  obtain ⟨v1, v2, v3⟩ := vers_at h
  have ha := v3 m hm
  generalize (v.getD m []).length = c at ha ⊢
  have hloop := fix_all (B := fun d => b_S_TillOf_9 d.1 d.2.1 d.2.2.1 d.2.2.2.1 d.2.2.2.2.1) (fun i => (v, tabR v m (mkT c fun k => if k < i then (m : Int) else 0), (m : Int), (c : Int), (i : Int), ())) c (r := (v, tabR v m (mkT c fun _ => (m : Int)), (m : Int), ()))
    (fun i hi => by
      show b_S_TillOf_9 v (tabR v m (mkT c fun k => if k < i then (m : Int) else 0)) (m : Int) (c : Int) (i : Int) = _
      unfold b_S_TillOf_9
      rw [decide_eq_true (by omega : (i : Int) < (c : Int)), cond_true, inB_lt (by rw [tabR_len]; exact hm), cond_true, toNat_cast, tabR_at hm, inB_lt (by rw [mkT_len]; exact hi), cond_true, tabR_set, toNat_cast, wrap64 (by omega) (by omega), mkT_set]
      rw [show (mkT c fun r => if r = i then (m : Int) else if r < i then (m : Int) else 0) = mkT c fun r => if r < i + 1 then (m : Int) else 0 from mkT_ext fun r _ => by
        by_cases h1 : r = i
        · rw [if_pos h1, if_pos (by omega)]
        · rw [if_neg h1]
          by_cases h2 : r < i
          · rw [if_pos h2, if_pos (by omega)]
          · rw [if_neg h2, if_neg (by omega)]]
      rfl)
    (by
      show b_S_TillOf_9 v (tabR v m (mkT c fun k => if k < c then (m : Int) else 0)) (m : Int) (c : Int) (c : Int) = _
      unfold b_S_TillOf_9
      rw [decide_eq_false (by omega : ¬ ((c : Int) < (c : Int))), cond_false, show (mkT c fun k => if k < c then (m : Int) else 0) = mkT c fun _ => (m : Int) from mkT_ext fun r hr => if_pos hr])
  refine Eq.trans ?_ hloop
  rw [mkT_rep]
  rfl

theorem updT_S {m : Nat} (hm : m + 1 < v.length) :
    w_S_TillOf_15 (v, tabR v m (mkT (v.getD m []).length fun _ => (m : Int)), (m : Int), matesP (v.getD m []) (v.getD (m + 1) []), ((matesP (v.getD m []) (v.getD (m + 1) [])).length : Int), 0, ()) = some (v, tabR v m (tillP v m), (m : Int), ()) := by
  obtain ⟨v1, v2, v3⟩ := vers_at h
  have ha := v3 m (by omega)
  have hb := v3 (m + 1) hm
  have hml := matesP_len (v.getD m []) (v.getD (m + 1) [])
  have hat : ∀ k, k < (v.getD m []).length → _ := fun k hk => matesP_at (b := v.getD (m + 1) []) hk (d := 0)
  have hF : v.length - 1 - m = (v.length - 1 - (m + 1)) + 1 := by omega
  have htill : ∀ k, tillV v (v.length - 1 - m) m k = bif decide ((matesP (v.getD m []) (v.getD (m + 1) [])).getD k 0 < 0) then (m : Int) else tillV v (v.length - 1 - (m + 1)) (m + 1) ((matesP (v.getD m []) (v.getD (m + 1) [])).getD k 0).toNat := fun k => by rw [hF]; rfl
  generalize matesP (v.getD m []) (v.getD (m + 1) []) = mt at hml hat htill ⊢
  rw [hml]
  have hloop := fix_all (B := fun d => b_S_TillOf_15 d.1 d.2.1 d.2.2.1 d.2.2.2.1 d.2.2.2.2.1 d.2.2.2.2.2.1) (fun i => (v, tabR v m (mkT (v.getD m []).length fun k => if k < i then tillV v (v.length - 1 - m) m k else (m : Int)), (m : Int), mt, ((v.getD m []).length : Int), (i : Int), ())) (v.getD m []).length
    (r := (v, tabR v m (tillP v m), (m : Int), ()))
    (fun i hi => by
      show b_S_TillOf_15 v (tabR v m (mkT (v.getD m []).length fun k => if k < i then tillV v (v.length - 1 - m) m k else (m : Int))) (m : Int) mt ((v.getD m []).length : Int) (i : Int) = _
      unfold b_S_TillOf_15
      have w1 : IntKind.wrap .i64 ((m : Int) + 1) = ((m + 1 : Nat) : Int) := by rw [wrap64 (by omega) (by omega)]; omega
      have w2 : IntKind.wrap .i64 ((i : Int) + 1) = ((i + 1 : Nat) : Int) := by rw [wrap64 (by omega) (by omega)]; omega
      have hai := hat i hi
      have hti := htill i
      have hone : ∀ x : Int, x = tillV v (v.length - 1 - m) m i → (mkT (v.getD m []).length fun r => if r = i then x else if r < i then tillV v (v.length - 1 - m) m r else (m : Int)) = mkT (v.getD m []).length fun r => if r < i + 1 then tillV v (v.length - 1 - m) m r else (m : Int) := fun x hx => mkT_ext fun r _ => by
        by_cases h1 : r = i
        · rw [if_pos h1, if_pos (by omega), hx, h1]
        · rw [if_neg h1]
          by_cases h2 : r < i
          · rw [if_pos h2, if_pos (by omega)]
          · rw [if_neg h2, if_neg (by omega)]
      rw [decide_eq_true (by omega : (i : Int) < ((v.getD m []).length : Int)), cond_true, inB_lt (by omega : i < mt.length), cond_true, toNat_cast, w1, inB_lt (by rw [tabR_len]; omega), cond_true, inB_lt (by rw [tabR_len]; omega), cond_true, toNat_cast, toNat_cast, tabR_at (by omega), tabR_next hm, tillP_len, inB_lt (by rw [mkT_len]; exact hi), tabR_set, mkT_set]
      by_cases hd : mt.getD i 0 ≥ 0
      · obtain ⟨q, hq⟩ := Int.eq_ofNat_of_zero_le hd
        rw [hq] at hai hti ⊢
        rw [decide_eq_false (by omega : ¬ ((q : Int) < 0)), cond_false, toNat_cast] at hti
        rw [decide_eq_true (by omega : (q : Int) ≥ 0), cond_true, inB_lt (by omega), cond_true, cond_true, Option.bind_some, toNat_cast, hone _ (by rw [hti]; unfold tillP; rw [mkT_get (by omega)])]
        simp only [w2]
      · rw [decide_eq_true (by omega : mt.getD i 0 < 0), cond_true] at hti
        rw [decide_eq_false hd, cond_false, Option.bind_some]
        simp only [w2]
        rw [show (mkT (v.getD m []).length fun k => if k < i then tillV v (v.length - 1 - m) m k else (m : Int)) = mkT (v.getD m []).length fun r => if r < i + 1 then tillV v (v.length - 1 - m) m r else (m : Int) from mkT_ext fun r _ => by
          by_cases h1 : r = i
          · rw [if_neg (by omega), if_pos (by omega), h1, hti]
          · by_cases h2 : r < i
            · rw [if_pos h2, if_pos (by omega)]
            · rw [if_neg h2, if_neg (by omega)]])
    (by
      show b_S_TillOf_15 v (tabR v m (mkT (v.getD m []).length fun k => if k < (v.getD m []).length then tillV v (v.length - 1 - m) m k else (m : Int))) (m : Int) mt ((v.getD m []).length : Int) ((v.getD m []).length : Int) = _
      unfold b_S_TillOf_15
      rw [decide_eq_false (by omega : ¬ (((v.getD m []).length : Int) < ((v.getD m []).length : Int))), cond_false, show (mkT (v.getD m []).length fun k => if k < (v.getD m []).length then tillV v (v.length - 1 - m) m k else (m : Int)) = tillP v m from mkT_ext fun r hr => if_pos hr])
  exact hloop

theorem tills_S : w_S_TillOf_5 (v, List.replicate v.length ([] : List Int), (v.length : Int) - 1, ()) = some (tillsP v, ()) := by
  obtain ⟨v1, v2, v3⟩ := vers_at h
  have := fix_down (B := fun d => b_S_TillOf_5 d.1 d.2.1 d.2.2.1) (fun m => (v, tabQ v m, (m : Int) - 1, ())) (r := (tillsP v, ()))
    (by
      show b_S_TillOf_5 v (tabQ v 0) (((0 : Nat) : Int) - 1) = _
      unfold b_S_TillOf_5
      rw [decide_eq_false (by omega : ¬ ((((0 : Nat) : Int) - 1) ≥ 0)), cond_false, show tabQ v 0 = tillsP v from mkT_ext fun r _ => if_pos (Nat.zero_le r)]) v.length
    (fun m hm => by
      show b_S_TillOf_5 v (tabQ v (m + 1)) (((m + 1 : Nat) : Int) - 1) = _
      rw [show ((m + 1 : Nat) : Int) - 1 = (m : Int) from by omega]
      unfold b_S_TillOf_5
      have ha := v3 m hm
      have w1 : IntKind.wrap .i64 ((m : Int) + 1) = ((m + 1 : Nat) : Int) := by rw [wrap64 (by omega) (by omega)]; omega
      have w2 : IntKind.wrap .i64 ((v.length : Int) - 1) = (v.length : Int) - 1 := wrap64 (by omega) (by omega)
      have w3 : IntKind.wrap .i64 ((m : Int) - 1) = (m : Int) - 1 := wrap64 (by omega) (by omega)
      rw [decide_eq_true (by omega : (m : Int) ≥ 0), cond_true, inB_lt hm, cond_true, toNat_cast, room_len (by omega), cond_true, inB_lt (by rw [tabQ_len]; exact hm), cond_true, toNat_cast, tabQ_set, inB_lt (by rw [tabR_len]; exact hm), cond_true, tabR_at hm, List.length_replicate, fillT_S h hm, Option.bind_some]
      dsimp only
      rw [w1, w2, toNat_cast, toNat_cast]
      by_cases hl : m + 1 < v.length
      · rw [decide_eq_true (by omega : (m : Int) < (v.length : Int) - 1), cond_true, inB_lt hm, cond_true, inB_lt hl, cond_true, next_S (by omega) (by have := v3 (m + 1) hl; omega), Option.bind_some]
        dsimp only
        rw [updT_S h hl, Option.bind_some, Option.bind_some]
        dsimp only
        rw [tabR_done, w3]
      · rw [decide_eq_false (by omega : ¬ ((m : Int) < (v.length : Int) - 1)), cond_false, Option.bind_some]
        dsimp only
        rw [show (mkT (v.getD m []).length fun _ => (m : Int)) = tillP v m from mkT_ext fun k _ => by rw [show v.length - 1 - m = 0 from by omega]; rfl, tabR_done, w3])
  refine Eq.trans ?_ this
  rw [mkT_rep, show (mkT v.length fun _ => ([] : List Int)) = tabQ v v.length from mkT_ext fun r hr => (if_neg (by omega)).symm]
  rfl
end

def tillR (v : List TXT) : List (List Int) := bif versP v then tillsP v else []

theorem till_I {v : List TXT} (hs : SmV v) : f_I_TillOf v = some ((tillR v, versP v, ()), ()) := by
  unfold f_I_TillOf tillR
  rw [vers_I hs, Option.bind_some]
  dsimp only
  cases hv : versP v with
  | false => rfl
  | true =>
    simp only [Bool.not_true, cond_false, cond_true]
    rw [tills_I hv]
    rfl
theorem till_S {v : List TXT} (hs : SmV v) : f_S_TillOf v = some ((tillR v, versP v, ()), ()) := by
  unfold f_S_TillOf tillR
  rw [vers_S hs, Option.bind_some]
  dsimp only
  cases hv : versP v with
  | false => rfl
  | true =>
    obtain ⟨v1, v2, v3⟩ := vers_at hv
    simp only [Bool.not_true, cond_false, cond_true]
    rw [room_len (by omega), cond_true, toNat_cast, wrap64 (by omega) (by omega), tills_S hv]
    rfl

theorem till_tot (v : List TXT) : tot S_S_int (tillR v) ≤ 2000 := by
  unfold tillR
  cases h : versP v with
  | false => exact Nat.zero_le _
  | true =>
    obtain ⟨v1, v2, v3⟩ := vers_at h
    rw [cond_true, show tot S_S_int (tillsP v) = (tillsP v).length + ((tillsP v).map (tot S_int)).sum from tot_slice]
    have hl : (tillsP v).length = v.length := mkT_len
    have := sum_const (l := tillsP v) (f := tot S_int) (c := 40) (fun x hx => by
      obtain ⟨m, hm, rfl⟩ := List.mem_map.1 hx
      rw [tot_ints, tillP_len]
      exact v3 m (List.mem_range.1 hm))
    omega
end R
end

section
/- Since when each line is there: both sides. -/
open Go Go.Dn
namespace R
set_option linter.unusedVariables false
set_option linter.unusedSectionVars false

def stay (prev m o : List Int) (k : Nat) : List Int := bif decide (m.getD k 0 ≥ 0) then o.set (m.getD k 0).toNat (prev.getD k 0) else o
theorem stay_len (prev m o : List Int) (k : Nat) : (stay prev m o k).length = o.length := by
  unfold stay
  cases decide (m.getD k 0 ≥ 0) <;> simp
def stayF (prev m base : List Int) : List Int := (List.range m.length).foldl (stay prev m) base
theorem stayF_len (prev m base : List Int) : (stayF prev m base).length = base.length := by
  unfold stayF
  generalize List.range m.length = l
  induction l generalizing base with
  | nil => rfl
  | cons x l ih => rw [List.foldl_cons, ih, stay_len]

def sinceP (v : List TXT) : Nat → List Int
  | 0 => List.replicate (v.getD 0 []).length 0
  | n + 1 => stayF (sinceP v n) (matesP (v.getD n []) (v.getD (n + 1) [])) (List.replicate (v.getD (n + 1) []).length ((n + 1 : Nat) : Int))
theorem sinceP_len (v : List TXT) (n : Nat) : (sinceP v n).length = (v.getD n []).length := by
  cases n with
  | zero => simp [sinceP]
  | succ n => simp [sinceP, stayF_len]
def sinceL (v : List TXT) (n : Nat) : List (List Int) := (List.range n).map (sinceP v)
theorem sinceL_len (v : List TXT) (n : Nat) : (sinceL v n).length = n := by simp [sinceL]
theorem sinceL_succ (v : List TXT) (n : Nat) : sinceL v (n + 1) = sinceL v n ++ [sinceP v n] := by simp [sinceL, List.range_succ]
theorem sinceL_at {v : List TXT} {n i : Nat} (h : i < n) {d : List Int} : (sinceL v n).getD i d = sinceP v i := by rw [getD_of (by rw [sinceL_len]; exact h)]; simp [sinceL]

section
variable {v : List TXT} (h : versP v = true)
include h

theorem stay_I {n : Nat} (hn : n + 1 < v.length) :
    w_I_since_8 (v, sinceL v (n + 1), ((n + 1 : Nat) : Int), List.replicate (v.getD (n + 1) []).length ((n + 1 : Nat) : Int), v, (v.length : Int), ((n + 1 : Nat) : Int), matesP (v.getD n []) (v.getD (n + 1) []), ((matesP (v.getD n []) (v.getD (n + 1) [])).length : Int), 0, ()) =
      some (v, sinceL v (n + 1), sinceP v (n + 1), v, (v.length : Int), ((n + 1 : Nat) : Int), ()) := by
  obtain ⟨v1, v2, v3⟩ := vers_at h
  have ha := v3 n (by omega)
  generalize hm : matesP (v.getD n []) (v.getD (n + 1) []) = m
  have hml : m.length = (v.getD n []).length := by rw [← hm, matesP_len]
  have hp := sinceP_len v n
  have hloop := (fix_fold (B := fun d => b_I_since_8 d.1 d.2.1 d.2.2.1 d.2.2.2.1 d.2.2.2.2.1 d.2.2.2.2.2.1 d.2.2.2.2.2.2.1 d.2.2.2.2.2.2.2.1 d.2.2.2.2.2.2.2.2.1 d.2.2.2.2.2.2.2.2.2.1) (List.range m.length) (stay (sinceP v n) m)
    (fun o i => (v, sinceL v (n + 1), ((n + 1 : Nat) : Int), o, v, (v.length : Int), ((n + 1 : Nat) : Int), m, (m.length : Int), (i : Int), ())) (fun o => (v, sinceL v (n + 1), o, v, (v.length : Int), ((n + 1 : Nat) : Int), ())) (fun _ o => o.length = (v.getD (n + 1) []).length)
    (fun i hi o ho => by
      rw [List.length_range] at hi
      refine ⟨by rw [stay_len]; exact ho, ?_⟩
      show b_I_since_8 v (sinceL v (n + 1)) ((n + 1 : Nat) : Int) o v (v.length : Int) ((n + 1 : Nat) : Int) m (m.length : Int) (i : Int) = _
      unfold b_I_since_8
      have w1 : IntKind.wrap .i64 (((n + 1 : Nat) : Int) - 1) = (n : Int) := by rw [wrap64 (by omega) (by omega)]; omega
      have w2 : IntKind.wrap .i64 ((i : Int) + 1) = ((i + 1 : Nat) : Int) := by rw [wrap64 (by omega) (by omega)]; omega
      have hat : m.getD i 0 = -1 ∨ (0 ≤ m.getD i 0 ∧ m.getD i 0 < ((v.getD (n + 1) []).length : Int)) := by rw [← hm]; exact matesP_at (by omega)
      have hst : stay (sinceP v n) m o (List.range m.length)[i] = bif decide (m.getD i 0 ≥ 0) then o.set (m.getD i 0).toNat ((sinceP v n).getD i 0) else o := by rw [List.getElem_range]; rfl
      rw [decide_eq_true (by omega : (i : Int) < (m.length : Int)), cond_true, inB_lt hi, cond_true, toNat_cast, w1, inB_lt (by rw [sinceL_len]; omega), toNat_cast, sinceL_at (by omega), inB_lt (by omega : i < (sinceP v n).length), hst]
      cases hd : decide (m.getD i 0 ≥ 0) with
      | false => simp only [cond_false, Option.bind_some, w2]
      | true =>
        have hd := of_decide_eq_true hd
        obtain ⟨q, hq⟩ := Int.eq_ofNat_of_zero_le hd
        rw [hq] at hat ⊢
        simp only [cond_true]
        rw [inB_lt (by omega)]
        simp only [cond_true, Option.bind_some, w2])
    (fun o ho => by
      rw [List.length_range]
      show b_I_since_8 v (sinceL v (n + 1)) ((n + 1 : Nat) : Int) o v (v.length : Int) ((n + 1 : Nat) : Int) m (m.length : Int) (m.length : Int) = _
      unfold b_I_since_8
      rw [decide_eq_false (by omega : ¬ ((m.length : Int) < (m.length : Int))), cond_false]) (List.replicate (v.getD (n + 1) []).length ((n + 1 : Nat) : Int)) (by simp)).1
  refine Eq.trans hloop ?_
  simp only [sinceP, stayF, hm]

theorem rep_I (x : Int) {n : Nat} (hn : n ≤ 1048576) : f_slices_Repeat_int [x] (n : Int) = some ((List.replicate n x, ()), ()) := by
  unfold f_slices_Repeat_int repF
  dsimp only
  rw [decide_eq_true (by omega : (0 : Int) ≤ (n : Int)), decide_eq_true (show (n : Int) ≤ 1099511627776 by omega)]
  rfl

theorem since_I : f_I_since v = some ((sinceL v v.length, ()), ()) := by
  obtain ⟨v1, v2, v3⟩ := vers_at h
  unfold f_I_since
  have hloop := fix_all (B := fun d => b_I_since_3 d.1 d.2.1 d.2.2.1 d.2.2.2.1 d.2.2.2.2.1) (fun i => (v, sinceL v i, v, (v.length : Int), (i : Int), ())) v.length (r := (sinceL v v.length, ()))
    (fun i hi => by
      show b_I_since_3 v (sinceL v i) v (v.length : Int) (i : Int) = _
      unfold b_I_since_3
      have ha := v3 i hi
      have w2 : IntKind.wrap .i64 ((i : Int) + 1) = ((i + 1 : Nat) : Int) := by rw [wrap64 (by omega) (by omega)]; omega
      rw [decide_eq_true (by omega : (i : Int) < (v.length : Int)), cond_true, inB_lt hi, cond_true, toNat_cast, rep_I h (i : Int) (by omega), Option.bind_some]
      dsimp only
      cases i with
      | zero =>
        rw [decide_eq_false (by omega : ¬ (((0 : Nat) : Int) > 0)), cond_false, Option.bind_some]
        dsimp only
        rw [roomB_ok (by rw [sinceL_len]; simp), cond_true, sinceL_succ, w2]
        rfl
      | succ n =>
        have hb := v3 n (by omega)
        have w1 : IntKind.wrap .i64 (((n + 1 : Nat) : Int) - 1) = (n : Int) := by rw [wrap64 (by omega) (by omega)]; omega
        rw [decide_eq_true (by omega : (((n + 1 : Nat) : Int) > 0)), cond_true, w1, inB_lt (by omega), cond_true, toNat_cast, mates_I (by omega) (by omega), Option.bind_some]
        dsimp only
        rw [stay_I h hi, Option.bind_some, Option.bind_some]
        dsimp only
        rw [roomB_ok (by rw [sinceL_len]; simp; omega), cond_true, sinceL_succ v (n + 1), w2])
    (by
      show b_I_since_3 v (sinceL v v.length) v (v.length : Int) (v.length : Int) = _
      unfold b_I_since_3
      rw [decide_eq_false (by omega : ¬ ((v.length : Int) < (v.length : Int))), cond_false])
  rw [show w_I_since_3 (v, [], v, (v.length : Int), 0, ()) = _ from hloop]
  rfl

theorem stay_S {n : Nat} (hn : n + 1 < v.length) (o0 : List Int) (ho0 : o0.length = (v.getD (n + 1) []).length) :
    w_S_l12Since_12 (v, sinceP v n, ((n + 1 : Nat) : Int), o0, matesP (v.getD n []) (v.getD (n + 1) []), ((matesP (v.getD n []) (v.getD (n + 1) [])).length : Int), 0, ()) =
      some (v, ((n + 1 : Nat) : Int), stayF (sinceP v n) (matesP (v.getD n []) (v.getD (n + 1) [])) o0, ()) := by
  obtain ⟨v1, v2, v3⟩ := vers_at h
  have ha := v3 n (by omega)
  generalize hm : matesP (v.getD n []) (v.getD (n + 1) []) = m
  have hml : m.length = (v.getD n []).length := by rw [← hm, matesP_len]
  have hp := sinceP_len v n
  have hloop := (fix_fold (B := fun d => b_S_l12Since_12 d.1 d.2.1 d.2.2.1 d.2.2.2.1 d.2.2.2.2.1 d.2.2.2.2.2.1 d.2.2.2.2.2.2.1) (List.range m.length) (stay (sinceP v n) m)
    (fun o i => (v, sinceP v n, ((n + 1 : Nat) : Int), o, m, (m.length : Int), (i : Int), ())) (fun o => (v, ((n + 1 : Nat) : Int), o, ())) (fun _ o => o.length = (v.getD (n + 1) []).length)
    (fun i hi o ho => by
      rw [List.length_range] at hi
      refine ⟨by rw [stay_len]; exact ho, ?_⟩
      show b_S_l12Since_12 v (sinceP v n) ((n + 1 : Nat) : Int) o m (m.length : Int) (i : Int) = _
      unfold b_S_l12Since_12
      have w2 : IntKind.wrap .i64 ((i : Int) + 1) = ((i + 1 : Nat) : Int) := by rw [wrap64 (by omega) (by omega)]; omega
      have hat : m.getD i 0 = -1 ∨ (0 ≤ m.getD i 0 ∧ m.getD i 0 < ((v.getD (n + 1) []).length : Int)) := by rw [← hm]; exact matesP_at (by omega)
      have hst : stay (sinceP v n) m o (List.range m.length)[i] = bif decide (m.getD i 0 ≥ 0) then o.set (m.getD i 0).toNat ((sinceP v n).getD i 0) else o := by rw [List.getElem_range]; rfl
      rw [decide_eq_true (by omega : (i : Int) < (m.length : Int)), cond_true, inB_lt hi, cond_true, toNat_cast, inB_lt (by omega : i < (sinceP v n).length), hst]
      cases hd : decide (m.getD i 0 ≥ 0) with
      | false => simp only [cond_false, Option.bind_some, w2]
      | true =>
        have hd := of_decide_eq_true hd
        obtain ⟨q, hq⟩ := Int.eq_ofNat_of_zero_le hd
        rw [hq] at hat ⊢
        simp only [cond_true]
        rw [inB_lt (by omega)]
        simp only [cond_true, Option.bind_some, w2])
    (fun o ho => by
      rw [List.length_range]
      show b_S_l12Since_12 v (sinceP v n) ((n + 1 : Nat) : Int) o m (m.length : Int) (m.length : Int) = _
      unfold b_S_l12Since_12
      rw [decide_eq_false (by omega : ¬ ((m.length : Int) < (m.length : Int))), cond_false]) o0 ho0).1
  exact hloop

theorem fill_S {n : Nat} (hn : n + 1 < v.length) :
    w_S_l12Since_7 (v, sinceP v n, ((n + 1 : Nat) : Int), List.replicate (v.getD (n + 1) []).length (0 : Int), ((v.getD (n + 1) []).length : Int), 0, ()) = some (v, sinceP v n, ((n + 1 : Nat) : Int), List.replicate (v.getD (n + 1) []).length ((n + 1 : Nat) : Int), ()) := by
  obtain ⟨v1, v2, v3⟩ := vers_at h
  have ha := v3 (n + 1) hn
  generalize (v.getD (n + 1) []).length = c at ha ⊢
  have hfill := fix_all (B := fun d => b_S_l12Since_7 d.1 d.2.1 d.2.2.1 d.2.2.2.1 d.2.2.2.2.1 d.2.2.2.2.2.1) (fun i => (v, sinceP v n, ((n + 1 : Nat) : Int), (List.replicate c ((n + 1 : Nat) : Int)).take i ++ List.replicate ((List.replicate c ((n + 1 : Nat) : Int)).length - i) (0 : Int), (c : Int), (i : Int), ())) c
    (r := (v, sinceP v n, ((n + 1 : Nat) : Int), List.replicate c ((n + 1 : Nat) : Int), ()))
    (fun i hi => by
      show b_S_l12Since_7 v (sinceP v n) ((n + 1 : Nat) : Int) ((List.replicate c ((n + 1 : Nat) : Int)).take i ++ List.replicate ((List.replicate c ((n + 1 : Nat) : Int)).length - i) (0 : Int)) c i = _
      unfold b_S_l12Since_7
      have hi' : i < (List.replicate c ((n + 1 : Nat) : Int)).length := by rw [List.length_replicate]; exact hi
      have hs := set_fill (d := (0 : Int)) hi'
      rw [List.getElem_replicate] at hs
      rw [decide_eq_true (by omega : (i : Int) < (c : Int)), cond_true, inB_lt (by simp; omega), cond_true, toNat_cast, hs, wrap64 (by omega) (by omega)]
      rfl)
    (by
      show b_S_l12Since_7 v (sinceP v n) ((n + 1 : Nat) : Int) _ c (c : Int) = _
      unfold b_S_l12Since_7
      rw [decide_eq_false (by omega : ¬ ((c : Int) < (c : Int))), cond_false]
      simp)
  refine Eq.trans ?_ hfill
  unfold w_S_l12Since_7
  congr 1
  simp

theorem since_S : f_S_l12Since v = some ((sinceP v (v.length - 1), ()), ()) := by
  obtain ⟨v1, v2, v3⟩ := vers_at h
  unfold f_S_l12Since
  have h0 := v3 0 (by omega)
  rw [show inB 0 v.length = true from inB_lt (i := 0) (by omega), cond_true, show ((0 : Int).toNat) = 0 from rfl, room_len (by omega), cond_true, toNat_cast]
  have hloop := fix_all (B := fun d => b_S_l12Since_3 d.1 d.2.1 d.2.2.1) (fun i => (v, sinceP v i, ((i + 1 : Nat) : Int), ())) (v.length - 1) (r := (sinceP v (v.length - 1), ()))
    (fun n hi => by
      show b_S_l12Since_3 v (sinceP v n) ((n + 1 : Nat) : Int) = _
      unfold b_S_l12Since_3
      have ha := v3 (n + 1) (by omega)
      have hb := v3 n (by omega)
      have w2 : IntKind.wrap .i64 (((n + 1 : Nat) : Int) + 1) = ((n + 1 + 1 : Nat) : Int) := by rw [wrap64 (by omega) (by omega)]; omega
      have w1 : IntKind.wrap .i64 (((n + 1 : Nat) : Int) - 1) = (n : Int) := by rw [wrap64 (by omega) (by omega)]; omega
      rw [decide_eq_true (by omega : ((n + 1 : Nat) : Int) < (v.length : Int)), cond_true, inB_lt (by omega), cond_true, toNat_cast, room_len (by omega), cond_true, toNat_cast, List.length_replicate, fill_S h (by omega), Option.bind_some]
      dsimp only
      rw [w1, inB_lt (by omega), cond_true, inB_lt (by omega), cond_true, toNat_cast, toNat_cast, next_S (by omega) (by omega), Option.bind_some]
      dsimp only
      rw [stay_S h (by omega) _ (by simp), Option.bind_some]
      dsimp only
      rw [w2]
      rfl)
    (by
      show b_S_l12Since_3 v (sinceP v (v.length - 1)) ((v.length - 1 + 1 : Nat) : Int) = _
      unfold b_S_l12Since_3
      rw [decide_eq_false (by omega : ¬ (((v.length - 1 + 1 : Nat) : Int) < (v.length : Int))), cond_false])
  rw [show w_S_l12Since_3 (v, List.replicate (v.getD 0 []).length (0 : Int), 1, ()) = _ from hloop]
  rfl
end

def sinceR (v : List TXT) : List Int := bif versP v then sinceP v (v.length - 1) else []

theorem sinceOf_I {v : List TXT} (hs : SmV v) : f_I_SinceOf v = some ((sinceR v, versP v, ()), ()) := by
  unfold f_I_SinceOf sinceR
  rw [vers_I hs, Option.bind_some]
  dsimp only
  cases hv : versP v with
  | false => rfl
  | true =>
    obtain ⟨v1, v2, v3⟩ := vers_at hv
    simp only [Bool.not_true, cond_false, cond_true]
    rw [since_I hv, Option.bind_some]
    dsimp only
    rw [show IntKind.wrap .i64 ((v.length : Int) - 1) = ((v.length - 1 : Nat) : Int) from by rw [wrap64 (by omega) (by omega)]; omega, inB_lt (by rw [sinceL_len]; omega), cond_true, toNat_cast, sinceL_at (by omega)]

theorem sinceOf_S {v : List TXT} (hs : SmV v) : f_S_SinceOf v = some ((sinceR v, versP v, ()), ()) := by
  unfold f_S_SinceOf sinceR
  rw [vers_S hs, Option.bind_some]
  dsimp only
  cases hv : versP v with
  | false => rfl
  | true =>
    simp only [Bool.not_true, cond_false, cond_true]
    rw [since_S hv, Option.bind_some]

theorem since_tot (v : List TXT) : tot S_int (sinceR v) ≤ 100 := by
  rw [tot_ints]
  unfold sinceR
  cases h : versP v with
  | false => exact Nat.zero_le _
  | true =>
    obtain ⟨v1, v2, v3⟩ := vers_at h
    rw [cond_true, sinceP_len]
    have := v3 (v.length - 1) (by omega)
    omega
end R
end

section
/- The lines that are there since a version: both sides. -/
open Go Go.Dn
namespace R
set_option linter.unusedVariables false
set_option linter.unusedSectionVars false

def pickL (x : Int) (s : List Int) (l : TXT) (o : TXT) (k : Nat) : TXT := bif s.getD k 0 == x then o ++ [l.getD k []] else o
def pickF (x : Int) (s : List Int) (l : TXT) : TXT := (List.range l.length).foldl (pickL x s l) []

theorem pickF_bd (x : Int) (s : List Int) (l : TXT) : ∀ (n : Nat), n ≤ l.length → ((List.range n).foldl (pickL x s l) []).length ≤ n ∧ ∀ y ∈ (List.range n).foldl (pickL x s l) [], y ∈ l
  | 0, _ => ⟨Nat.le_refl _, fun y hy => by simp at hy⟩
  | n + 1, hn => by
    obtain ⟨h1, h2⟩ := pickF_bd x s l n (by omega)
    rw [List.range_succ, List.foldl_append, List.foldl_cons, List.foldl_nil]
    generalize (List.range n).foldl (pickL x s l) [] = o at h1 h2 ⊢
    unfold pickL
    cases s.getD n 0 == x with
    | false => exact ⟨by rw [cond_false]; omega, h2⟩
    | true =>
      rw [cond_true]
      refine ⟨by simp; omega, fun y hy => ?_⟩
      rcases List.mem_append.1 hy with hy | hy
      · exact h2 y hy
      · rw [List.mem_singleton.1 hy, getD_of (by omega : n < l.length)]
        exact List.getElem_mem _

def okL (v : List TXT) (x : Int) : Bool := versP v && inI x 0 ((v.length : Int) - 1)
def linesR (v : List TXT) (x : Int) : TXT := bif okL v x then pickF x (sinceP v (v.length - 1)) (v.getD (v.length - 1) []) else []

theorem pickL_len {x : Int} {s : List Int} {l o : TXT} {i : Nat} (h : o.length ≤ i) : (pickL x s l o i).length ≤ i + 1 := by
  unfold pickL
  cases s.getD i 0 == x with
  | false => rw [cond_false]; omega
  | true => rw [cond_true]; simp; omega

theorem pick_I {x : Int} {s : List Int} {l : TXT} (hs : s.length = l.length) (hl : l.length ≤ 40) : w_I_LinesSince_6 (x, s, ([] : TXT), l, (l.length : Int), 0, ()) = some (pickF x s l, ()) := by
  have hloop := (fix_fold (B := fun d => b_I_LinesSince_6 d.1 d.2.1 d.2.2.1 d.2.2.2.1 d.2.2.2.2.1 d.2.2.2.2.2.1) (List.range l.length) (pickL x s l) (fun o i => (x, s, o, l, (l.length : Int), (i : Int), ())) (fun o => (o, ())) (fun i o => o.length ≤ i)
    (fun i hi o ho => by
      rw [List.length_range] at hi
      rw [List.getElem_range]
      refine ⟨pickL_len ho, ?_⟩
      show b_I_LinesSince_6 x s o l (l.length : Int) (i : Int) = _
      unfold b_I_LinesSince_6
      have w2 : IntKind.wrap .i64 ((i : Int) + 1) = ((i + 1 : Nat) : Int) := by rw [wrap64 (by omega) (by omega)]; omega
      rw [decide_eq_true (by omega : (i : Int) < (l.length : Int)), cond_true, inB_lt hi, cond_true, inB_lt (by omega : i < s.length), cond_true, toNat_cast, roomB_ok (by simp; omega)]
      unfold pickL
      cases hd : s.getD i 0 == x with
      | false => simp only [cond_false, Option.bind_some, w2]
      | true => simp only [cond_true, Option.bind_some, w2])
    (fun o ho => by
      rw [List.length_range]
      show b_I_LinesSince_6 x s o l (l.length : Int) (l.length : Int) = _
      unfold b_I_LinesSince_6
      rw [decide_eq_false (by omega : ¬ ((l.length : Int) < (l.length : Int))), cond_false]) [] (Nat.le_refl _)).1
  exact hloop

theorem lines_I {v : List TXT} (hs : SmV v) (x : Int) : f_I_LinesSince v x = some ((linesR v x, okL v x, ()), ()) := by
  unfold f_I_LinesSince linesR okL
  rw [sinceOf_I hs, Option.bind_some]
  dsimp only
  cases hv : versP v with
  | false => rfl
  | true =>
    obtain ⟨v1, v2, v3⟩ := vers_at hv
    have hl := v3 (v.length - 1) (by omega)
    have w1 : IntKind.wrap .i64 ((v.length : Int) - 1) = ((v.length - 1 : Nat) : Int) := by rw [wrap64 (by omega) (by omega)]; omega
    have w0 : ((v.length - 1 : Nat) : Int) = (v.length : Int) - 1 := by omega
    simp only [Bool.not_true, cond_false]
    rw [in_I, Option.bind_some, Option.bind_some, w1]
    dsimp only
    rw [w0]
    change (bif !inI x 0 ((v.length : Int) - 1) then _ else _) = _
    cases hx : inI x 0 ((v.length : Int) - 1) with
    | false => rfl
    | true =>
      simp only [Bool.not_true, cond_false, Bool.and_self, cond_true]
      rw [← w0, inB_lt (by omega), cond_true, toNat_cast, show sinceR v = sinceP v (v.length - 1) from by unfold sinceR; rw [hv]; rfl, pick_I (by rw [sinceP_len]) hl]
      rfl

theorem goodP_lines {l : TXT} (h : goodP l = true) : ∀ s ∈ l, s.length ≤ 30 := fun s hs => by
  unfold goodP linesP at h
  simp only [Bool.and_eq_true, Bool.not_eq_true'] at h
  have := List.any_eq_false.1 h.1.2 s hs
  exact (line_len (by simpa using this)).2

theorem lines_tot (v : List TXT) (x : Int) : tot S_string (linesR v x) ≤ 2000 := by
  unfold linesR
  cases h : okL v x with
  | false => exact Nat.zero_le _
  | true =>
    have hv : versP v = true := by unfold okL at h; simp only [Bool.and_eq_true] at h; exact h.1
    obtain ⟨v1, v2, v3⟩ := vers_at hv
    have hl := v3 (v.length - 1) (by omega)
    have hg : goodP (v.getD (v.length - 1) []) = true := by
      unfold versP at hv
      simp only [Bool.and_eq_true, Bool.not_eq_true'] at hv
      rw [getD_of (by omega : v.length - 1 < v.length)]
      have := List.any_eq_false.1 hv.2 _ (List.getElem_mem (by omega : v.length - 1 < v.length))
      simpa using this
    rw [cond_true]
    obtain ⟨b1, b2⟩ := pickF_bd x (sinceP v (v.length - 1)) (v.getD (v.length - 1) []) _ (Nat.le_refl _)
    rw [show tot S_string (pickF x (sinceP v (v.length - 1)) (v.getD (v.length - 1) [])) = (pickF x (sinceP v (v.length - 1)) (v.getD (v.length - 1) [])).length + ((pickF x (sinceP v (v.length - 1)) (v.getD (v.length - 1) [])).map (tot .str)).sum from tot_slice]
    have := sum_const (l := pickF x (sinceP v (v.length - 1)) (v.getD (v.length - 1) [])) (f := tot .str) (c := 30) (fun y hy => by
      rw [tot_str]
      exact goodP_lines hg y (b2 y hy))
    have : (pickF x (sinceP v (v.length - 1)) (v.getD (v.length - 1) [])).length ≤ 40 := Nat.le_trans b1 hl
    omega
end R
end

section
/- The last version with the age of each line, as a text: both sides write the same. -/
open Go Go.Dn
namespace R
set_option linter.unusedVariables false

def plainT (s : List UInt8) : List UInt8 := bif endP s then s.take (s.length - 1) else s
theorem plainT_len (s : List UInt8) : (plainT s).length ≤ s.length := by
  unfold plainT
  cases endP s
  · exact Nat.le_refl _
  · simp
theorem plain_S (s : List UInt8) (h1 : 1 ≤ s.length) (h2 : s.length ≤ 1000) : f_S_l1Plain s = some ((plainT s, ()), ()) := by
  unfold f_S_l1Plain plainT
  rw [ends_S s h1 (by omega), Option.bind_some]
  dsimp only
  cases endP s
  · rfl
  · rw [cond_true, cond_true, show IntKind.wrap .i64 ((s.length : Int) - 1) = ((s.length - 1 : Nat) : Int) from by rw [wrap64 (by omega) (by omega)]; omega, show cutB 0 ((s.length - 1 : Nat) : Int) s.length = true from by unfold cutB; simp, cond_true]
    unfold cutL
    simp
theorem plain_I (s : List UInt8) (h1 : 1 ≤ s.length) (h2 : s.length ≤ 1000) : f_I_plain s = some ((plainT s, ()), ()) := by
  have he := ends_I s (by omega)
  unfold f_I_isEnded f_strings_HasSuffix at he
  unfold f_I_plain f_strings_TrimSuffix f_internal_stringslite_TrimSuffix plainT
  cases hq : f_internal_stringslite_HasSuffix s [10] with
  | none => rw [hq] at he; cases he
  | some r =>
    rw [hq] at he
    obtain ⟨⟨b, u⟩, u'⟩ := r
    have hb : b = endP s := by
      have := congrArg (fun o => o.map fun (q : PVs [Ty.bool] × PVs []) => q.1.1) he
      simpa using this
    subst hb
    simp only [Option.bind_some]
    cases endP s
    · rfl
    · rw [cond_true, cond_true, show IntKind.wrap .i64 ((s.length : Int) - (([10] : List UInt8).length : Int)) = ((s.length - 1 : Nat) : Int) from by rw [show ((([10] : List UInt8).length : Nat) : Int) = 1 from rfl, wrap64 (by omega) (by omega)]; omega, show cutB 0 ((s.length - 1 : Nat) : Int) s.length = true from by unfold cutB; simp, cond_true]
      unfold cutL
      simp

theorem stay_val {N : Int} {prev m : List Int} (hp : ∀ x ∈ prev, 0 ≤ x ∧ x ≤ N) (hN : 0 ≤ N) : ∀ (l : List Nat) (o : List Int), (∀ x ∈ o, 0 ≤ x ∧ x ≤ N) → ∀ x ∈ l.foldl (stay prev m) o, 0 ≤ x ∧ x ≤ N
  | [], o, h => h
  | k :: l, o, h => by
    rw [List.foldl_cons]
    refine stay_val hp hN l _ fun x hx => ?_
    unfold stay at hx
    cases hd : decide (m.getD k 0 ≥ 0) with
    | false => rw [hd] at hx; exact h x hx
    | true =>
      rw [hd, cond_true] at hx
      rcases List.mem_or_eq_of_mem_set hx with hx | rfl
      · exact h x hx
      · rw [List.getD_eq_getElem?_getD]
        cases hq : prev[k]? with
        | none => exact ⟨by simp, by simpa using hN⟩
        | some y => exact hp y (List.mem_of_getElem? hq)
theorem since_val (v : List TXT) : ∀ n, ∀ x ∈ sinceP v n, 0 ≤ x ∧ x ≤ (n : Int)
  | 0 => fun x hx => by
    simp only [sinceP, List.mem_replicate] at hx
    rw [hx.2]
    omega
  | n + 1 => by
    simp only [sinceP]
    unfold stayF
    refine stay_val (fun x hx => ?_) (by omega) _ _ fun x hx => ?_
    · have := since_val v n x hx
      omega
    · rw [List.mem_replicate] at hx
      rw [hx.2]
      omega

def ageT (s : List Int) (l : TXT) (k : Nat) : List UInt8 := ((dec (s.getD k 0).toNat ++ [32]) ++ plainT (l.getD k [])) ++ [10]
def agesT (s : List Int) (l : TXT) : List UInt8 := (List.range l.length).flatMap (ageT s l)

theorem foldl_app {α : Type} (f : α → List UInt8) : ∀ (l : List α) (a : List UInt8), l.foldl (fun a r => a ++ f r) a = a ++ l.flatMap f
  | [], a => by simp
  | x :: l, a => by rw [List.foldl_cons, foldl_app f l, List.flatMap_cons, List.append_assoc]

theorem room {n : Nat} (h : n ≤ 10000000) : decide (n ≤ 1099511627776) = true := decide_eq_true (by omega)

structure AgeOk (s : List Int) (l : TXT) : Prop where
  len : s.length = l.length
  l40 : l.length ≤ 40
  line : ∀ k, k < l.length → 1 ≤ (l.getD k []).length ∧ (l.getD k []).length ≤ 30
  val : ∀ k, k < l.length → ∃ n : Nat, s.getD k 0 = (n : Int) ∧ n ≤ 1000

theorem ageT_len {s : List Int} {l : TXT} (h : AgeOk s l) {k : Nat} (hk : k < l.length) : (ageT s l k).length ≤ 60 := by
  obtain ⟨n, e, hn⟩ := h.val k hk
  have h1 := dec_len n (by omega)
  have h2 := plainT_len (l.getD k [])
  have h3 := (h.line k hk).2
  unfold ageT
  rw [e, toNat_cast]
  simp only [List.length_append, List.length_cons, List.length_nil]
  omega

theorem ages_I {s : List Int} {l : TXT} (h : AgeOk s l) : w_I_SinceText_6 (s, [], l, (l.length : Int), 0, ()) = some (agesT s l, ()) := by
  have hl := h.l40
  have hs := h.len
  have hf := fix_fold (B := fun d => b_I_SinceText_6 d.1 d.2.1 d.2.2.1 d.2.2.2.1 d.2.2.2.2.1) (List.range l.length) (fun a k => a ++ ageT s l k) (fun a i => (s, a, l, (l.length : Int), (i : Int), ())) (fun a => (a, ())) (fun i a => a.length ≤ 60 * i)
    (fun i hi a hI => by
      rw [List.length_range] at hi
      rw [List.getElem_range]
      have ht := ageT_len h hi
      obtain ⟨n, e, hn⟩ := h.val i hi
      obtain ⟨l1, l2⟩ := h.line i hi
      have h1 := dec_len n (by omega)
      have h2 := plainT_len (l.getD i [])
      refine ⟨by rw [List.length_append]; omega, ?_⟩
      show b_I_SinceText_6 s a l l.length i = _
      unfold b_I_SinceText_6
      rw [decide_eq_true (by omega : (i : Int) < (l.length : Int)), cond_true, inB_lt hi, cond_true, inB_lt (by omega), cond_true, toNat_cast, e, num_I n (by omega), Option.bind_some]
      dsimp only
      rw [room (by simp only [List.length_cons, List.length_nil]; omega), cond_true, plain_I _ l1 (by omega), Option.bind_some]
      dsimp only
      rw [room (by simp only [List.length_append, List.length_cons, List.length_nil]; omega), cond_true, room (by simp only [List.length_append, List.length_cons, List.length_nil]; omega), cond_true]
      have ea : ((dec n ++ [32]) ++ plainT (l.getD i [])) ++ [10] = ageT s l i := by unfold ageT; rw [e, toNat_cast]
      rw [ea, room (by omega), cond_true, wrap64 (by omega) (by omega)]
      rfl)
    (fun a _ => by
      rw [List.length_range]
      show b_I_SinceText_6 s a l l.length l.length = _
      unfold b_I_SinceText_6
      rw [decide_eq_false (Int.lt_irrefl _), cond_false]) [] (Nat.zero_le _)
  rw [foldl_app] at hf
  exact hf.1

theorem ages_S {s : List Int} {v : List TXT} {l : TXT} (hv1 : 1 ≤ v.length) (hv8 : v.length ≤ 8) (hv : v.getD (v.length - 1) [] = l) (h : AgeOk s l) : w_S_SinceText_5 (v, [], s, (s.length : Int), 0, ()) = some (agesT s l, ()) := by
  have hl := h.l40
  have hs := h.len
  have hw : IntKind.wrap .i64 ((v.length : Int) - 1) = ((v.length - 1 : Nat) : Int) := by rw [wrap64 (by omega) (by omega)]; omega
  have hf := fix_fold (B := fun d => b_S_SinceText_5 d.1 d.2.1 d.2.2.1 d.2.2.2.1 d.2.2.2.2.1) (List.range l.length) (fun a k => a ++ ageT s l k) (fun a i => (v, a, s, (s.length : Int), (i : Int), ())) (fun a => (a, ())) (fun i a => a.length ≤ 60 * i)
    (fun i hi a hI => by
      rw [List.length_range] at hi
      rw [List.getElem_range]
      have ht := ageT_len h hi
      obtain ⟨n, e, hn⟩ := h.val i hi
      obtain ⟨l1, l2⟩ := h.line i hi
      have h1 := dec_len n (by omega)
      have h2 := plainT_len (l.getD i [])
      refine ⟨by rw [List.length_append]; omega, ?_⟩
      show b_S_SinceText_5 v a s s.length i = _
      unfold b_S_SinceText_5
      rw [decide_eq_true (by omega : (i : Int) < (s.length : Int)), cond_true, inB_lt (by omega), cond_true, toNat_cast, e, num_S n (by omega), Option.bind_some]
      dsimp only
      rw [room (by simp only [List.length_cons, List.length_nil]; omega), cond_true, hw, inB_lt (by omega), cond_true, toNat_cast, hv, inB_lt hi, cond_true, plain_S _ l1 (by omega), Option.bind_some]
      dsimp only
      rw [room (by simp only [List.length_append, List.length_cons, List.length_nil]; omega), cond_true, room (by simp only [List.length_append, List.length_cons, List.length_nil]; omega), cond_true]
      have ea : ((dec n ++ [32]) ++ plainT (l.getD i [])) ++ [10] = ageT s l i := by unfold ageT; rw [e, toNat_cast]
      rw [ea, room (by omega), cond_true, wrap64 (by omega) (by omega)]
      rfl)
    (fun a _ => by
      rw [List.length_range]
      show b_S_SinceText_5 v a s s.length l.length = _
      unfold b_S_SinceText_5
      rw [decide_eq_false (by omega : ¬ ((l.length : Int) < (s.length : Int))), cond_false]) [] (Nat.zero_le _)
  rw [foldl_app] at hf
  exact hf.1

theorem age_ok {v : List TXT} (h : versP v = true) : AgeOk (sinceP v (v.length - 1)) (v.getD (v.length - 1) []) := by
  obtain ⟨v1, v2, v3⟩ := vers_at h
  have hg : goodP (v.getD (v.length - 1) []) = true := by
    unfold versP at h
    simp only [Bool.and_eq_true, Bool.not_eq_true'] at h
    have := List.any_eq_false.1 h.2 (v.getD (v.length - 1) []) (by rw [getD_of (by omega)]; exact List.getElem_mem _)
    simpa using this
  refine ⟨sinceP_len _ _, v3 _ (by omega), fun k hk => ?_, fun k hk => ?_⟩
  · unfold goodP linesP at hg
    simp only [Bool.and_eq_true, Bool.not_eq_true'] at hg
    have := List.any_eq_false.1 hg.1.2 ((v.getD (v.length - 1) []).getD k []) (by rw [getD_of hk]; exact List.getElem_mem _)
    exact line_len (by simpa using this)
  · have hk' : k < (sinceP v (v.length - 1)).length := by rw [sinceP_len]; exact hk
    have := since_val v (v.length - 1) _ (List.getElem_mem hk')
    rw [getD_of hk']
    exact ⟨Int.toNat ((sinceP v (v.length - 1))[k]), by omega, by omega⟩

def ageR (v : List TXT) : List UInt8 := bif versP v then agesT (sinceP v (v.length - 1)) (v.getD (v.length - 1) []) else []
theorem sinceText_I {v : List TXT} (hs : SmV v) : f_I_SinceText v = some ((ageR v, versP v, ()), ()) := by
  unfold f_I_SinceText ageR
  rw [sinceOf_I hs, Option.bind_some]
  unfold sinceR
  dsimp only
  cases hv : versP v with
  | false => rfl
  | true =>
    obtain ⟨v1, v2, v3⟩ := vers_at hv
    simp only [Bool.not_true, cond_false, cond_true]
    rw [show IntKind.wrap .i64 ((v.length : Int) - 1) = ((v.length - 1 : Nat) : Int) from by rw [wrap64 (by omega) (by omega)]; omega, inB_lt (by omega), cond_true, toNat_cast, ages_I (age_ok hv), Option.bind_some]
theorem sinceText_S {v : List TXT} (hs : SmV v) : f_S_SinceText v = some ((ageR v, versP v, ()), ()) := by
  unfold f_S_SinceText ageR
  rw [vers_S hs, Option.bind_some]
  dsimp only
  cases hv : versP v with
  | false => rfl
  | true =>
    obtain ⟨v1, v2, v3⟩ := vers_at hv
    simp only [Bool.not_true, cond_false, cond_true]
    rw [since_S hv, Option.bind_some]
    dsimp only
    rw [ages_S v1 v2 rfl (age_ok hv), Option.bind_some]
end R
end

section
/- The drawn versions: they are small. -/
open Go Go.Dn
namespace R
set_option linter.unusedVariables false

abbrev TX := List (List UInt8)
abbrev Cur := PV Y_spec_l1Cur
structure CurOk (K : Int) (c : Cur) : Prop where
  by_ : ∀ x ∈ (c.1 : List Int), 0 ≤ x ∧ x ≤ 255
  a0 : (0 : Int) ≤ c.2.1
  a1 : (c.2.1 : Int) ≤ K
theorem CurOk.up {K K' : Int} {c : Cur} (h : CurOk K c) (hk : K ≤ K') : CurOk K' c := ⟨h.by_, h.a0, Int.le_trans h.a1 hk⟩

theorem wrapU {n : Nat} (h : n ≤ 255) : IntKind.wrap .u64 (n : Int) = n := by
  simp [IntKind.wrap, IntKind.min, IntKind.max, IntKind.signed, IntKind.bits]
  omega
theorem and255 (X : Int) : (BitVec.ofInt (IntKind.bits .u64) X &&& BitVec.ofInt (IntKind.bits .u64) 255).toNat ≤ 255 := by
  rw [BitVec.toNat_and]
  exact Nat.le_trans Nat.and_le_right (by decide)
theorem and255w (X : Int) : 0 ≤ IntKind.wrap .i64 (IntKind.wrap .u64 ((BitVec.ofInt (IntKind.bits .u64) X &&& BitVec.ofInt (IntKind.bits .u64) 255).toNat : Int)) ∧ IntKind.wrap .i64 (IntKind.wrap .u64 ((BitVec.ofInt (IntKind.bits .u64) X &&& BitVec.ofInt (IntKind.bits .u64) 255).toNat : Int)) ≤ 255 := by
  have h := and255 X
  generalize (BitVec.ofInt (IntKind.bits .u64) X &&& BitVec.ofInt (IntKind.bits .u64) 255).toNat = n at *
  rw [wrapU h, wrap64 (by omega) (by omega)]
  omega

theorem next_ok {K : Int} {c : Cur} (h : CurOk K c) (hK : K ≤ 4611686018427387904) : ∃ (r : Int) (c' : Cur), f_S_l1Cur_next c = some ((r, ()), (c', ())) ∧ 0 ≤ r ∧ r ≤ 255 ∧ CurOk (K + 1) c' := by
  obtain ⟨code, at_, seed, u⟩ := c
  obtain ⟨h1, h2, h3⟩ := h
  have h1 : ∀ x ∈ (code : List Int), 0 ≤ x ∧ x ≤ 255 := h1
  have h2 : (0 : Int) ≤ at_ := h2
  have h3 : (at_ : Int) ≤ K := h3
  have e : ∀ a : Int, 0 ≤ a → a ≤ K → IntKind.wrap .i64 (a + 1) = a + 1 ∧ 0 ≤ a + 1 ∧ a + 1 ≤ K + 1 := fun a _ _ => ⟨wrap64 (by omega) (by omega), by omega, by omega⟩
  obtain ⟨e1, e2, e3⟩ := e _ h2 h3
  have fin : ∀ (b : Int), 0 ≤ b → b ≤ 255 → ∃ (r : Int) (c' : Cur), (bif (decide ((IntKind.wrap .i64 (at_ + 1)) ≤ (List.length code : Int))) then
      some ((b, ()), ((code, ((IntKind.wrap .i64 (at_ + 1)), ((IntKind.wrap .u64 ((IntKind.wrap .u64 ((IntKind.wrap .u64 (seed * 6364136223846793005)) + (IntKind.wrap .u64 b))) + 1442695040888963407)), u))), ()))
    else
      bif decide ((0 : Int) ≤ 40) then
        some (((IntKind.wrap .i64 (IntKind.wrap .u64 ((BitVec.ofInt (IntKind.bits .u64) ((IntKind.wrap .u64 ((IntKind.wrap .u64 ((IntKind.wrap .u64 (seed * 6364136223846793005)) + (IntKind.wrap .u64 b))) + 1442695040888963407)).fdiv (2 ^ (min (40 : Int).toNat (IntKind.bits .u64)))) &&& BitVec.ofInt (IntKind.bits .u64) 255).toNat : Int))), ()), ((code, ((IntKind.wrap .i64 (at_ + 1)), ((IntKind.wrap .u64 ((IntKind.wrap .u64 ((IntKind.wrap .u64 (seed * 6364136223846793005)) + (IntKind.wrap .u64 b))) + 1442695040888963407)), u))), ()))
      else
        none : Option (PVs [(.int .i64)] × PVs [Y_spec_l1Cur])) = some ((r, ()), (c', ())) ∧ 0 ≤ r ∧ r ≤ 255 ∧ CurOk (K + 1) c' := by
    intro b b0 b1
    cases decide ((IntKind.wrap .i64 (at_ + 1)) ≤ (List.length code : Int))
    · rw [cond_false, decide_eq_true (by omega : (0 : Int) ≤ 40), cond_true]
      refine ⟨_, _, rfl, (and255w _).1, (and255w _).2, h1, ?_, ?_⟩
      · show 0 ≤ IntKind.wrap .i64 (at_ + 1); rw [e1]; exact e2
      · show IntKind.wrap .i64 (at_ + 1) ≤ K + 1; rw [e1]; exact e3
    · rw [cond_true]
      refine ⟨_, _, rfl, b0, b1, h1, ?_, ?_⟩
      · show 0 ≤ IntKind.wrap .i64 (at_ + 1); rw [e1]; exact e2
      · show IntKind.wrap .i64 (at_ + 1) ≤ K + 1; rw [e1]; exact e3
  unfold f_S_l1Cur_next
  dsimp only
  cases hc : decide (at_ < (List.length code : Int))
  · rw [cond_false, Option.bind_some]
    exact fin 0 (by omega) (by omega)
  · have hlt : at_ < (List.length code : Int) := of_decide_eq_true hc
    obtain ⟨i, rfl⟩ : ∃ i : Nat, at_ = (i : Int) := ⟨at_.toNat, (Int.toNat_of_nonneg h2).symm⟩
    have hi : i < List.length code := Int.ofNat_lt.1 hlt
    obtain ⟨b0, b1⟩ := h1 _ (List.getElem_mem hi)
    rw [cond_true, inB_lt hi, cond_true, Option.bind_some]
    dsimp only
    rw [toNat_cast, getD_of hi]
    have e4 : ∀ b : Int, 0 ≤ b → b ≤ 255 → IntKind.wrap .i64 b = b := fun b _ _ => wrap64 (by omega) (by omega)
    rw [e4 _ b0 b1]
    exact fin _ b0 b1

theorem pick_ok {K n : Int} {c : Cur} (h : CurOk K c) (hK : K ≤ 4611686018427387000) (hn : n ≤ 1000000) : ∃ (r : Int) (c' : Cur), f_S_l1Cur_pick c n = some ((r, ()), (c', ())) ∧ 0 ≤ r ∧ (1 ≤ n → r < n) ∧ (n ≤ 1 → r = 0) ∧ CurOk (K + 2) c' := by
  unfold f_S_l1Cur_pick
  by_cases h1 : n ≤ 1
  · rw [decide_eq_true h1, cond_true]
    exact ⟨0, c, rfl, Int.le_refl _, fun _ => by omega, fun _ => rfl, h.up (by omega)⟩
  · rw [decide_eq_false h1, cond_false]
    obtain ⟨r, c1, q1, q2, q3, q4⟩ := next_ok h (by omega)
    rw [q1, Option.bind_some]
    dsimp only
    have fin : ∀ (x : Int) (c2 : Cur), 0 ≤ x → CurOk (K + 2) c2 → ∃ (r : Int) (c' : Cur), (bif n == 0 then none else some ((x.tmod n, ()), (c2, ())) : Option (PVs [(.int .i64)] × PVs [Y_spec_l1Cur])) = some ((r, ()), (c', ())) ∧ 0 ≤ r ∧ (1 ≤ n → r < n) ∧ (n ≤ 1 → r = 0) ∧ CurOk (K + 2) c' := by
      intro x c2 hx hc
      rw [show (n == 0) = false from by rw [beq_eq_false_iff_ne]; omega, cond_false]
      exact ⟨_, _, rfl, Int.tmod_nonneg n hx, fun _ => Int.tmod_lt_of_pos x (by omega), fun q => absurd q h1, hc⟩
    by_cases h2 : n > 200
    · obtain ⟨r2, c2, p1, p2, p3, p4⟩ := next_ok q4 (by omega)
      rw [decide_eq_true h2, cond_true, p1, Option.bind_some, Option.bind_some]
      dsimp only
      rw [wrap64 (x := r * 256) (by omega) (by omega), wrap64 (x := r * 256 + r2) (by omega) (by omega)]
      exact fin _ _ (by omega) (p4.up (by omega))
    · rw [decide_eq_false h2, cond_false, Option.bind_some]
      exact fin _ _ q2 (q4.up (by omega))

theorem one_ok {K n : Int} {c : Cur} (h : CurOk K c) (hK : K ≤ 4611686018427387000) (hn : n ≤ 1000000) : ∃ (r : Bool) (c' : Cur), f_S_l1Cur_one c n = some ((r, ()), (c', ())) ∧ CurOk (K + 2) c' := by
  obtain ⟨r, c1, q1, _, _, _, q4⟩ := pick_ok h hK hn
  unfold f_S_l1Cur_one
  rw [q1, Option.bind_some]
  exact ⟨_, _, rfl, q4⟩

def wl : List (List UInt8) := [[97], [98], [99], [100], [], [46], [46, 46], [111, 110, 101, 32, 116, 119, 111], [43, 120], [45, 121], [92, 32, 122], [64, 64]]
theorem wl_sm : ∀ i < 12, (wl.getD i []).length ≤ 8 := by decide
def wl3 : List (List UInt8) := [[97], [101, 110, 100], [46]]
theorem wl3_sm : ∀ i < 3, 1 ≤ (wl3.getD i []).length ∧ (wl3.getD i []).length ≤ 8 := by decide

theorem line_ok {K : Int} {c : Cur} (h : CurOk K c) (hK : K ≤ 4611686018427387000) : ∃ (s : List UInt8) (c' : Cur), f_S_l1Cur_line c = some ((s, ()), (c', ())) ∧ s.length ≤ 8 ∧ CurOk (K + 2) c' := by
  obtain ⟨r, c1, q1, q2, q3, _, q4⟩ := pick_ok (n := 12) h hK (by omega)
  have e : f_S_l1Cur_line c = (f_S_l1Cur_pick c 12).bind fun r1 => bif inB r1.1.1 12 then some ((wl.getD r1.1.1.toNat [], ()), (r1.2.1, ())) else none := rfl
  obtain ⟨i, rfl⟩ : ∃ i : Nat, r = (i : Int) := ⟨r.toNat, (Int.toNat_of_nonneg q2).symm⟩
  have hi : i < 12 := by have := q3 (by omega); omega
  rw [e, q1, Option.bind_some]
  dsimp only
  rw [show inB (i : Int) 12 = true from inB_lt hi, cond_true, toNat_cast]
  exact ⟨_, _, rfl, wl_sm i hi, q4⟩


def SmN (m : Nat) (l : TX) : Prop := ∀ s ∈ l, 1 ≤ s.length ∧ s.length ≤ m
theorem SmN.snoc {m : Nat} {l : TX} {s : List UInt8} (h : SmN m l) (h1 : 1 ≤ s.length) (h2 : s.length ≤ m) : SmN m (l ++ [s]) := by
  intro x hx
  rcases List.mem_append.1 hx with hx | hx
  · exact h x hx
  · obtain rfl := List.mem_singleton.1 hx
    exact ⟨h1, h2⟩
theorem SmN.app {m : Nat} {l l' : TX} (h : SmN m l) (h' : SmN m l') : SmN m (l ++ l') := fun x hx => (List.mem_append.1 hx).elim (h x) (h' x)
theorem SmN.set {m : Nat} {l : TX} {i : Nat} {s : List UInt8} (h : SmN m l) (h1 : 1 ≤ s.length) (h2 : s.length ≤ m) : SmN m (l.set i s) := by
  intro x hx
  rcases List.mem_or_eq_of_mem_set hx with hx | rfl
  · exact h x hx
  · exact ⟨h1, h2⟩
theorem SmN.up {m m' : Nat} {l : TX} (h : SmN m l) (hm : m ≤ m') : SmN m' l := fun x hx => ⟨(h x hx).1, Nat.le_trans (h x hx).2 hm⟩
theorem cutG_mem {l : TX} {a b : Int} {x : List UInt8} (hx : x ∈ cutL a b l) : x ∈ l := List.mem_of_mem_take (List.mem_of_mem_drop hx)
theorem SmN.cut {m : Nat} {l : TX} {a b : Int} (h : SmN m l) : SmN m (cutL a b l) := fun x hx => h x (cutG_mem hx)
theorem cutG_len {α : Type} {l : List α} {a b : Int} : (cutL a b l).length ≤ b.toNat - a.toNat := by
  unfold cutL
  rw [List.length_drop, List.length_take]
  omega
theorem cutG_ok {a b : Int} {n : Nat} (h0 : 0 ≤ a) (h1 : a ≤ b) (h2 : b ≤ (n : Int)) : cutB a b n = true := by
  unfold cutB
  rw [decide_eq_true h0, decide_eq_true h1, decide_eq_true h2]
  rfl
theorem SmN.sm {m : Nat} {l : TX} (h : SmN m l) (hm : m ≤ 1000) (hl : l.length ≤ 1000) : Sm l := ⟨by omega, fun s hs => by have := h s hs; omega⟩

theorem text_loop : ∀ (n : Nat) {K : Int} {c : Cur} {l : TX}, CurOk K c → K + 2 * (n : Int) ≤ 4611686018427380000 → n ≤ 100 → l.length + n ≤ 500 → SmN 9 l → ∃ (c' : Cur) (l' : TX), w_S_l1Cur_text_3 (c, l, (n : Int), ()) = some (c', l', ()) ∧ l'.length = l.length + n ∧ SmN 9 l' ∧ CurOk (K + 2 * n) c'
  | 0, K, c, l, h, hK, hn, hl, hs => by
    refine ⟨c, l, fix_end (B := fun d => b_S_l1Cur_text_3 d.1 d.2.1 d.2.2.1) ?_, rfl, hs, h.up (by omega)⟩
    show b_S_l1Cur_text_3 c l 0 = _
    unfold b_S_l1Cur_text_3
    rw [decide_eq_false (by omega : ¬ ((0 : Int) > 0)), cond_false]
  | n + 1, K, c, l, h, hK, hn, hl, hs => by
    obtain ⟨s, c1, q1, q2, q3⟩ := line_ok h (by omega)
    obtain ⟨c', l', p1, p2, p3, p4⟩ := text_loop n (c := c1) (l := l ++ [s ++ [10]]) q3 (by omega) (by omega) (by simp; omega) (hs.snoc (by simp) (by simp; omega))
    refine ⟨c', l', ?_, by rw [p2]; simp; omega, p3, p4.up (by omega)⟩
    rw [← p1]
    refine fix_go (B := fun d => b_S_l1Cur_text_3 d.1 d.2.1 d.2.2.1) ?_
    show b_S_l1Cur_text_3 c l ((n + 1 : Nat) : Int) = _
    unfold b_S_l1Cur_text_3
    rw [decide_eq_true (by omega : ((n + 1 : Nat) : Int) > 0), cond_true, q1, Option.bind_some]
    dsimp only
    rw [decide_eq_true (by rw [List.length_cons, List.length_nil]; omega), cond_true, roomB_ok (by rw [List.length_cons, List.length_nil]; omega), cond_true, show IntKind.wrap .i64 (((n + 1 : Nat) : Int) - 1) = (n : Int) from by rw [wrap64 (by omega) (by omega)]; omega]

theorem text_ok {K : Int} {c : Cur} (h : CurOk K c) (hK : K ≤ 4611686018427370000) : ∃ (l : TX) (c' : Cur), f_S_l1Cur_text c = some ((l, ()), (c', ())) ∧ l.length ≤ 9 ∧ SmN 9 l ∧ CurOk (K + 30) c' := by
  obtain ⟨r, c1, q1, q2, q3, _, q4⟩ := pick_ok (n := 9) h (by omega) (by omega)
  obtain ⟨n, rfl⟩ : ∃ n : Nat, r = (n : Int) := ⟨r.toNat, (Int.toNat_of_nonneg q2).symm⟩
  have hn : n < 9 := by have := q3 (by omega); omega
  obtain ⟨c2, l, p1, p2, p3, p4⟩ := text_loop n (l := []) q4 (by omega) (by omega) (by simp; omega) (fun s hs => by cases hs)
  obtain ⟨b, c3, o1, o2⟩ := one_ok (n := 5) p4 (by omega) (by omega)
  have hl : l.length ≤ 8 := by rw [p2]; simp; omega
  unfold f_S_l1Cur_text
  rw [q1, Option.bind_some]
  dsimp only
  rw [p1, Option.bind_some]
  dsimp only
  rw [o1, Option.bind_some]
  dsimp only
  cases b
  · rw [cond_false, Option.bind_some]
    exact ⟨_, _, rfl, by show List.length l ≤ 9; omega, p3, o2.up (by omega)⟩
  · obtain ⟨r4, c4, s1, s2, s3, _, s4⟩ := pick_ok (n := 3) o2 (by omega) (by omega)
    obtain ⟨i, rfl⟩ : ∃ i : Nat, r4 = (i : Int) := ⟨r4.toNat, (Int.toNat_of_nonneg s2).symm⟩
    have hi : i < 3 := by have := s3 (by omega); omega
    rw [cond_true, show ([[97], [101, 110, 100], [46]].length : Int) = 3 from rfl, s1, Option.bind_some]
    dsimp only
    rw [show inB (i : Int) [[97], [101, 110, 100], [46]].length = true from inB_lt hi, cond_true, roomB_ok (by rw [List.length_cons, List.length_nil]; omega), cond_true, Option.bind_some, toNat_cast]
    have hw := wl3_sm i hi
    exact ⟨_, _, rfl, by rw [List.length_append, List.length_cons, List.length_nil]; omega, p3.snoc hw.1 (by have := hw.2; show List.length (wl3.getD i []) ≤ 9; omega), s4.up (by omega)⟩

theorem whole_S {l : TX} (hl : l.length ≤ 100) {m : Nat} (hm : m ≤ 1000) (hs : SmN m l) : ∃ b : Bool, f_S_l1Whole l = some ((b, ()), ()) := by
  unfold f_S_l1Whole
  by_cases h : l.length = 0
  · rw [show ((l.length : Int) == 0) = true from by rw [h]; rfl]
    exact ⟨_, rfl⟩
  · have hi : l.length - 1 < l.length := by omega
    obtain ⟨h1, h2⟩ := hs _ (List.getElem_mem hi)
    rw [show ((l.length : Int) == 0) = false from by rw [beq_eq_false_iff_ne]; omega, cond_false, show IntKind.wrap .i64 ((l.length : Int) - 1) = ((l.length - 1 : Nat) : Int) from by rw [wrap64 (by omega) (by omega)]; omega, inB_lt hi, cond_true, toNat_cast, getD_of hi, ends_S _ h1 (by omega), Option.bind_some]
    exact ⟨_, rfl⟩


theorem plainC_S {s : List UInt8} (h1 : 1 ≤ s.length) (h2 : s.length ≤ 1000) : ∃ r : List UInt8, f_S_l1Plain s = some ((r, ()), ()) ∧ r.length ≤ s.length := by
  unfold f_S_l1Plain
  rw [ends_S s h1 (by omega), Option.bind_some]
  dsimp only
  cases endP s
  · exact ⟨_, rfl, Nat.le_refl _⟩
  · have hw : IntKind.wrap .i64 ((s.length : Int) - 1) = ((s.length - 1 : Nat) : Int) := by rw [wrap64 (by omega) (by omega)]; omega
    rw [cond_true, hw, cutG_ok (by omega) (by omega) (by omega), cond_true]
    refine ⟨_, rfl, ?_⟩
    have := cutG_len (l := s) (a := 0) (b := ((s.length - 1 : Nat) : Int))
    rw [toNat_cast] at this
    omega

theorem own_Sx (l : TX) (h : l.length ≤ 1099511627776) : f_S_l1OwnT l = some ((l, ()), ()) := by
  unfold f_S_l1OwnT
  rw [roomB_ok (by simpa using h)]
  rfl

theorem other_step {m : Nat} (hm9 : 9 ≤ m) (hm : m ≤ 100) (n : Nat) (hn : n ≤ 10) {K : Int} {c : Cur} {l : TX} (h : CurOk K c) (hK : K ≤ 4611686018427380000) (hl : l.length ≤ 60) (hs : SmN m l) :
    ∃ (c' : Cur) (l' : TX), b_S_l1Cur_other_3 c l ((n + 1 : Nat) : Int) = some (.inl (c', l', (n : Int), ())) ∧ l'.length ≤ l.length + 1 ∧ SmN m l' ∧ CurOk (K + 6) c' := by
  obtain ⟨r1, c1, a1, a2, a3, a4, a5⟩ := pick_ok (n := (l.length : Int) + 1) h (by omega) (by omega)
  have a3 := a3 (by omega)
  obtain ⟨r2, c2, b1, b2, b3, b4, b5⟩ := pick_ok (n := 3) a5 (by omega) (by omega)
  obtain ⟨k, rfl⟩ : ∃ k : Nat, r1 = (k : Int) := ⟨r1.toNat, (Int.toNat_of_nonneg a2).symm⟩
  obtain ⟨s, c3, e1, e2, e3⟩ := line_ok b5 (by omega)
  obtain ⟨wb, hw⟩ := whole_S (l := l) (by omega) (by omega) hs
  have w1 : IntKind.wrap .i64 (((n + 1 : Nat) : Int) - 1) = (n : Int) := by rw [wrap64 (by omega) (by omega)]; omega
  have hsl : 1 ≤ (s ++ [10]).length ∧ (s ++ [10]).length ≤ m := by simp; omega
  unfold b_S_l1Cur_other_3
  rw [decide_eq_true (by omega : ((n + 1 : Nat) : Int) > 0), cond_true, wrap64 (x := (l.length : Int) + 1) (by omega) (by omega), a1, Option.bind_some]
  dsimp only
  rw [b1, Option.bind_some]
  dsimp only
  cases hr0 : (r2 == 0)
  · rw [cond_false]
    cases hr1 : (r2 == 1)
    · rw [cond_false]
      have tail : ∀ q : Bool, ∃ (c' : Cur) (l' : TX), (((some (c2, l, ((n + 1 : Nat) : Int), (k : Int), q, ()) : Option ((PV Y_spec_l1Cur × PV S_string × PV (.int .i64) × PV (.int .i64) × PV .bool × Unit))).bind fun j14 =>
                  bif j14.2.2.2.2.1 then
                    bif cutB 0 j14.2.2.2.1 j14.2.1.length then
                      (f_S_l1OwnT (cutL 0 j14.2.2.2.1 j14.2.1)).bind fun r15 =>
                        (f_S_l1Cur_line j14.1).bind fun r16 =>
                          bif decide (r16.1.1.length + [10].length ≤ 1099511627776) then
                            bif roomB (r15.1.1.length + [(r16.1.1 ++ [10])].length) then
                              bif cutB j14.2.2.2.1 (j14.2.1.length : Int) j14.2.1.length then
                                bif roomB ((r15.1.1 ++ [(r16.1.1 ++ [10])]).length + (cutL j14.2.2.2.1 (j14.2.1.length : Int) j14.2.1).length) then
                                  some (r16.2.1, ((r15.1.1 ++ [(r16.1.1 ++ [10])]) ++ (cutL j14.2.2.2.1 (j14.2.1.length : Int) j14.2.1)), j14.2.2.1, ())
                                else
                                  none
                              else
                                none
                            else
                              none
                          else
                            none
                    else
                      none
                  else
                    some (j14.1, j14.2.1, j14.2.2.1, ()) : Option ((PV Y_spec_l1Cur × PV S_string × PV (.int .i64) × Unit))).bind fun j17 => some (.inl (j17.1, j17.2.1, (IntKind.wrap .i64 (j17.2.2.1 - 1)), ())) : Option ((PV Y_spec_l1Cur × PV S_string × PV (.int .i64) × Unit) ⊕ ((PV Y_spec_l1Cur × PV S_string × Unit)))) = some (.inl (c', l', (n : Int), ())) ∧ l'.length ≤ l.length + 1 ∧ SmN m l' ∧ CurOk (K + 6) c' := by
        intro q
        rw [Option.bind_some]
        dsimp only
        cases q
        · rw [cond_false, Option.bind_some]
          dsimp only
          rw [w1]
          exact ⟨_, _, rfl, by omega, hs, b5.up (by omega)⟩
        · have l1 := cutG_len (l := l) (a := 0) (b := (k : Int))
          have l2 := cutG_len (l := l) (a := (k : Int)) (b := (l.length : Int))
          rw [toNat_cast] at l1 l2
          rw [toNat_cast] at l2
          rw [cond_true, cutG_ok (by omega) (by omega) (by omega), cond_true, own_Sx _ (by omega), Option.bind_some]
          dsimp only
          rw [e1, Option.bind_some]
          dsimp only
          rw [decide_eq_true (by rw [List.length_cons, List.length_nil]; omega), cond_true, roomB_ok (by rw [List.length_cons, List.length_nil]; omega), cond_true, cutG_ok (by omega) (by omega) (by omega), cond_true, roomB_ok (by rw [List.length_append, List.length_cons, List.length_nil]; omega), cond_true, Option.bind_some]
          dsimp only
          rw [w1]
          exact ⟨_, _, rfl, by rw [List.length_append, List.length_append, List.length_cons, List.length_nil]; omega, (hs.cut.snoc hsl.1 hsl.2).app hs.cut, e3.up (by omega)⟩
      cases decide ((k : Int) < (l.length : Int))
      · rw [cond_false, hw, Option.bind_some]
        exact tail wb
      · exact tail true
    · rw [cond_true]
      have tail : ∀ q : Bool, k < l.length ∨ q = false → ∃ (c' : Cur) (l' : TX), (((some (c2, l, ((n + 1 : Nat) : Int), (k : Int), q, ()) : Option ((PV Y_spec_l1Cur × PV S_string × PV (.int .i64) × PV (.int .i64) × PV .bool × Unit))).bind fun j11 =>
                  bif j11.2.2.2.2.1 then
                    (f_S_l1Cur_line j11.1).bind fun r12 =>
                      bif decide (r12.1.1.length + [10].length ≤ 1099511627776) then
                        bif inB j11.2.2.2.1 j11.2.1.length then
                          some (r12.2.1, (j11.2.1.set j11.2.2.2.1.toNat (r12.1.1 ++ [10])), j11.2.2.1, ())
                        else
                          none
                      else
                        none
                  else
                    some (j11.1, j11.2.1, j11.2.2.1, ()) : Option ((PV Y_spec_l1Cur × PV S_string × PV (.int .i64) × Unit))).bind fun j17 => some (.inl (j17.1, j17.2.1, (IntKind.wrap .i64 (j17.2.2.1 - 1)), ())) : Option ((PV Y_spec_l1Cur × PV S_string × PV (.int .i64) × Unit) ⊕ ((PV Y_spec_l1Cur × PV S_string × Unit)))) = some (.inl (c', l', (n : Int), ())) ∧ l'.length ≤ l.length + 1 ∧ SmN m l' ∧ CurOk (K + 6) c' := by
        intro q hq
        rw [Option.bind_some]
        dsimp only
        cases q
        · rw [cond_false, Option.bind_some]
          dsimp only
          rw [w1]
          exact ⟨_, _, rfl, by omega, hs, b5.up (by omega)⟩
        · have hk : k < l.length := by rcases hq with hq | hq; exact hq; cases hq
          rw [cond_true, e1, Option.bind_some]
          dsimp only
          rw [decide_eq_true (by rw [List.length_cons, List.length_nil]; omega), cond_true, inB_lt hk, cond_true, Option.bind_some]
          dsimp only
          rw [w1]
          exact ⟨_, _, rfl, by rw [List.length_set]; omega, hs.set hsl.1 hsl.2, e3.up (by omega)⟩
      by_cases hk : k < l.length
      · obtain ⟨h1, h2⟩ := hs _ (List.getElem_mem hk)
        rw [decide_eq_true (by omega : (k : Int) < (l.length : Int)), cond_true, inB_lt hk, cond_true, toNat_cast, getD_of hk, ends_S _ h1 (by omega), Option.bind_some]
        exact tail _ (.inl hk)
      · rw [decide_eq_false (by omega : ¬ (k : Int) < (l.length : Int)), cond_false]
        exact tail false (.inr rfl)
  · rw [cond_true]
    by_cases hk : k < l.length
    · have l1 := cutG_len (l := l) (a := 0) (b := (k : Int))
      have l2 := cutG_len (l := l) (a := ((k + 1 : Nat) : Int)) (b := (l.length : Int))
      rw [toNat_cast] at l1 l2
      rw [toNat_cast] at l2
      rw [decide_eq_true (by omega : (k : Int) < (l.length : Int)), cond_true, cutG_ok (by omega) (by omega) (by omega), cond_true, own_Sx _ (by omega), Option.bind_some]
      dsimp only
      rw [show IntKind.wrap .i64 ((k : Int) + 1) = ((k + 1 : Nat) : Int) from by rw [wrap64 (by omega) (by omega)]; omega, cutG_ok (by omega) (by omega) (by omega), cond_true, roomB_ok (by omega), cond_true, Option.bind_some]
      dsimp only
      rw [w1]
      exact ⟨_, _, rfl, by rw [List.length_append]; omega, hs.cut.app hs.cut, b5.up (by omega)⟩
    · rw [decide_eq_false (by omega : ¬ (k : Int) < (l.length : Int)), cond_false, Option.bind_some]
      dsimp only
      rw [w1]
      exact ⟨_, _, rfl, by omega, hs, b5.up (by omega)⟩

theorem other_loop {m : Nat} (hm9 : 9 ≤ m) (hm : m ≤ 100) : ∀ (n : Nat) {K : Int} {c : Cur} {l : TX}, CurOk K c → K + 6 * (n : Int) ≤ 4611686018427370000 → n ≤ 10 → l.length + n ≤ 60 → SmN m l →
    ∃ (c' : Cur) (l' : TX), w_S_l1Cur_other_3 (c, l, (n : Int), ()) = some (c', l', ()) ∧ l'.length ≤ l.length + n ∧ SmN m l' ∧ CurOk (K + 6 * n) c'
  | 0, K, c, l, h, hK, hn, hl, hs => by
    refine ⟨c, l, fix_end (B := fun d => b_S_l1Cur_other_3 d.1 d.2.1 d.2.2.1) ?_, by omega, hs, h.up (by omega)⟩
    show b_S_l1Cur_other_3 c l 0 = _
    unfold b_S_l1Cur_other_3
    rw [decide_eq_false (by omega : ¬ ((0 : Int) > 0)), cond_false]
  | n + 1, K, c, l, h, hK, hn, hl, hs => by
    obtain ⟨c1, l1, q1, q2, q3, q4⟩ := other_step hm9 hm n (by omega) h (by omega) (by omega) hs
    obtain ⟨c', l', p1, p2, p3, p4⟩ := other_loop hm9 hm n q4 (by omega) (by omega) (by omega) q3
    refine ⟨c', l', ?_, by omega, p3, p4.up (by omega)⟩
    rw [← p1]
    exact fix_go (B := fun d => b_S_l1Cur_other_3 d.1 d.2.1 d.2.2.1) q1

theorem other_ok {m : Nat} (hm9 : 9 ≤ m) (hm : m ≤ 50) {K : Int} {c : Cur} {l : TX} (h : CurOk K c) (hK : K ≤ 4611686018427300000) (hl : l.length ≤ 50) (hs : SmN m l) :
    ∃ (l' : TX) (c' : Cur), f_S_l1Cur_other c l = some ((l', ()), (c', ())) ∧ l'.length ≤ l.length + 3 ∧ SmN (m + 1) l' ∧ CurOk (K + 30) c' := by
  obtain ⟨r, c1, q1, q2, q3, _, q4⟩ := pick_ok (n := 4) h (by omega) (by omega)
  have q3 := q3 (by omega)
  obtain ⟨n, rfl⟩ : ∃ n : Nat, r = (n : Int) := ⟨r.toNat, (Int.toNat_of_nonneg q2).symm⟩
  obtain ⟨c2, l2, p1, p2, p3, p4⟩ := other_loop hm9 (by omega) n q4 (by omega) (by omega) (by omega) hs
  unfold f_S_l1Cur_other
  rw [own_Sx _ (by omega), Option.bind_some]
  dsimp only
  rw [q1, Option.bind_some]
  dsimp only
  rw [p1, Option.bind_some]
  dsimp only
  by_cases hl0 : (l2.length : Int) > 0
  · obtain ⟨o, c3, o1, o2⟩ := one_ok (n := 6) p4 (by omega) (by omega)
    rw [decide_eq_true hl0, cond_true, o1, Option.bind_some, Option.bind_some]
    dsimp only
    cases o
    · rw [cond_false, Option.bind_some]
      exact ⟨_, _, rfl, by show List.length l2 ≤ _; omega, p3.up (by omega), o2.up (by omega)⟩
    · have hi : l2.length - 1 < l2.length := by omega
      have hw : IntKind.wrap .i64 ((l2.length : Int) - 1) = ((l2.length - 1 : Nat) : Int) := by rw [wrap64 (by omega) (by omega)]; omega
      obtain ⟨h1, h2⟩ := p3 _ (List.getElem_mem hi)
      obtain ⟨pl, pe, pll⟩ := plainC_S (s := l2[l2.length - 1]) h1 (by omega)
      rw [cond_true, hw, inB_lt hi, cond_true, toNat_cast, getD_of hi, pe, Option.bind_some]
      dsimp only
      rw [cond_true, ends_S _ h1 (by omega), Option.bind_some]
      dsimp only
      cases endP l2[l2.length - 1]
      · rw [Bool.not_false, cond_true, decide_eq_true (by rw [List.length_cons, List.length_nil]; omega), cond_true, cond_true, Option.bind_some]
        exact ⟨_, _, rfl, by show List.length (l2.set _ _) ≤ _; rw [List.length_set]; omega, (p3.up (by omega)).set (by simp) (by rw [List.length_append, List.length_cons, List.length_nil]; omega), o2.up (by omega)⟩
      · rw [Bool.not_true, cond_false]
        cases hpe : (pl == ([] : List UInt8))
        · rw [Bool.not_false, cond_true, cond_true, Option.bind_some]
          have hne : pl.length ≠ 0 := fun hz => by
            have : pl = [] := List.length_eq_zero_iff.1 hz
            rw [this] at hpe
            cases hpe
          exact ⟨_, _, rfl, by show List.length (l2.set _ _) ≤ _; rw [List.length_set]; omega, (p3.up (by omega)).set (by omega) (by omega), o2.up (by omega)⟩
        · rw [Bool.not_true, cond_false, Option.bind_some]
          exact ⟨_, _, rfl, by show List.length l2 ≤ _; omega, p3.up (by omega), o2.up (by omega)⟩
  · rw [decide_eq_false hl0, cond_false, Option.bind_some]
    dsimp only
    rw [cond_false, Option.bind_some]
    exact ⟨_, _, rfl, by show List.length l2 ≤ _; omega, p3.up (by omega), p4.up (by omega)⟩

def SmVN (v : List TX) : Prop := ∀ l ∈ v, l.length ≤ 40 ∧ SmN 20 l
theorem SmVN.snoc {v : List TX} {l : TX} (h : SmVN v) (h1 : l.length ≤ 40) (h2 : SmN 20 l) : SmVN (v ++ [l]) := by
  intro x hx
  rcases List.mem_append.1 hx with hx | hx
  · exact h x hx
  · obtain rfl := List.mem_singleton.1 hx
    exact ⟨h1, h2⟩

theorem vers_loop : ∀ (n j : Nat) {K : Int} {c : Cur} {v : List TX}, CurOk K c → K + 30 * (n : Int) ≤ 4611686018427300000 → n + j ≤ 4 → v.length = j + 1 → SmVN v → (∀ l, v.getLast? = some l → l.length ≤ 9 + 3 * j ∧ SmN (9 + j) l) →
    ∃ (c' : Cur) (v' : List TX), w_S_l1Cur_versions_3 (c, v, (n : Int), ()) = some (c', v', ()) ∧ v'.length = v.length + n ∧ SmVN v' ∧ CurOk (K + 30 * n) c'
  | 0, j, K, c, v, h, hK, hn, hl, hs, hla => by
    refine ⟨c, v, fix_end (B := fun d => b_S_l1Cur_versions_3 d.1 d.2.1 d.2.2.1) ?_, rfl, hs, h.up (by omega)⟩
    show b_S_l1Cur_versions_3 c v 0 = _
    unfold b_S_l1Cur_versions_3
    rw [decide_eq_false (by omega : ¬ ((0 : Int) > 0)), cond_false]
  | n + 1, j, K, c, v, h, hK, hn, hl, hs, hla => by
    have hi : v.length - 1 < v.length := by omega
    obtain ⟨g1, g2⟩ := hla v[v.length - 1] (by rw [List.getLast?_eq_getElem?, List.getElem?_eq_getElem hi])
    obtain ⟨l1, c1, q1, q2, q3, q4⟩ := other_ok (m := 9 + j) (by omega) (by omega) h (by omega) (by omega) g2
    obtain ⟨c', v', p1, p2, p3, p4⟩ := vers_loop n (j + 1) (v := v ++ [l1]) q4 (by omega) (by omega) (by rw [List.length_append, hl]; rfl) (hs.snoc (by omega) (q3.up (by omega))) (fun l hl' => by
      rw [List.getLast?_concat] at hl'
      obtain rfl := Option.some.inj hl'
      exact ⟨by omega, q3⟩)
    refine ⟨c', v', ?_, by rw [p2, List.length_append, List.length_cons, List.length_nil]; omega, p3, p4.up (by omega)⟩
    rw [← p1]
    refine fix_go (B := fun d => b_S_l1Cur_versions_3 d.1 d.2.1 d.2.2.1) ?_
    show b_S_l1Cur_versions_3 c v ((n + 1 : Nat) : Int) = _
    unfold b_S_l1Cur_versions_3
    rw [decide_eq_true (by omega : ((n + 1 : Nat) : Int) > 0), cond_true, show IntKind.wrap .i64 ((v.length : Int) - 1) = ((v.length - 1 : Nat) : Int) from by rw [wrap64 (by omega) (by omega)]; omega, inB_lt hi, cond_true, toNat_cast, getD_of hi, q1, Option.bind_some]
    dsimp only
    rw [roomB_ok (by rw [List.length_cons, List.length_nil]; omega), cond_true, show IntKind.wrap .i64 (((n + 1 : Nat) : Int) - 1) = (n : Int) from by rw [wrap64 (by omega) (by omega)]; omega]

theorem more_loop : ∀ (n : Nat) {K : Int} {c : Cur} {v : List TX}, CurOk K c → K + 2 * (n : Int) + 2 ≤ 4611686018427300000 → 1 ≤ v.length → v.length ≤ 20 → 9 - v.length ≤ n → SmVN v →
    ∃ (c' : Cur) (v' : List TX), w_S_l1Cur_versions_12 (c, v, ()) = some (c', v', ()) ∧ v'.length ≤ 20 ∧ SmVN v' ∧ CurOk (K + 2 * n + 2) c'
  | n, K, c, v, h, hK, h1, h2, h3, hs => by
    obtain ⟨r, c1, q1, q2, q3, _, q4⟩ := pick_ok (n := 2) h (by omega) (by omega)
    have q3 := q3 (by omega)
    by_cases hg : (v.length : Int) < 8 + r
    · match n, h3, hK with
      | 0, h3, hK => omega
      | n + 1, h3, hK =>
        have hi : 0 < v.length := by omega
        obtain ⟨g1, g2⟩ := hs _ (List.getElem_mem hi)
        obtain ⟨c', v', p1, p2, p3, p4⟩ := more_loop n (v := v ++ [v[0]]) q4 (by omega) (by rw [List.length_append]; omega) (by rw [List.length_append, List.length_cons, List.length_nil]; omega) (by rw [List.length_append, List.length_cons, List.length_nil]; omega) (hs.snoc g1 g2)
        refine ⟨c', v', ?_, p2, p3, p4.up (by omega)⟩
        rw [← p1]
        refine fix_go (B := fun d => b_S_l1Cur_versions_12 d.1 d.2.1) ?_
        show b_S_l1Cur_versions_12 c v = _
        unfold b_S_l1Cur_versions_12
        rw [q1, Option.bind_some]
        dsimp only
        rw [wrap64 (x := 8 + r) (by omega) (by omega), decide_eq_true hg, cond_true, show inB 0 v.length = true from inB_lt (i := 0) hi, cond_true, show ((0 : Int).toNat) = 0 from rfl, getD_of hi, roomB_ok (by rw [List.length_cons, List.length_nil]; omega), cond_true]
    · refine ⟨c1, v, fix_end (B := fun d => b_S_l1Cur_versions_12 d.1 d.2.1) ?_, h2, hs, q4.up (by omega)⟩
      show b_S_l1Cur_versions_12 c v = _
      unfold b_S_l1Cur_versions_12
      rw [q1, Option.bind_some]
      dsimp only
      rw [wrap64 (x := 8 + r) (by omega) (by omega), decide_eq_false hg, cond_false]

theorem versions_ok {K : Int} {c : Cur} (h : CurOk K c) (hK : K ≤ 4611686018427000000) : ∃ (v : List TX) (c' : Cur), f_S_l1Cur_versions c = some ((v, ()), (c', ())) ∧ v.length ≤ 20 ∧ SmVN v ∧ CurOk (K + 1000) c' := by
  obtain ⟨l, c1, q1, q2, q3, q4⟩ := text_ok h (by omega)
  obtain ⟨r, c2, a1, a2, a3, _, a4⟩ := pick_ok (n := 4) q4 (by omega) (by omega)
  have a3 := a3 (by omega)
  obtain ⟨n, rfl⟩ : ∃ n : Nat, r = (n : Int) := ⟨r.toNat, (Int.toNat_of_nonneg a2).symm⟩
  obtain ⟨c3, v, p1, p2, p3, p4⟩ := vers_loop n 0 (v := [l]) a4 (by omega) (by omega) rfl (fun x hx => by
    obtain rfl := List.mem_singleton.1 hx
    exact ⟨by omega, q3.up (by omega)⟩) (fun x hx => by
    have hx : some l = some x := hx
    obtain rfl := Option.some.inj hx
    exact ⟨by omega, q3⟩)
  have p2 : v.length = 1 + n := p2
  obtain ⟨r5, c5, b1, b2, b3, _, b4⟩ := pick_ok (n := 30) p4 (by omega) (by omega)
  unfold f_S_l1Cur_versions
  rw [q1, Option.bind_some]
  dsimp only
  rw [a1, Option.bind_some]
  dsimp only
  rw [p1, Option.bind_some]
  dsimp only
  rw [b1, Option.bind_some]
  dsimp only
  cases (r5 == 0)
  · rw [cond_false]
    cases (r5 == 1)
    · rw [cond_false]
      cases (r5 == 2)
      · rw [cond_false, Option.bind_some]
        exact ⟨_, _, rfl, by show List.length v ≤ 20; omega, p3, b4.up (by omega)⟩
      · obtain ⟨c6, v6, m1, m2, m3, m4⟩ := more_loop 9 (v := v) b4 (by omega) (by omega) (by omega) (by omega) p3
        rw [cond_true, m1, Option.bind_some, Option.bind_some]
        exact ⟨_, _, rfl, m2, m3, m4.up (by omega)⟩
    · rw [cond_true, show inB 0 v.length = true from inB_lt (i := 0) (by omega), cond_true, Option.bind_some]
      refine ⟨_, _, rfl, by show List.length (v.set _ _) ≤ 20; rw [List.length_set]; omega, fun x hx => ?_, b4.up (by omega)⟩
      rcases List.mem_or_eq_of_mem_set hx with hx | rfl
      · exact p3 x hx
      · exact ⟨by decide, fun s hs => by
          rcases List.mem_cons.1 hs with rfl | hs
          · decide
          · obtain rfl := List.mem_singleton.1 hs
            decide⟩
  · rw [cond_true, Option.bind_some]
    exact ⟨_, _, rfl, Nat.zero_le _, (show SmVN [] from fun x hx => by cases hx), b4.up (by omega)⟩

theorem SmVN.sm {v : List TX} (h : SmVN v) (hl : v.length ≤ 20) : SmV v := ⟨by omega, fun l hx => (h l hx).2.sm (by omega) (by have := (h l hx).1; omega)⟩

theorem start_ok {t : PV S_uint8} (hw : WfV S_uint8 t) : CurOk 0 ((t, (0, (0, ()))) : Cur) := ⟨fun x hx => by have := hw.2 x hx; exact this, Int.le_refl _, Int.le_refl _⟩

theorem drawSince_ok {t : PV S_uint8} (hw : WfV S_uint8 t) : ∃ v : List TX, f_S_DrawSinceOf t = some ((v, ()), ()) ∧ SmV v := by
  obtain ⟨v, c, q1, q2, q3, _⟩ := versions_ok (start_ok hw) (by omega)
  unfold f_S_DrawSinceOf
  rw [q1, Option.bind_some]
  exact ⟨_, rfl, q3.sm q2⟩
end R
end

section
/- What is told of versions belongs together: since, till, traces. -/
open Go Go.Dn
namespace R
set_option linter.unusedVariables false

theorem pairs_eq {a b : TXT} : ∀ (n i j : Nat), i ≤ a.length → j ≤ b.length → T a b i j = n → ∀ p ∈ pairsF a b n i j, a.getD p.1 [] = b.getD p.2 []
  | 0, i, j, hi, hj, hT, p, hp => by simp [pairsF] at hp
  | n + 1, i, j, hi, hj, hT, p, hp => by
    obtain ⟨s1, s2, s3, s4, s5, s6, s7⟩ := next_spec hi hj (by omega : 0 < T a b i j)
    simp only [pairsF, List.mem_cons] at hp
    rcases hp with rfl | hp
    · rw [getD_of s2, getD_of s4]
      exact ((cand_of s2 s4).1 s5).1
    · exact pairs_eq n _ _ (by omega) (by omega) (next_T hi hj hT) p hp

theorem fold_set : ∀ (xs : List (Nat × Nat)) (o : List Int) (k : Nat), (xs.foldl setP o).getD k 0 = o.getD k 0 ∨ ∃ p ∈ xs, p.1 = k ∧ (xs.foldl setP o).getD k 0 = (p.2 : Int)
  | [], o, k => .inl rfl
  | x :: xs, o, k => by
    rw [List.foldl_cons]
    rcases fold_set xs (setP o x) k with h | ⟨p, hp, h1, h2⟩
    · rw [h]
      unfold setP
      by_cases hk : x.1 = k ∧ k < o.length
      · right
        refine ⟨x, List.mem_cons_self .., hk.1, ?_⟩
        rw [List.getD_eq_getElem?_getD, ← hk.1, List.getElem?_set_self (by rw [hk.1]; exact hk.2)]
        rfl
      · left
        rw [List.getD_eq_getElem?_getD, List.getD_eq_getElem?_getD, List.getElem?_set]
        split
        · rename_i e
          rw [e, if_neg (fun q => hk ⟨e, q⟩), List.getElem?_eq_none (Nat.le_of_not_lt fun q => hk ⟨e, q⟩)]
        · rfl
    · exact .inr ⟨p, List.mem_cons_of_mem _ hp, h1, h2⟩

theorem mates_eq {a b : TXT} {k : Nat} (hk : k < a.length) (h0 : 0 ≤ (matesP a b).getD k 0) : a.getD k [] = b.getD ((matesP a b).getD k 0).toNat [] := by
  rcases fold_set (pairsP a b) (List.replicate a.length (-1)) k with h | ⟨p, hp, h1, h2⟩
  · exfalso
    have h' : (matesP a b).getD k 0 = (List.replicate a.length (-1 : Int)).getD k 0 := h
    rw [getD_of (xs := List.replicate a.length (-1 : Int)) (by rw [List.length_replicate]; exact hk), List.getElem_replicate] at h'
    omega
  · have h2 : (matesP a b).getD k 0 = (p.2 : Int) := h2
    rw [h2, toNat_cast, ← h1]
    exact pairs_eq _ 0 0 (Nat.zero_le _) (Nat.zero_le _) rfl p hp

def CondP (v : List TXT) (s : List UInt8) (m : Nat) (q : Int) : Prop := 0 ≤ q ∧ q < ((v.getD m []).length : Int) ∧ (v.getD m []).getD q.toNat [] = s

theorem tr_cond (v : List TXT) (s : List UInt8) (n0 : Nat) : ∀ (f n k : Nat) (out : List Int), k < (v.getD n []).length → (v.getD n []).getD k [] = s → n0 + out.length = n + 1 → (∀ i, i < out.length → CondP v s (n0 + i) (out.getD i 0)) →
    ∀ i, i < (trF v f n (k : Int) out).length → CondP v s (n0 + i) ((trF v f n (k : Int) out).getD i 0)
  | 0, n, k, out, hk, hs, hn, h => h
  | f + 1, n, k, out, hk, hs, hn, h => by
    unfold trF
    rw [toNat_cast]
    cases hd : decide ((matesP (v.getD n []) (v.getD (n + 1) [])).getD k 0 < 0) with
    | true => exact h
    | false =>
      rw [cond_false]
      have hd := of_decide_eq_false hd
      have he := mates_eq hk (by omega : 0 ≤ (matesP (v.getD n []) (v.getD (n + 1) [])).getD k 0)
      have hat := matesP_at (b := v.getD (n + 1) []) hk (d := 0)
      obtain ⟨q, hq⟩ := Int.eq_ofNat_of_zero_le (by omega : 0 ≤ (matesP (v.getD n []) (v.getD (n + 1) [])).getD k 0)
      rw [hq] at he hat ⊢
      rw [toNat_cast] at he
      have hql : q < (v.getD (n + 1) []).length := by omega
      refine tr_cond v s n0 f (n + 1) q (out ++ [(q : Int)]) hql (by rw [← he]; exact hs) (by rw [List.length_append, List.length_singleton]; omega) fun i hi => ?_
      rw [List.length_append, List.length_singleton] at hi
      by_cases hio : i < out.length
      · rw [List.getD_eq_getElem?_getD, List.getElem?_append_left hio, ← List.getD_eq_getElem?_getD]
        exact h i hio
      · have : i = out.length := by omega
        subst this
        rw [List.getD_eq_getElem?_getD, List.getElem?_append_right (Nat.le_refl _), Nat.sub_self]
        show CondP v s (n0 + out.length) (q : Int)
        rw [hn]
        exact ⟨by omega, by omega, by rw [toNat_cast, ← he]; exact hs⟩

theorem trace_cond {v : List TXT} {n k : Nat} (hn : n < v.length) (hk : k < (v.getD n []).length) :
    (∀ i, i < (trF v (v.length - 1 - n) n (k : Int) [(k : Int)]).length → CondP v ((v.getD n []).getD k []) (n + i) ((trF v (v.length - 1 - n) n (k : Int) [(k : Int)]).getD i 0)) ∧
    ((trF v (v.length - 1 - n) n (k : Int) [(k : Int)]).length : Int) = tillV v (v.length - 1 - n) n k - n + 1 ∧ (n : Int) ≤ tillV v (v.length - 1 - n) n k ∧ tillV v (v.length - 1 - n) n k ≤ ((v.length - 1 : Nat) : Int) := by
  have h1 := trF_till v (v.length - 1 - n) n k [(k : Int)]
  have h2 := tillV_bd v (v.length - 1 - n) n k
  rw [List.length_singleton] at h1
  refine ⟨tr_cond v _ n (v.length - 1 - n) n k [(k : Int)] hk rfl rfl fun i hi => ?_, by omega, h2.1, by omega⟩
  rw [List.length_singleton] at hi
  have : i = 0 := by omega
  subst this
  exact ⟨by show (0 : Int) ≤ (k : Int); omega, by show (k : Int) < _; rw [Nat.add_zero]; omega, by show (v.getD (n + 0) []).getD ((k : Int)).toNat [] = _; rw [toNat_cast, Nat.add_zero]⟩

theorem pickF_cnt (x : Int) (s : List Int) (l : TXT) : ∀ (ks : List Nat) (o : TXT), (ks.foldl (pickL x s l) o).length = o.length + ks.countP (fun k => s.getD k 0 == x)
  | [], o => rfl
  | k :: ks, o => by
    rw [List.foldl_cons, pickF_cnt x s l ks, List.countP_cons]
    unfold pickL
    cases s.getD k 0 == x
    · rw [cond_false]; simp
    · rw [cond_true, List.length_append, List.length_singleton]; simp; omega

def acc (s : List Int) (L n : Nat) : Nat := (List.range L).countP (fun k => decide (s.getD k 0 < (n : Int)))
theorem acc_le (s : List Int) (L n : Nat) : acc s L n ≤ L := by
  have := List.countP_le_length (p := fun k => decide (s.getD k 0 < (n : Int))) (l := List.range L)
  rw [List.length_range] at this
  exact this
theorem acc_next (s : List Int) (L n : Nat) : acc s L (n + 1) = acc s L n + (List.range L).countP (fun k => s.getD k 0 == (n : Int)) := by
  unfold acc
  generalize List.range L = ks
  induction ks with
  | nil => rfl
  | cons k ks ih =>
    rw [List.countP_cons, List.countP_cons, List.countP_cons, ih]
    by_cases h1 : s.getD k 0 < (n : Int)
    · rw [decide_eq_true h1, decide_eq_true (by omega : s.getD k 0 < ((n + 1 : Nat) : Int)), show (s.getD k 0 == (n : Int)) = false from by rw [beq_eq_false_iff_ne]; omega]
      simp; omega
    · by_cases h2 : s.getD k 0 = (n : Int)
      · rw [decide_eq_false h1, decide_eq_true (by omega : s.getD k 0 < ((n + 1 : Nat) : Int)), show (s.getD k 0 == (n : Int)) = true from by rw [h2]; exact beq_self_eq_true _]
        simp; omega
      · rw [decide_eq_false h1, decide_eq_false (by omega : ¬ s.getD k 0 < ((n + 1 : Nat) : Int)), show (s.getD k 0 == (n : Int)) = false from by rw [beq_eq_false_iff_ne]; exact h2]
        simp
theorem acc_zero {s : List Int} {L : Nat} (hL : L ≤ s.length) (h : ∀ x ∈ s, 0 ≤ x) : acc s L 0 = 0 := by
  unfold acc
  rw [List.countP_eq_zero]
  intro k hk
  rw [List.mem_range] at hk
  have := h _ (List.getElem_mem (by omega : k < s.length))
  rw [getD_of (by omega : k < s.length)]
  simp; omega
theorem acc_all {s : List Int} {L N : Nat} (hL : L ≤ s.length) (h : ∀ x ∈ s, x < (N : Int)) : acc s L N = L := by
  unfold acc
  have : (List.range L).countP (fun k => decide (s.getD k 0 < (N : Int))) = (List.range L).length := by
    rw [List.countP_eq_length]
    intro k hk
    rw [List.mem_range] at hk
    have := h _ (List.getElem_mem (by omega : k < s.length))
    rw [getD_of (by omega : k < s.length)]
    exact decide_eq_true this
  rw [this, List.length_range]
end R
end

section
/- Since: what is told of drawn versions belongs together. -/
open Go Go.Dn
namespace R
set_option linter.unusedVariables false

theorem sameInts_self (a : PV S_int) (ha : List.length a ≤ 4611686018427387904) : f_L_sameInts a a = some ((true, ()), ()) := by
  have hF := fix_all (B := fun d => b_L_sameInts_4 d.1 d.2.1 d.2.2.1 d.2.2.2.1) (fun i => (a, a, (List.length a : Int), (i : Int), ())) (List.length a) (r := (.inl ()))
    (fun i hi => by
      show b_L_sameInts_4 a a (List.length a) i = _
      unfold b_L_sameInts_4
      rw [decide_eq_true (by omega : (i : Int) < (List.length a : Int)), cond_true, inB_lt hi, cond_true, cond_true, toNat_cast]
      rw [beq_self_eq_true, Bool.not_true, cond_false, wrap64 (x := (i : Int) + 1) (by omega) (by omega)]
      rfl)
    (by
      show b_L_sameInts_4 a a (List.length a) (List.length a) = _
      unfold b_L_sameInts_4
      rw [decide_eq_false (Int.lt_irrefl _), cond_false])
  unfold f_L_sameInts
  rw [beq_self_eq_true, Bool.not_true, cond_false, show w_L_sameInts_4 (a, a, (List.length a : Int), 0, ()) = _ from hF, Option.bind_some]

theorem sameLists_self (a : PV S_S_int) (ha : List.length a ≤ 4611686018427387904) (hl : ∀ x ∈ a, List.length (x : PV S_int) ≤ 4611686018427387904) : f_L_sameLists a a = some ((true, ()), ()) := by
  have hF := fix_all (B := fun d => b_L_sameLists_4 d.1 d.2.1 d.2.2.1 d.2.2.2.1) (fun i => (a, a, (List.length a : Int), (i : Int), ())) (List.length a) (r := (.inl ()))
    (fun i hi => by
      show b_L_sameLists_4 a a (List.length a) i = _
      unfold b_L_sameLists_4
      rw [decide_eq_true (by omega : (i : Int) < (List.length a : Int)), cond_true, inB_lt hi, cond_true, cond_true, toNat_cast]
      rw [sameInts_self _ (by rw [getD_of hi]; exact hl _ (List.getElem_mem hi)), Option.bind_some]
      dsimp only
      rw [Bool.not_true, cond_false, wrap64 (x := (i : Int) + 1) (by omega) (by omega)]
      rfl)
    (by
      show b_L_sameLists_4 a a (List.length a) (List.length a) = _
      unfold b_L_sameLists_4
      rw [decide_eq_false (Int.lt_irrefl _), cond_false])
  unfold f_L_sameLists
  rw [beq_self_eq_true, Bool.not_true, cond_false, show w_L_sameLists_4 (a, a, (List.length a : Int), 0, ()) = _ from hF, Option.bind_some]

theorem bigC_L {t0 t1 : PV S_uint8} : ∃ b : Bool, f_L_big t0 t1 = some ((b, ()), ()) := by
  unfold f_L_big
  cases decide ((List.length t0 : Int) > 1048576)
  · exact ⟨_, rfl⟩
  · exact ⟨_, rfl⟩


theorem pos_loop (t1 : PV S_uint8) {v : List TXT} {s : List Int} {t : List (List Int)} {last sm : Int} {n k : Nat} {L n2 : Int} {tn : List Int} {lt k2 : Int} {p : List Int} (hv8 : v.length ≤ 8) (hn : n < v.length) (hk : k < (v.getD n []).length) (hp : n + p.length ≤ v.length)
    (hc : ∀ i, i < p.length → CondP v ((v.getD n []).getD k []) (n + i) (p.getD i 0)) :
    w_L_FnSince_29 (t1, v, s, t, last, sm, (n : Int), (k : Int), L, n2, tn, lt, k2, p, (p.length : Int), 0, ()) = some (.inl (t1, v, s, t, last, sm, (n : Int), L, n2, tn, lt, k2, ())) := by
  have hF := fix_all (B := fun d => b_L_FnSince_29 d.1 d.2.1 d.2.2.1 d.2.2.2.1 d.2.2.2.2.1 d.2.2.2.2.2.1 d.2.2.2.2.2.2.1 d.2.2.2.2.2.2.2.1 d.2.2.2.2.2.2.2.2.1 d.2.2.2.2.2.2.2.2.2.1 d.2.2.2.2.2.2.2.2.2.2.1 d.2.2.2.2.2.2.2.2.2.2.2.1 d.2.2.2.2.2.2.2.2.2.2.2.2.1 d.2.2.2.2.2.2.2.2.2.2.2.2.2.1 d.2.2.2.2.2.2.2.2.2.2.2.2.2.2.1 d.2.2.2.2.2.2.2.2.2.2.2.2.2.2.2.1) (fun i => (t1, v, s, t, last, sm, (n : Int), (k : Int), L, n2, tn, lt, k2, p, (p.length : Int), (i : Int), ())) p.length (r := (.inl (t1, v, s, t, last, sm, (n : Int), L, n2, tn, lt, k2, ())))
    (fun i hi => by
      show b_L_FnSince_29 t1 v s t last sm n k L n2 tn lt k2 p p.length i = _
      obtain ⟨c1, c2, c3⟩ := hc i hi
      have w1 : IntKind.wrap .i64 ((n : Int) + (i : Int)) = ((n + i : Nat) : Int) := by rw [wrap64 (by omega) (by omega)]; omega
      unfold b_L_FnSince_29
      rw [decide_eq_true (by omega : (i : Int) < (p.length : Int)), cond_true, inB_lt hi, cond_true, toNat_cast]
      generalize p.getD i 0 = q at *
      obtain ⟨m, rfl⟩ := Int.eq_ofNat_of_zero_le c1
      have hm : m < (v.getD (n + i) []).length := by omega
      rw [toNat_cast] at c3
      rw [decide_eq_false (by omega : ¬ ((m : Int) < 0)), cond_false, w1, inB_lt (by omega : n + i < v.length), cond_true, toNat_cast, decide_eq_false (by omega : ¬ ((m : Int) ≥ ((v.getD (n + i) []).length : Int))), cond_false, cond_true, inB_lt hm, cond_true, inB_lt hn, cond_true, toNat_cast, toNat_cast, toNat_cast, inB_lt hk, cond_true, c3, beq_self_eq_true, Option.bind_some]
      dsimp only
      rw [Bool.not_true, cond_false, wrap64 (x := (i : Int) + 1) (by omega) (by omega)]
      rfl)
    (by
      show b_L_FnSince_29 t1 v s t last sm n k L n2 tn lt k2 p p.length p.length = _
      unfold b_L_FnSince_29
      rw [decide_eq_false (Int.lt_irrefl _), cond_false])
  exact hF

theorem okT_in {v : List TXT} (h : versP v = true) {n k : Nat} (hn : n < v.length) (hk : k < (v.getD n []).length) : okT v (n : Int) (k : Int) = true := by
  unfold okT inI
  rw [h, toNat_cast]
  simp only [Bool.true_and, Bool.and_eq_true, decide_eq_true_eq]
  omega
theorem okL_in {v : List TXT} (h : versP v = true) {n : Nat} (hn : n < v.length) : okL v (n : Int) = true := by
  unfold okL inI
  rw [h]
  simp
  omega

theorem line_loop (t1 : PV S_uint8) {v : List TXT} (hs : SmV v) (h : versP v = true) {s : List Int} {t : List (List Int)} {sm : Int} {n : Nat} {L n2 : Int} (hn : n < v.length) :
    w_L_FnSince_23 (t1, v, s, t, ((v.length - 1 : Nat) : Int), sm, (n : Int), L, n2, tillP v n, ((tillP v n).length : Int), 0, ()) = some (.inl (t1, v, s, t, ((v.length - 1 : Nat) : Int), sm, L, n2, ())) := by
  obtain ⟨h1, h2, h3⟩ := vers_at h
  have hl := tillP_len v n
  have h40 := h3 n hn
  have hF := fix_all (B := fun d => b_L_FnSince_23 d.1 d.2.1 d.2.2.1 d.2.2.2.1 d.2.2.2.2.1 d.2.2.2.2.2.1 d.2.2.2.2.2.2.1 d.2.2.2.2.2.2.2.1 d.2.2.2.2.2.2.2.2.1 d.2.2.2.2.2.2.2.2.2.1 d.2.2.2.2.2.2.2.2.2.2.1 d.2.2.2.2.2.2.2.2.2.2.2.1) (fun i => (t1, v, s, t, ((v.length - 1 : Nat) : Int), sm, (n : Int), L, n2, tillP v n, ((tillP v n).length : Int), (i : Int), ())) (tillP v n).length (r := (.inl (t1, v, s, t, ((v.length - 1 : Nat) : Int), sm, L, n2, ())))
    (fun k hk => by
      show b_L_FnSince_23 t1 v s t ((v.length - 1 : Nat) : Int) sm n L n2 (tillP v n) (tillP v n).length k = _
      have hk' : k < (v.getD n []).length := by omega
      obtain ⟨c1, c2, c3, c4⟩ := trace_cond (v := v) hn hk'
      have hg : (tillP v n).getD k 0 = tillV v (v.length - 1 - n) n k := by unfold tillP; exact mkT_get hk'
      have hT : traceR v (n : Int) (k : Int) = trF v (v.length - 1 - n) n (k : Int) [(k : Int)] := by
        unfold traceR
        rw [okT_in h hn hk', cond_true, toNat_cast]
      unfold b_L_FnSince_23
      rw [decide_eq_true (by omega : (k : Int) < ((tillP v n).length : Int)), cond_true, inB_lt hk, cond_true, trace_I hs, Option.bind_some, toNat_cast]
      dsimp only
      rw [hT, okT_in h hn hk', hg]
      generalize trF v (v.length - 1 - n) n (k : Int) [(k : Int)] = p at *
      generalize tillV v (v.length - 1 - n) n k = m at *
      rw [show IntKind.wrap .i64 (IntKind.wrap .i64 (m - (n : Int)) + 1) = (p.length : Int) from by rw [wrap64 (x := m - (n : Int)) (by omega) (by omega), wrap64 (by omega) (by omega)]; omega, beq_self_eq_true, Bool.not_true, cond_false, cond_false, decide_eq_false (by omega : ¬ (m < (n : Int))), cond_false, decide_eq_false (by omega : ¬ (m > ((v.length - 1 : Nat) : Int))), Option.bind_some]
      dsimp only
      rw [cond_false, pos_loop t1 h2 hn hk' (by omega) c1, Option.bind_some]
      dsimp only
      rw [wrap64 (x := (k : Int) + 1) (by omega) (by omega)]
      rfl)
    (by
      show b_L_FnSince_23 t1 v s t ((v.length - 1 : Nat) : Int) sm n L n2 (tillP v n) (tillP v n).length (tillP v n).length = _
      unfold b_L_FnSince_23
      rw [decide_eq_false (Int.lt_irrefl _), cond_false])
  exact hF

theorem vers_loop_L (t1 : PV S_uint8) {v : List TXT} (hs : SmV v) (h : versP v = true) :
    w_L_FnSince_16 (t1, v, sinceP v (v.length - 1), tillsP v, ((v.length - 1 : Nat) : Int), 0, (v.length : Int), 0, ()) = some (.inl (t1, sinceP v (v.length - 1), ((sinceP v (v.length - 1)).length : Int), ())) := by
  obtain ⟨h1, h2, h3⟩ := vers_at h
  have hsl := sinceP_len v (v.length - 1)
  have h40 := h3 (v.length - 1) (by omega)
  have hval := since_val v (v.length - 1)
  generalize hS : sinceP v (v.length - 1) = s at *
  have z : acc s s.length 0 = 0 := acc_zero (Nat.le_refl _) fun x hx => (hval x hx).1
  have e : acc s s.length v.length = s.length := acc_all (Nat.le_refl _) fun x hx => by have := (hval x hx).2; omega
  have hF := fix_all (B := fun d => b_L_FnSince_16 d.1 d.2.1 d.2.2.1 d.2.2.2.1 d.2.2.2.2.1 d.2.2.2.2.2.1 d.2.2.2.2.2.2.1 d.2.2.2.2.2.2.2.1) (fun n => (t1, v, s, tillsP v, ((v.length - 1 : Nat) : Int), ((acc s s.length n : Nat) : Int), (v.length : Int), (n : Int), ())) v.length (r := (.inl (t1, s, ((acc s s.length v.length : Nat) : Int), ())))
    (fun n hn => by
      show b_L_FnSince_16 t1 v s (tillsP v) ((v.length - 1 : Nat) : Int) ((acc s s.length n : Nat) : Int) v.length n = _
      have hlen : (linesR v (n : Int)).length = (List.range s.length).countP (fun k => s.getD k 0 == (n : Int)) := by
        unfold linesR
        rw [okL_in h hn, cond_true, hS]
        unfold pickF
        rw [pickF_cnt, ← hsl]
        simp
      have a1 := acc_next s s.length n
      have a2 := acc_le s s.length (n + 1)
      have ht : (tillsP v).getD n [] = tillP v n := by unfold tillsP; exact mkT_get hn
      unfold b_L_FnSince_16
      rw [decide_eq_true (by omega : (n : Int) < (v.length : Int)), cond_true, lines_I hs, Option.bind_some]
      dsimp only
      rw [okL_in h hn, Bool.not_true, cond_false, inB_lt (by unfold tillsP; rw [mkT_len]; exact hn), cond_true, toNat_cast, ht, hlen, show IntKind.wrap .i64 (((acc s s.length n : Nat) : Int) + (((List.range s.length).countP (fun k => s.getD k 0 == (n : Int)) : Nat) : Int)) = ((acc s s.length (n + 1) : Nat) : Int) from by rw [wrap64 (by omega) (by omega)]; omega, line_loop t1 hs h hn, Option.bind_some]
      dsimp only
      rw [wrap64 (x := (n : Int) + 1) (by omega) (by omega)]
      rfl)
    (by
      show b_L_FnSince_16 t1 v s (tillsP v) ((v.length - 1 : Nat) : Int) ((acc s s.length v.length : Nat) : Int) v.length v.length = _
      unfold b_L_FnSince_16
      rw [decide_eq_false (Int.lt_irrefl _), cond_false])
  rw [e] at hF
  rw [← hF, z]
  rfl

theorem law_Since (t0 t1 : PV S_uint8) (hw : WfV S_uint8 t0) (hw1 : WfV S_uint8 t1) : f_L_FnSince t0 t1 = some ((true, ()), ()) := by
  obtain ⟨bg, hbg⟩ := @bigC_L t0 t1
  obtain ⟨v, hd, hv⟩ := drawSince_ok hw
  obtain ⟨v2, hd2, hv2⟩ := drawSince_ok hw1
  have r1 : (sinceR v).length ≤ 4611686018427387904 := by
    have := since_tot v
    rw [show tot S_int (sinceR v) = (sinceR v).length + ((sinceR v).map (tot (.int .i64))).sum from tot_slice] at this
    omega
  have r2 := till_tot v
  have r3 : (tillR v).length ≤ 4611686018427387904 := by
    rw [show tot S_S_int (tillR v) = (tillR v).length + ((tillR v).map (tot S_int)).sum from tot_slice] at r2
    omega
  have r4 : ∀ x ∈ tillR v, List.length (x : PV S_int) ≤ 4611686018427387904 := fun x hx => by
    have := tot_all (t := S_int) (xs := tillR v) (n := 2000) r2 x hx
    rw [tot_ints] at this
    omega
  have fin : ((some (.inl (t1, ())) : Option ((PV S_uint8 × Unit) ⊕ (PV .bool × Unit))).bind fun x56 =>
                      match x56 with
                      | .inl j45 =>
                        (f_S_DrawSinceText j45.1).bind fun r47 =>
                          (f_I_SinceText r47.1.1).bind fun r49 =>
                            (f_S_SinceText r47.1.1).bind fun r51 =>
                              bif (r49.1.2.1 == r51.1.2.1) then
                                some (((r49.1.1 == r51.1.1), ()), ())
                              else
                                some ((false, ()), ())
                      | .inr j52 =>
                        (some ((j52.1, ()), ()) : Option (PVs [.bool] × PVs []))) = some ((true, ()), ()) := by
    rw [Option.bind_some]
    dsimp only
    rw [show f_S_DrawSinceText t1 = some ((v2, ()), ()) from by unfold f_S_DrawSinceText; rw [hd2]; rfl, Option.bind_some]
    dsimp only
    rw [sinceText_I hv2, Option.bind_some, sinceText_S hv2, Option.bind_some]
    dsimp only
    rw [beq_self_eq_true, cond_true, beq_self_eq_true]
  unfold f_L_FnSince
  rw [hbg, Option.bind_some]
  dsimp only
  cases bg
  · rw [cond_false, hd, Option.bind_some]
    dsimp only
    rw [sinceOf_I hv, Option.bind_some, sinceOf_S hv, Option.bind_some, till_I hv, Option.bind_some, till_S hv, Option.bind_some]
    dsimp only
    rw [beq_self_eq_true, Bool.not_true, cond_false, sameInts_self _ r1, Option.bind_some]
    dsimp only
    rw [Bool.not_true, cond_false, cond_false, sameLists_self _ r3 r4, Option.bind_some]
    dsimp only
    rw [Bool.not_true, cond_false, Option.bind_some]
    dsimp only
    rw [cond_false]
    cases h : versP v
    · rw [cond_false, Option.bind_some]
      dsimp only
      rw [cond_false]
      exact fin
    · obtain ⟨h1, h2, h3⟩ := vers_at h
      have hS : sinceR v = sinceP v (v.length - 1) := by unfold sinceR; rw [h, cond_true]
      have hT : tillR v = tillsP v := by unfold tillR; rw [h, cond_true]
      have hw1 : IntKind.wrap .i64 ((v.length : Int) - 1) = ((v.length - 1 : Nat) : Int) := by rw [wrap64 (by omega) (by omega)]; omega
      rw [cond_true, Option.bind_some]
      dsimp only
      rw [decide_eq_true (by omega : (v.length : Int) > 0), cond_true, hw1, inB_lt (by omega : v.length - 1 < v.length), cond_true, toNat_cast, hS, hT, show ((sinceP v (v.length - 1)).length : Int) = ((v.getD (v.length - 1) []).length : Int) from by rw [sinceP_len], beq_self_eq_true, Bool.not_true, cond_false,
        show ((tillsP v).length : Int) = (v.length : Int) from by unfold tillsP; rw [mkT_len], beq_self_eq_true, Bool.not_true, Option.bind_some]
      dsimp only
      rw [cond_false, vers_loop_L t1 hv h, Option.bind_some]
      dsimp only
      rw [beq_self_eq_true, Bool.not_true, cond_false]
      exact fin
  · rfl
end R
end
