/- Parts of the proof: PbN Qm1 Qm8 Qm9 Qm10 Qm12 Qm13 Qm14 Qm15 Qm16 Qm17 Qm18 Qm19 Qm20 Qm21 Qm22 Qm24 Qm25 Qm26 Qm27 Qm28. -/
import Derived.Test.YtifjjdpgheoogaaPaN
import Derived.Test.YtifjjdpgheoogaaL3
section
/- Plain laws of the helpers: none are wanted. -/
end

section
/- Lines: both sides' tests of lines answer the same. -/
open Go Go.Dn
namespace R
set_option linter.unusedVariables false

theorem in_I (a b c : Int) : f_I_in a b c = some ((decide (a ≥ b) && decide (a ≤ c), ()), ()) := by
  unfold f_I_in
  cases decide (a ≥ b) <;> rfl
theorem in_S (a b c : Int) : f_S_l1In a b c = some ((decide (a ≥ b) && decide (a ≤ c), ()), ()) := by
  unfold f_S_l1In
  cases decide (a ≥ b) <;> rfl

def inI (a b c : Int) : Bool := decide (a ≥ b) && decide (a ≤ c)
def hasEnd (s : List UInt8) : Bool := (s.take (s.length - 1)).contains 10
def lineP (s : List UInt8) : Bool := inI (s.length : Int) 1 30 && !hasEnd s
def endP (s : List UInt8) : Bool := s.drop (s.length - 1) == [10]

theorem line_len {s : List UInt8} (h : lineP s = true) : 1 ≤ s.length ∧ s.length ≤ 30 := by
  unfold lineP inI at h
  simp only [Bool.and_eq_true, decide_eq_true_eq] at h
  omega

theorem line_S (s : List UInt8) (hs : s.length ≤ 4611686018427387904) : f_S_l1Line s = some ((lineP s, ()), ()) := by
  unfold f_S_l1Line
  have hw : IntKind.wrap .i64 ((s.length : Int) - 1) = (s.length : Int) - 1 := wrap64 (by omega) (by omega)
  rw [show w_S_l1Line_2 (s, 0, ()) = _ from fix_anyN (B := fun d => b_S_l1Line_2 d.1 d.2.1) (s.length - 1) (fun i => s.getD i 0 == 10) (fun i => (s, (i : Int), ())) (fun _ => .inr (false, ())) (.inl (s, ()))
    (fun i hi hq => by
      show b_S_l1Line_2 s i = _
      unfold b_S_l1Line_2
      rw [hw, decide_eq_true (by omega : (i : Int) < (s.length : Int) - 1), cond_true, inB_lt (by omega), cond_true, toNat_cast]
      rw [show ((((s.getD i 0 : UInt8).toNat : Nat) : Int) == 10) = (s.getD i 0 == 10) from byte_eq (n := 10) (by omega), hq, cond_false, wrap64 (by omega) (by omega)]
      simp)
    (fun i hi hq => by
      show b_S_l1Line_2 s i = _
      unfold b_S_l1Line_2
      rw [hw, decide_eq_true (by omega : (i : Int) < (s.length : Int) - 1), cond_true, inB_lt (by omega), cond_true, toNat_cast]
      rw [show ((((s.getD i 0 : UInt8).toNat : Nat) : Int) == 10) = (s.getD i 0 == 10) from byte_eq (n := 10) (by omega), hq, cond_true])
    (by
      show b_S_l1Line_2 s ((s.length - 1 : Nat) : Int) = _
      unfold b_S_l1Line_2
      rw [hw, decide_eq_false (by omega : ¬ (((s.length - 1 : Nat) : Int) < (s.length : Int) - 1)), cond_false])]
  rw [contains_take (by omega)]
  unfold lineP hasEnd
  cases (s.take (s.length - 1)).contains 10
  · simp only [Bool.false_eq_true, if_false, Option.bind_some, in_S]; simp [inI]
  · simp

theorem ends_S (s : List UInt8) (h1 : 1 ≤ s.length) (hs : s.length ≤ 4611686018427387904) : f_S_l1Ends s = some ((endP s, ()), ()) := by
  unfold f_S_l1Ends
  have hw : IntKind.wrap .i64 ((s.length : Int) - 1) = ((s.length - 1 : Nat) : Int) := by rw [wrap64 (by omega) (by omega)]; omega
  rw [hw, inB_lt (by omega), cond_true, toNat_cast]
  rw [show ((((s.getD (s.length - 1) 0 : UInt8).toNat : Nat) : Int) == 10) = (s.getD (s.length - 1) 0 == 10) from byte_eq (n := 10) (by omega)]
  unfold endP
  rw [List.drop_eq_getElem_cons (by omega : s.length - 1 < s.length), List.drop_of_length_le (by omega), getD_of (by omega)]
  simp

theorem line_I (s : List UInt8) (hs : s.length ≤ 4611686018427387904) : f_I_isLine s = some ((lineP s, ()), ()) := by
  unfold f_I_isLine
  rw [in_I, Option.bind_some]
  dsimp only
  unfold lineP
  cases h : inI (s.length : Int) 1 30
  · unfold inI at h; rw [h]; rfl
  · have h' := h
    unfold inI at h'
    rw [h', cond_true]
    simp only [Bool.and_eq_true, decide_eq_true_eq] at h'
    rw [wrap64 (by omega) (by omega)]
    rw [show cutB 0 ((s.length : Int) - 1) s.length = true from by unfold cutB; simp; omega, cond_true]
    unfold f_strings_Contains containsF
    rw [Option.bind_some]
    unfold hasEnd cutL
    rw [show ((s.length : Int) - 1).toNat = s.length - 1 from by omega]
    simp

theorem ends_I (s : List UInt8) (hs : s.length ≤ 4611686018427387904) : f_I_isEnded s = some ((endP s, ()), ()) := by
  unfold f_I_isEnded f_strings_HasSuffix f_internal_stringslite_HasSuffix endP
  by_cases h : 1 ≤ s.length
  · rw [decide_eq_true (by simp; omega : (s.length : Int) ≥ (([10] : List UInt8).length : Int)), cond_true]
    have hw : IntKind.wrap .i64 ((s.length : Int) - (([10] : List UInt8).length : Int)) = ((s.length - 1 : Nat) : Int) := by
      rw [show ((([10] : List UInt8).length : Nat) : Int) = 1 from rfl, wrap64 (by omega) (by omega)]; omega
    rw [hw, show cutB ((s.length - 1 : Nat) : Int) (s.length : Int) s.length = true from by unfold cutB; simp, cond_true]
    unfold cutL
    simp
  · have : s = [] := List.eq_nil_of_length_eq_zero (by omega)
    subst this
    rfl

/-- Lines, each by itself, and not too many. -/
def linesP (l : List (List UInt8)) : Bool := decide (l.length ≤ 40) && !(l.any fun s => !lineP s)
def endsP (l : List (List UInt8)) : Bool := !(anyN l.length fun k => decide ((k : Int) < (l.length : Int) - 1) && !(endP (l.getD k [])))
def goodP (l : List (List UInt8)) : Bool := linesP l && endsP l

def Sm (l : List (List UInt8)) : Prop := l.length ≤ 4611686018427387904 ∧ ∀ s ∈ l, s.length ≤ 4611686018427387904

theorem Sm.len {l : List (List UInt8)} (h : Sm l) : l.length ≤ 4611686018427387904 := h.1
theorem Sm.mem {l : List (List UInt8)} (h : Sm l) {i : Nat} (hi : i < l.length) : (l[i]).length ≤ 4611686018427387904 := h.2 _ (List.getElem_mem hi)
theorem Sm.of {l : List (List UInt8)} {n : Nat} (h : tot (.slice 9 .str) l ≤ n) (hn : n ≤ 4611686018427387904) : Sm l := by
  refine ⟨?_, fun s hs => ?_⟩
  · have h' := h
    rw [tot_slice] at h'
    omega
  · obtain ⟨i, hi, rfl⟩ := List.mem_iff_getElem.1 hs
    have := Nat.le_trans (tot_mem (e := 9) (t := .str) (xs := l) hi) h
    rw [tot_str] at this
    omega

theorem areLines_I (t0 : List (List UInt8)) (hs : Sm t0) : f_I_areLines t0 = some ((linesP t0, ()), ()) := by
  unfold f_I_areLines linesP
  by_cases hl : t0.length ≤ 40
  · rw [decide_eq_true (by omega : (t0.length : Int) ≤ 40), cond_true, decide_eq_true hl, Bool.true_and]
    rw [show w_I_areLines_214_2 (t0, false, t0, (t0.length : Int), true, true, t0, t0, false, t0, t0, (t0.length : Int), 0, ()) = _ from
      fix_any (B := fun d => b_I_areLines_214_2 d.1 d.2.1 d.2.2.1 d.2.2.2.1 d.2.2.2.2.1 d.2.2.2.2.2.1 d.2.2.2.2.2.2.1 d.2.2.2.2.2.2.2.1 d.2.2.2.2.2.2.2.2.1 d.2.2.2.2.2.2.2.2.2.1 d.2.2.2.2.2.2.2.2.2.2.1 d.2.2.2.2.2.2.2.2.2.2.2.1 d.2.2.2.2.2.2.2.2.2.2.2.2.1) t0 (fun s => !lineP s)
      (fun i => (t0, false, t0, (t0.length : Int), true, true, t0, t0, false, t0, t0, (t0.length : Int), (i : Int), ())) (fun i => .inr (t0, false, t0, (t0.length : Int), true, true, t0, t0, false, t0, (i : Int), ())) (.inl (t0, false, t0, (t0.length : Int), true, true, t0, t0, false, t0, ()))
      (fun i hi hq => by
        show b_I_areLines_214_2 _ _ _ _ _ _ _ _ _ _ t0 t0.length i = _
        unfold b_I_areLines_214_2 f_I_areLines_1
        rw [decide_eq_true (by omega : (i : Int) < (t0.length : Int)), cond_true, inB_lt hi, cond_true, toNat_cast, getD_of hi, line_I _ (hs.mem hi), Option.bind_some, Option.bind_some]
        dsimp only
        rw [hq, cond_false, wrap64 (by omega) (by omega)]; rfl)
      (fun i hi hq => by
        show b_I_areLines_214_2 _ _ _ _ _ _ _ _ _ _ t0 t0.length i = _
        unfold b_I_areLines_214_2 f_I_areLines_1
        rw [decide_eq_true (by omega : (i : Int) < (t0.length : Int)), cond_true, inB_lt hi, cond_true, toNat_cast, getD_of hi, line_I _ (hs.mem hi), Option.bind_some, Option.bind_some]
        dsimp only
        rw [hq, cond_true])
      (by
        show b_I_areLines_214_2 _ _ _ _ _ _ _ _ _ _ t0 t0.length t0.length = _
        unfold b_I_areLines_214_2
        rw [decide_eq_false (Int.lt_irrefl _), cond_false])]
    cases h : t0.any fun s => !lineP s
    · rfl
    · simp
  · rw [decide_eq_false (by omega : ¬ (t0.length : Int) ≤ 40), cond_false, decide_eq_false hl]; rfl

theorem goodLines_I (t0 : List (List UInt8)) (hs : Sm t0) : f_I_goodLines t0 = some ((goodP t0, ()), ()) := by
  have hl := hs.len
  unfold f_I_goodLines goodP
  rw [areLines_I t0 hs, Option.bind_some]
  dsimp only
  cases linesP t0
  · rfl
  · rw [Bool.not_true, cond_false]
    have hw : IntKind.wrap .i64 ((t0.length : Int) - 1) = (t0.length : Int) - 1 := wrap64 (by omega) (by omega)
    have hr : ∀ i, i < t0.length → ((bif decide ((i : Int) < (t0.length : Int) - 1) then (f_I_isEnded (t0.getD i [])).bind fun r7 => some (t0, t0, (t0.length : Int), (i : Int), !r7.1.1, ()) else some (t0, t0, (t0.length : Int), (i : Int), false, ())) : Option (PV S_string × PV S_string × Int × Int × Bool × Unit)) =
        some (t0, t0, (t0.length : Int), (i : Int), decide ((i : Int) < (t0.length : Int) - 1) && !(endP (t0.getD i [])), ()) := by
      intro i hi
      cases decide ((i : Int) < (t0.length : Int) - 1)
      · rfl
      · rw [cond_true, getD_of hi, ends_I _ (hs.mem hi)]; rfl
    rw [show w_I_goodLines_4 (t0, t0, (t0.length : Int), 0, ()) = _ from fix_anyN (B := fun d => b_I_goodLines_4 d.1 d.2.1 d.2.2.1 d.2.2.2.1) t0.length (fun k => decide ((k : Int) < (t0.length : Int) - 1) && !(endP (t0.getD k [])))
      (fun i => (t0, t0, (t0.length : Int), (i : Int), ())) (fun _ => .inr (false, ())) (.inl ())
      (fun i hi hq => by
        show b_I_goodLines_4 t0 t0 t0.length i = _
        unfold b_I_goodLines_4
        rw [decide_eq_true (by omega : (i : Int) < (t0.length : Int)), cond_true, inB_lt hi, cond_true, toNat_cast, hw, hr i hi, hq, Option.bind_some]
        dsimp only
        rw [cond_false, wrap64 (by omega) (by omega)]; rfl)
      (fun i hi hq => by
        show b_I_goodLines_4 t0 t0 t0.length i = _
        unfold b_I_goodLines_4
        rw [decide_eq_true (by omega : (i : Int) < (t0.length : Int)), cond_true, inB_lt hi, cond_true, toNat_cast, hw, hr i hi, hq, Option.bind_some]
        rfl)
      (by
        show b_I_goodLines_4 t0 t0 t0.length t0.length = _
        unfold b_I_goodLines_4
        rw [decide_eq_false (Int.lt_irrefl _), cond_false])]
    unfold endsP
    cases anyN t0.length fun k => decide ((k : Int) < (t0.length : Int) - 1) && !(endP (t0.getD k [])) <;> rfl

theorem l1Good_S (t0 : List (List UInt8)) (hs : Sm t0) : f_S_l1Good t0 = some ((goodP t0, ()), ()) := by
  have hl := hs.len
  unfold f_S_l1Good
  have hw : IntKind.wrap .i64 ((t0.length : Int) - 1) = (t0.length : Int) - 1 := wrap64 (by omega) (by omega)
  have hr : ∀ i, i < t0.length → (((f_S_l1Line (t0.getD i [])).bind fun r4 => bif !r4.1.1 then some (t0, t0, (t0.length : Int), (i : Int), true, ()) else
      bif decide ((i : Int) < (t0.length : Int) - 1) then (f_S_l1Ends (t0.getD i [])).bind fun r5 => some (t0, t0, (t0.length : Int), (i : Int), !r5.1.1, ()) else some (t0, t0, (t0.length : Int), (i : Int), false, ())) : Option (PV S_string × PV S_string × Int × Int × Bool × Unit)) =
      some (t0, t0, (t0.length : Int), (i : Int), !(lineP (t0.getD i [])) || (decide ((i : Int) < (t0.length : Int) - 1) && !(endP (t0.getD i []))), ()) := by
    intro i hi
    rw [getD_of hi, line_S _ (hs.mem hi), Option.bind_some]
    dsimp only
    cases hL : lineP t0[i]
    · rfl
    · rw [Bool.not_true, cond_false, Bool.false_or]
      cases decide ((i : Int) < (t0.length : Int) - 1)
      · rfl
      · rw [cond_true, ends_S _ (line_len hL).1 (hs.mem hi)]; rfl
  rw [show w_S_l1Good_2 (t0, t0, (t0.length : Int), 0, ()) = _ from fix_anyN (B := fun d => b_S_l1Good_2 d.1 d.2.1 d.2.2.1 d.2.2.2.1) t0.length (fun k => !(lineP (t0.getD k [])) || (decide ((k : Int) < (t0.length : Int) - 1) && !(endP (t0.getD k []))))
      (fun i => (t0, t0, (t0.length : Int), (i : Int), ())) (fun _ => .inr (false, ())) (.inl (t0, ()))
      (fun i hi hq => by
        show b_S_l1Good_2 t0 t0 t0.length i = _
        unfold b_S_l1Good_2
        rw [decide_eq_true (by omega : (i : Int) < (t0.length : Int)), cond_true, inB_lt hi, cond_true, toNat_cast, hw, hr i hi, hq, Option.bind_some]
        dsimp only
        rw [cond_false, wrap64 (by omega) (by omega)]; rfl)
      (fun i hi hq => by
        show b_S_l1Good_2 t0 t0 t0.length i = _
        unfold b_S_l1Good_2
        rw [decide_eq_true (by omega : (i : Int) < (t0.length : Int)), cond_true, inB_lt hi, cond_true, toNat_cast, hw, hr i hi, hq, Option.bind_some]
        rfl)
      (by
        show b_S_l1Good_2 t0 t0 t0.length t0.length = _
        unfold b_S_l1Good_2
        rw [decide_eq_false (Int.lt_irrefl _), cond_false])]
  rw [anyN_or, show (anyN t0.length fun k => !(lineP (t0.getD k []))) = t0.any fun s => !lineP s from anyN_list (f := fun s => !lineP s)]
  unfold goodP linesP endsP
  cases t0.any fun s => !lineP s
  · cases anyN t0.length fun k => decide ((k : Int) < (t0.length : Int) - 1) && !(endP (t0.getD k []))
    · simp; omega
    · simp
  · simp
end R
end

section
/- The table of what two texts share: both sides make the same. -/
open Go Go.Dn
namespace R
set_option linter.unusedVariables false

abbrev TXT := List (List UInt8)
def rowP (a b : TXT) (i m : Nat) : List Int := mkT (b.length + 1) fun j => if m ≤ j then (T a b i j : Int) else 0
def rowT (a b : TXT) (i : Nat) : List Int := mkT (b.length + 1) fun j => (T a b i j : Int)
def tabT (a b : TXT) : List (List Int) := mkT (a.length + 1) (rowT a b)
/-- Row i told from m on, the rows behind it all, the ones ahead as f says. -/
def tabP (f : Nat → List Int) (a b : TXT) (i m : Nat) : List (List Int) := mkT (a.length + 1) fun r => if r = i then rowP a b i m else if i < r then rowT a b r else f r

theorem rowP_0 (a b : TXT) (i : Nat) : rowP a b i 0 = rowT a b i := mkT_ext fun j _ => if_pos (Nat.zero_le j)
theorem rowP_end (a b : TXT) (i : Nat) : rowP a b i b.length = mkT (b.length + 1) fun _ => (0 : Int) := mkT_ext fun j hj => by
  split
  · rw [T_end_r (by omega)]; rfl
  · rfl
theorem rowP_set {a b : TXT} {i m : Nat} : (rowP a b i (m + 1)).set m (T a b i m : Int) = rowP a b i m := by
  unfold rowP
  rw [mkT_set]
  refine mkT_ext fun j hj => ?_
  by_cases h : j = m
  · subst h; rw [if_pos rfl, if_pos (Nat.le_refl _)]
  · rw [if_neg h]
    by_cases h2 : m ≤ j
    · rw [if_pos (by omega), if_pos h2]
    · rw [if_neg (by omega), if_neg h2]
theorem tabP_set {f : Nat → List Int} {a b : TXT} {i m : Nat} {v : List Int} (hv : v = rowP a b i m) {m' : Nat} : (tabP f a b i m').set i v = tabP f a b i m := by
  subst hv
  unfold tabP
  rw [mkT_set]
  refine mkT_ext fun r hr => ?_
  by_cases h : r = i
  · rw [if_pos h, if_pos h]
  · rw [if_neg h, if_neg h, if_neg h]
theorem tabP_len {f : Nat → List Int} {a b : TXT} {i m : Nat} : (tabP f a b i m).length = a.length + 1 := mkT_len
theorem tabP_at {f : Nat → List Int} {a b : TXT} {i m : Nat} (hi : i ≤ a.length) {d : List Int} : (tabP f a b i m).getD i d = rowP a b i m := by
  unfold tabP
  rw [mkT_get (by omega), if_pos rfl]
theorem tabP_next {f : Nat → List Int} {a b : TXT} {i m : Nat} (hi : i < a.length) {d : List Int} : (tabP f a b i m).getD (i + 1) d = rowT a b (i + 1) := by
  unfold tabP
  rw [mkT_get (by omega), if_neg (by omega), if_pos (by omega)]
theorem rowP_len {a b : TXT} {i m : Nat} : (rowP a b i m).length = b.length + 1 := mkT_len
theorem rowT_len {a b : TXT} {i : Nat} : (rowT a b i).length = b.length + 1 := mkT_len
theorem rowT_get {a b : TXT} {i j : Nat} (hj : j ≤ b.length) {d : Int} : (rowT a b i).getD j d = (T a b i j : Int) := mkT_get (by omega)
theorem rowP_get {a b : TXT} {i m j : Nat} (hj : j ≤ b.length) (hm : m ≤ j) {d : Int} : (rowP a b i m).getD j d = (T a b i j : Int) := by
  unfold rowP
  rw [mkT_get (by omega), if_pos hm]

theorem T_small {a b : TXT} (h : a.length ≤ 1048576) (i j : Nat) : T a b i j ≤ 1048576 := Nat.le_trans T_le (by omega)

theorem inner_I {a b : TXT} {f : Nat → List Int} (ha : a.length ≤ 1048576) (hb : b.length ≤ 1048576) {i : Nat} (hi : i < a.length) :
    w_I_common_8 (a, b, tabP f a b i b.length, (i : Int), IntKind.wrap .i64 ((b.length : Int) - 1), ()) = some (a, b, tabP f a b i 0, (i : Int), ()) := by
  have := fix_down (B := fun d => b_I_common_8 d.1 d.2.1 d.2.2.1 d.2.2.2.1 d.2.2.2.2.1) (fun m => (a, b, tabP f a b i m, (i : Int), (m : Int) - 1, ())) (r := (a, b, tabP f a b i 0, (i : Int), ()))
    (by
      show b_I_common_8 a b (tabP f a b i 0) i (((0 : Nat) : Int) - 1) = _
      unfold b_I_common_8
      rw [decide_eq_false (by omega : ¬ ((((0 : Nat) : Int) - 1) ≥ 0)), cond_false]) b.length
    (fun m hm => by
      show b_I_common_8 a b (tabP f a b i (m + 1)) i (((m + 1 : Nat) : Int) - 1) = _
      rw [show ((m + 1 : Nat) : Int) - 1 = (m : Int) from by omega]
      unfold b_I_common_8
      have w1 : IntKind.wrap .i64 ((i : Int) + 1) = ((i + 1 : Nat) : Int) := by rw [wrap64 (by omega) (by omega)]; omega
      have w2 : IntKind.wrap .i64 ((m : Int) + 1) = ((m + 1 : Nat) : Int) := by rw [wrap64 (by omega) (by omega)]; omega
      have t1 := T_small (b := b) ha (i + 1) (m + 1)
      have w3 : IntKind.wrap .i64 ((T a b (i + 1) (m + 1) : Int) + 1) = (T a b (i + 1) (m + 1) : Int) + 1 := wrap64 (by omega) (by omega)
      have w4 : IntKind.wrap .i64 ((m : Int) - 1) = (m : Int) - 1 := wrap64 (by omega) (by omega)
      rw [decide_eq_true (by omega : (m : Int) ≥ 0), cond_true, inB_lt hi, cond_true, inB_lt hm, cond_true]
      simp only [toNat_cast, w1, w2, w4, tabP_len, tabP_at (Nat.le_of_lt hi), tabP_next hi, rowT_len, rowP_len, inB_lt (by omega : i < a.length + 1), inB_lt (by omega : i + 1 < a.length + 1), inB_lt (by omega : m + 1 < b.length + 1), inB_lt (by omega : m < b.length + 1), cond_true,
        rowT_get (by omega : m + 1 ≤ b.length), rowT_get (by omega : m ≤ b.length), rowP_get (by omega : m + 1 ≤ b.length) (Nat.le_refl (m + 1)), w3, getD_of hi, getD_of hm]
      have hs := T_step hi hm
      by_cases hc : a[i] = b[m]
      · rw [if_pos hc] at hs
        rw [beq_iff_eq.2 hc, cond_true, Option.bind_some]
        dsimp only
        rw [w4, show ((T a b (i + 1) (m + 1) : Nat) : Int) + 1 = (T a b i m : Int) from by omega, rowP_set, tabP_set rfl]
      · rw [if_neg hc] at hs
        rw [beq_eq_false_iff_ne.2 hc, cond_false, Option.bind_some]
        dsimp only
        rw [w4]
        have e : (bif decide ((T a b i (m + 1) : Int) > (T a b (i + 1) m : Int)) then (T a b i (m + 1) : Int) else (T a b (i + 1) m : Int)) = (T a b i m : Int) := by
          by_cases h : (T a b i (m + 1) : Int) > (T a b (i + 1) m : Int)
          · rw [decide_eq_true h, cond_true]; omega
          · rw [decide_eq_false h, cond_false]; omega
        rw [e, rowP_set, tabP_set rfl])
  rw [show IntKind.wrap .i64 ((b.length : Int) - 1) = (b.length : Int) - 1 from wrap64 (by omega) (by omega)]
  exact this

def noRow (b : TXT) : Nat → List Int := fun _ => []
def tabE (f : Nat → List Int) (a b : TXT) (n : Nat) : List (List Int) := mkT (a.length + 1) fun r => if n ≤ r then rowT a b r else f r

theorem tabE_of {f : Nat → List Int} {a b : TXT} {i : Nat} : tabP f a b i 0 = tabE f a b i := mkT_ext fun r hr => by
  rw [rowP_0]
  by_cases h : r = i
  · subst h; rw [if_pos rfl, if_pos (Nat.le_refl _)]
  · rw [if_neg h]
    by_cases h2 : i < r
    · rw [if_pos h2, if_pos (by omega)]
    · rw [if_neg h2, if_neg (by omega)]
theorem tabE_set {f : Nat → List Int} {a b : TXT} {i : Nat} : (tabE f a b (i + 1)).set i (rowP a b i b.length) = tabP f a b i b.length := by
  unfold tabE tabP
  rw [mkT_set]
  exact mkT_ext fun r hr => by
    by_cases h : r = i
    · rw [if_pos h, if_pos h]
    · rw [if_neg h, if_neg h]
      rfl
theorem tabE_0 {f : Nat → List Int} {a b : TXT} : tabE f a b 0 = tabT a b := mkT_ext fun r hr => if_pos (Nat.zero_le r)

theorem room1 {n : Nat} (h : n ≤ 1048576) : (decide (0 ≤ (IntKind.wrap .i64 ((n : Int) + 1))) && (decide ((IntKind.wrap .i64 ((n : Int) + 1)) ≤ (IntKind.wrap .i64 ((n : Int) + 1))) && roomB (IntKind.wrap .i64 ((n : Int) + 1)).toNat)) = true ∧ (IntKind.wrap .i64 ((n : Int) + 1)).toNat = n + 1 := by
  have w : IntKind.wrap .i64 ((n : Int) + 1) = ((n + 1 : Nat) : Int) := by rw [wrap64 (by omega) (by omega)]; omega
  rw [w]
  exact ⟨room_len (by omega), by simp⟩

theorem common_I {a b : TXT} (ha : a.length ≤ 1048576) (hb : b.length ≤ 1048576) : f_I_common a b = some ((tabT a b, ()), ()) := by
  obtain ⟨ra, na⟩ := room1 ha
  obtain ⟨rb, nb⟩ := room1 hb
  unfold f_I_common
  rw [ra, cond_true, rb, cond_true, na, nb, inB_lt (by simp), cond_true, toNat_cast]
  have e0 : (List.replicate (a.length + 1) ([] : List Int)).set a.length (List.replicate (b.length + 1) (0 : Int)) = tabE (noRow b) a b a.length := by
    rw [mkT_rep, mkT_set, mkT_rep]
    refine mkT_ext fun r hr => ?_
    by_cases h : r = a.length
    · subst h
      rw [if_pos rfl, if_pos (Nat.le_refl _), ← rowP_end a b a.length, ← rowP_0]
      exact mkT_ext fun j hj => by
        rw [T_end_l (Nat.le_refl _)]
        split <;> split <;> rfl
    · rw [if_neg h, if_neg (by omega)]
      rfl
  rw [show (List.replicate (a.length + 1) ([] : PV S_int)).set a.length (List.replicate (b.length + 1) (0 : Int)) = tabE (noRow b) a b a.length from e0]
  have := fix_down (B := fun d => b_I_common_4 d.1 d.2.1 d.2.2.1 d.2.2.2.1) (fun n => (a, b, tabE (noRow b) a b n, (n : Int) - 1, ())) (r := (tabT a b, ()))
    (by
      show b_I_common_4 a b (tabE (noRow b) a b 0) (((0 : Nat) : Int) - 1) = _
      unfold b_I_common_4
      rw [decide_eq_false (by omega : ¬ ((((0 : Nat) : Int) - 1) ≥ 0)), cond_false, tabE_0]) a.length
    (fun i hi => by
      show b_I_common_4 a b (tabE (noRow b) a b (i + 1)) (((i + 1 : Nat) : Int) - 1) = _
      rw [show ((i + 1 : Nat) : Int) - 1 = (i : Int) from by omega]
      unfold b_I_common_4
      rw [decide_eq_true (by omega : (i : Int) ≥ 0), cond_true, rb, cond_true, nb, toNat_cast, inB_lt (by unfold tabE; rw [mkT_len]; omega), cond_true]
      rw [show (List.replicate (b.length + 1) (0 : Int)) = rowP a b i b.length from by rw [rowP_end, mkT_rep], tabE_set, inner_I ha hb hi, Option.bind_some]
      dsimp only
      rw [tabE_of, show IntKind.wrap .i64 ((i : Int) - 1) = (i : Int) - 1 from wrap64 (by omega) (by omega)])
  rw [show IntKind.wrap .i64 ((a.length : Int) - 1) = (a.length : Int) - 1 from wrap64 (by omega) (by omega), show w_I_common_4 (a, b, tabE (noRow b) a b a.length, (a.length : Int) - 1, ()) = _ from this]
  rfl
end R
end

section
/- The reference's table, and its pairs. -/
open Go Go.Dn
namespace R
set_option linter.unusedVariables false

theorem most_S (x y : Int) : f_S_l1Most x y = some ((max x y, ()), ()) := by
  unfold f_S_l1Most
  by_cases h : x > y
  · rw [decide_eq_true h, cond_true, show max x y = x from by omega]
  · rw [decide_eq_false h, cond_false, show max x y = y from by omega]

theorem getD_set_other {α : Type} {ys : List α} {i j : Nat} {a d : α} (h : i ≠ j) : (ys.set i a).getD j d = ys.getD j d := by
  simp [List.getD, List.getElem?_set, h]

theorem inner_S {a b : TXT} {f : Nat → List Int} (ha : a.length ≤ 1048576) (hb : b.length ≤ 1048576) {i : Nat} (hi : i < a.length) :
    w_S_l3Table_11 (a, b, tabP f a b i b.length, (i : Int), IntKind.wrap .i64 ((b.length : Int) - 1), ()) = some (a, b, tabP f a b i 0, (i : Int), ()) := by
  have := fix_down (B := fun d => b_S_l3Table_11 d.1 d.2.1 d.2.2.1 d.2.2.2.1 d.2.2.2.2.1) (fun m => (a, b, tabP f a b i m, (i : Int), (m : Int) - 1, ())) (r := (a, b, tabP f a b i 0, (i : Int), ()))
    (by
      show b_S_l3Table_11 a b (tabP f a b i 0) i (((0 : Nat) : Int) - 1) = _
      unfold b_S_l3Table_11
      rw [decide_eq_false (by omega : ¬ ((((0 : Nat) : Int) - 1) ≥ 0)), cond_false]) b.length
    (fun m hm => by
      show b_S_l3Table_11 a b (tabP f a b i (m + 1)) i (((m + 1 : Nat) : Int) - 1) = _
      rw [show ((m + 1 : Nat) : Int) - 1 = (m : Int) from by omega]
      unfold b_S_l3Table_11
      have w1 : IntKind.wrap .i64 ((i : Int) + 1) = ((i + 1 : Nat) : Int) := by rw [wrap64 (by omega) (by omega)]; omega
      have w2 : IntKind.wrap .i64 ((m : Int) + 1) = ((m + 1 : Nat) : Int) := by rw [wrap64 (by omega) (by omega)]; omega
      have t1 := T_small (b := b) ha (i + 1) (m + 1)
      have w3 : IntKind.wrap .i64 ((T a b (i + 1) (m + 1) : Int) + 1) = (T a b (i + 1) (m + 1) : Int) + 1 := wrap64 (by omega) (by omega)
      have w4 : IntKind.wrap .i64 ((m : Int) - 1) = (m : Int) - 1 := wrap64 (by omega) (by omega)
      have hn : i ≠ i + 1 := by omega
      have hs := T_max hi hm
      rw [decide_eq_true (by omega : (m : Int) ≥ 0), cond_true]
      simp only [toNat_cast, w1, w2, tabP_len, tabP_at (Nat.le_of_lt hi), tabP_next hi, rowT_len, rowP_len, inB_lt hi, inB_lt hm, inB_lt (by omega : i < a.length + 1), inB_lt (by omega : i + 1 < a.length + 1), inB_lt (by omega : m + 1 < b.length + 1), inB_lt (by omega : m < b.length + 1), cond_true,
        rowT_get (by omega : m + 1 ≤ b.length), rowT_get (by omega : m ≤ b.length), rowP_get (by omega : m + 1 ≤ b.length) (Nat.le_refl (m + 1)), most_S, Option.bind_some, getD_of hi, getD_of hm, List.length_set,
        getD_set_self (by rw [tabP_len]; omega : i < (tabP f a b i (m + 1)).length), getD_set_self (by rw [rowP_len]; omega : m < (rowP a b i (m + 1)).length), getD_set_other hn, w3, List.set_set]
      by_cases hc : a[i] = b[m]
      · rw [if_pos hc] at hs
        rw [beq_iff_eq.2 hc, cond_true, Option.bind_some]
        dsimp only
        rw [w4, show max (max (T a b (i + 1) m : Int) (T a b i (m + 1) : Int)) ((T a b (i + 1) (m + 1) : Int) + 1) = (T a b i m : Int) from by omega, rowP_set, tabP_set rfl]
      · rw [if_neg hc] at hs
        rw [beq_eq_false_iff_ne.2 hc, cond_false, Option.bind_some]
        dsimp only
        rw [w4, show max (T a b (i + 1) m : Int) (T a b i (m + 1) : Int) = (T a b i m : Int) from by omega, rowP_set, tabP_set rfl])
  rw [show IntKind.wrap .i64 ((b.length : Int) - 1) = (b.length : Int) - 1 from wrap64 (by omega) (by omega)]
  exact this

def zeroRow (b : TXT) : Nat → List Int := fun _ => mkT (b.length + 1) fun _ => (0 : Int)

theorem table_S {a b : TXT} (ha : a.length ≤ 1048576) (hb : b.length ≤ 1048576) : f_S_l3Table a b = some ((tabT a b, ()), ()) := by
  obtain ⟨ra, na⟩ := room1 ha
  obtain ⟨rb, nb⟩ := room1 hb
  unfold f_S_l3Table
  rw [ra, cond_true, na, List.length_replicate]
  -- the rows
  have h1 := fix_all (B := fun d => b_S_l3Table_3 d.1 d.2.1 d.2.2.1 d.2.2.2.1 d.2.2.2.2.1) (fun n => (a, b, mkT (a.length + 1) (fun r => if r < n then zeroRow b r else ([] : List Int)), ((a.length + 1 : Nat) : Int), (n : Int), ())) (a.length + 1) (r := (a, b, mkT (a.length + 1) (zeroRow b), ()))
    (fun i hi => by
      show b_S_l3Table_3 a b (mkT (a.length + 1) _) ((a.length + 1 : Nat) : Int) i = _
      unfold b_S_l3Table_3
      rw [decide_eq_true (by omega : (i : Int) < ((a.length + 1 : Nat) : Int)), cond_true, rb, cond_true, inB_lt (by rw [mkT_len]; omega), cond_true, nb, toNat_cast, mkT_set, wrap64 (by omega) (by omega)]
      have e : (mkT (a.length + 1) fun r => if r = i then List.replicate (b.length + 1) (0 : Int) else if r < i then zeroRow b r else []) = mkT (a.length + 1) fun r => if r < i + 1 then zeroRow b r else [] := mkT_ext fun r hr => by
        by_cases h : r = i
        · rw [if_pos h, if_pos (by omega), mkT_rep]; rfl
        · rw [if_neg h]
          by_cases h2 : r < i
          · rw [if_pos h2, if_pos (by omega)]
          · rw [if_neg h2, if_neg (by omega)]
      rw [e]
      rfl)
    (by
      show b_S_l3Table_3 a b (mkT (a.length + 1) _) ((a.length + 1 : Nat) : Int) ((a.length + 1 : Nat) : Int) = _
      unfold b_S_l3Table_3
      rw [decide_eq_false (Int.lt_irrefl _), cond_false]
      have e : (mkT (a.length + 1) fun r => if r < a.length + 1 then zeroRow b r else []) = mkT (a.length + 1) (zeroRow b) := mkT_ext fun r hr => if_pos hr
      rw [e])
  have e0 : List.replicate (a.length + 1) ([] : List Int) = mkT (a.length + 1) (fun r => if r < 0 then zeroRow b r else ([] : List Int)) := by
    rw [mkT_rep]
    exact mkT_ext fun r hr => by rw [if_neg (by omega)]
  rw [show w_S_l3Table_3 (a, b, List.replicate (a.length + 1) ([] : PV S_int), ((a.length + 1 : Nat) : Int), 0, ()) = _ from e0 ▸ h1, Option.bind_some]
  dsimp only
  have e1 : mkT (a.length + 1) (zeroRow b) = tabE (zeroRow b) a b a.length := mkT_ext fun r hr => by
    by_cases h : a.length ≤ r
    · rw [if_pos h]
      exact mkT_ext fun j hj => by rw [T_end_l h]; rfl
    · rw [if_neg h]
  rw [e1]
  have := fix_down (B := fun d => b_S_l3Table_8 d.1 d.2.1 d.2.2.1 d.2.2.2.1) (fun n => (a, b, tabE (zeroRow b) a b n, (n : Int) - 1, ())) (r := (tabT a b, ()))
    (by
      show b_S_l3Table_8 a b (tabE (zeroRow b) a b 0) (((0 : Nat) : Int) - 1) = _
      unfold b_S_l3Table_8
      rw [decide_eq_false (by omega : ¬ ((((0 : Nat) : Int) - 1) ≥ 0)), cond_false, tabE_0]) a.length
    (fun i hi => by
      show b_S_l3Table_8 a b (tabE (zeroRow b) a b (i + 1)) (((i + 1 : Nat) : Int) - 1) = _
      rw [show ((i + 1 : Nat) : Int) - 1 = (i : Int) from by omega]
      unfold b_S_l3Table_8
      have e2 : tabE (zeroRow b) a b (i + 1) = tabP (zeroRow b) a b i b.length := by
        rw [← tabE_set]
        unfold tabE
        rw [mkT_set]
        refine mkT_ext fun r hr => ?_
        by_cases h : r = i
        · rw [if_pos h, if_neg (by omega), rowP_end]; rfl
        · rw [if_neg h]
      rw [decide_eq_true (by omega : (i : Int) ≥ 0), cond_true, e2, inner_S ha hb hi, Option.bind_some]
      dsimp only
      rw [tabE_of, show IntKind.wrap .i64 ((i : Int) - 1) = (i : Int) - 1 from wrap64 (by omega) (by omega)])
  rw [show IntKind.wrap .i64 ((a.length : Int) - 1) = (a.length : Int) - 1 from wrap64 (by omega) (by omega), show w_S_l3Table_8 (a, b, tabE (zeroRow b) a b a.length, (a.length : Int) - 1, ()) = _ from this]
  rfl
end R
end

section
/- The pairs that the reference tells. -/
open Go Go.Dn
namespace R
set_option linter.unusedVariables false

/-- A pair that may be the next one. -/
def cand (a b : TXT) (i j p q : Nat) : Bool := (a.getD p [] == b.getD q []) && decide (T a b (p + 1) (q + 1) + 1 = T a b i j)
def scanQ (c : Nat → Bool) (p j : Nat) : Nat → Nat × Nat → Nat × Nat
  | 0, acc => acc
  | k + 1, acc => scanQ c p j k (if c (j + k) then (p, j + k) else acc)
def scanR (c : Nat → Nat → Bool) (i j n : Nat) : Nat → Nat × Nat → Nat × Nat
  | 0, acc => acc
  | k + 1, acc => scanR c i j n k (scanQ (c (i + k)) (i + k) j n acc)
def nextPr (a b : TXT) (i j : Nat) : Nat × Nat := scanR (cand a b i j) i j (b.length - j) (a.length - i) (a.length, b.length)
def pairsF (a b : TXT) : Nat → Nat → Nat → List (Nat × Nat)
  | 0, _, _ => []
  | n + 1, i, j => nextPr a b i j :: pairsF a b n ((nextPr a b i j).1 + 1) ((nextPr a b i j).2 + 1)

theorem scanQ_spec (c : Nat → Bool) (p j : Nat) : ∀ (k : Nat) (acc : Nat × Nat),
    (scanQ c p j k acc = acc ∧ ∀ q, j ≤ q → q < j + k → c q = false) ∨ (∃ q, scanQ c p j k acc = (p, q) ∧ j ≤ q ∧ q < j + k ∧ c q = true ∧ ∀ q', j ≤ q' → q' < q → c q' = false)
  | 0, acc => .inl ⟨rfl, fun q h1 h2 => by omega⟩
  | k + 1, acc => by
    simp only [scanQ]
    cases hc : c (j + k) with
    | true =>
      simp only [if_true]
      rcases scanQ_spec c p j k (p, j + k) with ⟨h1, h2⟩ | ⟨q, h1, h2, h3, h4, h5⟩
      · exact .inr ⟨j + k, h1, by omega, by omega, hc, fun q' a1 a2 => h2 q' a1 a2⟩
      · exact .inr ⟨q, h1, h2, by omega, h4, h5⟩
    | false =>
      simp only [Bool.false_eq_true, if_false]
      rcases scanQ_spec c p j k acc with ⟨h1, h2⟩ | ⟨q, h1, h2, h3, h4, h5⟩
      · refine .inl ⟨h1, fun q a1 a2 => ?_⟩
        by_cases h : q = j + k
        · subst h; exact hc
        · exact h2 q a1 (by omega)
      · exact .inr ⟨q, h1, h2, by omega, h4, h5⟩

theorem scanR_spec (c : Nat → Nat → Bool) (i j n : Nat) : ∀ (k : Nat) (acc : Nat × Nat),
    (scanR c i j n k acc = acc ∧ ∀ p q, i ≤ p → p < i + k → j ≤ q → q < j + n → c p q = false) ∨
      (∃ p q, scanR c i j n k acc = (p, q) ∧ i ≤ p ∧ p < i + k ∧ j ≤ q ∧ q < j + n ∧ c p q = true ∧ (∀ q', j ≤ q' → q' < q → c p q' = false) ∧ ∀ p' q', i ≤ p' → p' < p → j ≤ q' → q' < j + n → c p' q' = false)
  | 0, acc => .inl ⟨rfl, fun p q h1 h2 => by omega⟩
  | k + 1, acc => by
    simp only [scanR]
    rcases scanR_spec c i j n k (scanQ (c (i + k)) (i + k) j n acc) with ⟨h1, h2⟩ | ⟨p, q, h1, h2, h3, h4, h5, h6, h7, h8⟩
    · rcases scanQ_spec (c (i + k)) (i + k) j n acc with ⟨g1, g2⟩ | ⟨q, g1, g2, g3, g4, g5⟩
      · refine .inl ⟨h1.trans g1, fun p q a1 a2 a3 a4 => ?_⟩
        by_cases h : p = i + k
        · subst h; exact g2 q a3 a4
        · exact h2 p q a1 (by omega) a3 a4
      · exact .inr ⟨i + k, q, h1.trans g1, by omega, by omega, g2, g3, g4, g5, fun p' q' a1 a2 a3 a4 => h2 p' q' a1 a2 a3 a4⟩
    · exact .inr ⟨p, q, h1, h2, by omega, h4, h5, h6, h7, h8⟩

theorem cand_of {a b : TXT} {i j p q : Nat} (hp : p < a.length) (hq : q < b.length) : cand a b i j p q = true ↔ a[p] = b[q] ∧ T a b (p + 1) (q + 1) + 1 = T a b i j := by
  unfold cand
  rw [getD_of hp, getD_of hq, Bool.and_eq_true, beq_iff_eq, decide_eq_true_eq]

/-- The next pair is there, and is the least. -/
theorem next_spec {a b : TXT} {i j : Nat} (hi : i ≤ a.length) (hj : j ≤ b.length) (h : 0 < T a b i j) :
    i ≤ (nextPr a b i j).1 ∧ (nextPr a b i j).1 < a.length ∧ j ≤ (nextPr a b i j).2 ∧ (nextPr a b i j).2 < b.length ∧ cand a b i j (nextPr a b i j).1 (nextPr a b i j).2 = true ∧
      (∀ q', j ≤ q' → q' < (nextPr a b i j).2 → cand a b i j (nextPr a b i j).1 q' = false) ∧ ∀ p' q', i ≤ p' → p' < (nextPr a b i j).1 → j ≤ q' → q' < b.length → cand a b i j p' q' = false := by
  obtain ⟨p0, q0, a1, a2, hp, hq, a3, a4⟩ := T_pair _ i j (Nat.le_refl _) h
  rcases scanR_spec (cand a b i j) i j (b.length - j) (a.length - i) (a.length, b.length) with ⟨h1, h2⟩ | ⟨p, q, h1, h2, h3, h4, h5, h6, h7, h8⟩
  · have := h2 p0 q0 a1 (by omega) a2 (by omega)
    rw [(cand_of hp hq).2 ⟨a3, a4⟩] at this
    cases this
  · unfold nextPr
    rw [h1]
    exact ⟨h2, by dsimp only; omega, h4, by dsimp only; omega, h6, h7, fun p' q' b1 b2 b3 b4 => h8 p' q' b1 b2 b3 (by omega)⟩

theorem next_T {a b : TXT} {i j n : Nat} (hi : i ≤ a.length) (hj : j ≤ b.length) (h : T a b i j = n + 1) : T a b ((nextPr a b i j).1 + 1) ((nextPr a b i j).2 + 1) = n := by
  obtain ⟨_, h2, _, h4, h5, _⟩ := next_spec hi hj (by omega)
  have := ((cand_of h2 h4).1 h5).2
  omega

theorem pairs_len (a b : TXT) : ∀ n i j, (pairsF a b n i j).length = n
  | 0, _, _ => rfl
  | n + 1, i, j => by simp [pairsF, pairs_len a b n]

theorem tabT_at {a b : TXT} {i : Nat} (hi : i ≤ a.length) {d : List Int} : (tabT a b).getD i d = rowT a b i := mkT_get (by omega)
theorem tabT_len {a b : TXT} : (tabT a b).length = a.length + 1 := mkT_len

abbrev PRS := List (Int × Int × Unit)
theorem scanQ_loop {a b : TXT} {out : PRS} (ha : a.length ≤ 1048576) (hb : b.length ≤ 1048576) {i j p : Nat} (hi : i ≤ a.length) (hj : j ≤ b.length) (hp : p < a.length) : ∀ (k : Nat) (acc : Nat × Nat), j + k ≤ b.length →
    w_S_l3Pairs_10 (a, b, tabT a b, out, (i : Int), (j : Int), (acc.1 : Int), (acc.2 : Int), (p : Int), ((j + k : Nat) : Int) - 1, ()) =
      some (a, b, tabT a b, out, (i : Int), (j : Int), ((scanQ (cand a b i j p) p j k acc).1 : Int), ((scanQ (cand a b i j p) p j k acc).2 : Int), (p : Int), ())
  | 0, acc, hk => by
    refine fix_end (B := fun d => b_S_l3Pairs_10 d.1 d.2.1 d.2.2.1 d.2.2.2.1 d.2.2.2.2.1 d.2.2.2.2.2.1 d.2.2.2.2.2.2.1 d.2.2.2.2.2.2.2.1 d.2.2.2.2.2.2.2.2.1 d.2.2.2.2.2.2.2.2.2.1) ?_
    show b_S_l3Pairs_10 a b (tabT a b) out i j acc.1 acc.2 p (((j + 0 : Nat) : Int) - 1) = _
    unfold b_S_l3Pairs_10
    rw [decide_eq_false (by omega : ¬ (((j + 0 : Nat) : Int) - 1 ≥ (j : Int))), cond_false]
    rfl
  | k + 1, acc, hk => by
    have hq : j + k < b.length := by omega
    have hs : b_S_l3Pairs_10 a b (tabT a b) out i j acc.1 acc.2 p (((j + (k + 1) : Nat) : Int) - 1) = some (.inl (a, b, tabT a b, out, (i : Int), (j : Int), (((if cand a b i j p (j + k) then (p, j + k) else acc).1 : Nat) : Int), (((if cand a b i j p (j + k) then (p, j + k) else acc).2 : Nat) : Int), (p : Int), ((j + k : Nat) : Int) - 1, ())) := by
      rw [show ((j + (k + 1) : Nat) : Int) - 1 = ((j + k : Nat) : Int) from by omega]
      unfold b_S_l3Pairs_10
      have w1 : IntKind.wrap .i64 ((p : Int) + 1) = ((p + 1 : Nat) : Int) := by rw [wrap64 (by omega) (by omega)]; omega
      have w2 : IntKind.wrap .i64 (((j + k : Nat) : Int) + 1) = ((j + k + 1 : Nat) : Int) := by rw [wrap64 (by omega) (by omega)]; omega
      have t1 := T_small (b := b) ha (p + 1) (j + k + 1)
      have w3 : IntKind.wrap .i64 ((T a b (p + 1) (j + k + 1) : Int) + 1) = (T a b (p + 1) (j + k + 1) : Int) + 1 := wrap64 (by omega) (by omega)
      have w4 : IntKind.wrap .i64 (((j + k : Nat) : Int) - 1) = ((j + k : Nat) : Int) - 1 := wrap64 (by omega) (by omega)
      have hc : cand a b i j p (j + k) = ((a.getD p [] == b.getD (j + k) []) && ((T a b (p + 1) (j + k + 1) : Int) + 1 == (T a b i j : Int))) := by
        unfold cand
        congr 1
        rw [Bool.eq_iff_iff, decide_eq_true_eq, beq_iff_eq]
        omega
      rw [decide_eq_true (by omega : ((j + k : Nat) : Int) ≥ (j : Int)), cond_true, hc]
      simp only [toNat_cast, w1, w2, inB_lt hp, inB_lt hq, tabT_len, inB_lt (by omega : p + 1 < a.length + 1), inB_lt (by omega : i < a.length + 1), tabT_at (by omega : p + 1 ≤ a.length), tabT_at hi, rowT_len, inB_lt (by omega : j + k + 1 < b.length + 1), inB_lt (by omega : j < b.length + 1), cond_true,
        rowT_get (by omega : j + k + 1 ≤ b.length), rowT_get hj, w3]
      cases (a.getD p [] == b.getD (j + k) [])
      · simp only [cond_false, Option.bind_some, Bool.false_and, Bool.false_eq_true, if_false, w4]
      · simp only [cond_true, Option.bind_some, Bool.true_and]
        cases ((T a b (p + 1) (j + k + 1) : Int) + 1 == (T a b i j : Int))
        · simp only [cond_false, Option.bind_some, Bool.false_eq_true, if_false, w4]
        · simp only [cond_true, Option.bind_some, if_true, w4]
    refine Eq.trans (fix_go (B := fun d => b_S_l3Pairs_10 d.1 d.2.1 d.2.2.1 d.2.2.2.1 d.2.2.2.2.1 d.2.2.2.2.2.1 d.2.2.2.2.2.2.1 d.2.2.2.2.2.2.2.1 d.2.2.2.2.2.2.2.2.1 d.2.2.2.2.2.2.2.2.2.1) hs) ?_
    exact scanQ_loop ha hb hi hj hp k _ (by omega)

theorem scanR_loop {a b : TXT} {out : PRS} (ha : a.length ≤ 1048576) (hb : b.length ≤ 1048576) {i j : Nat} (hi : i ≤ a.length) (hj : j ≤ b.length) : ∀ (k : Nat) (acc : Nat × Nat), i + k ≤ a.length →
    w_S_l3Pairs_7 (a, b, tabT a b, out, (i : Int), (j : Int), (acc.1 : Int), (acc.2 : Int), ((i + k : Nat) : Int) - 1, ()) =
      some (a, b, tabT a b, out, ((scanR (cand a b i j) i j (b.length - j) k acc).1 : Int), ((scanR (cand a b i j) i j (b.length - j) k acc).2 : Int), ())
  | 0, acc, hk => by
    refine fix_end (B := fun d => b_S_l3Pairs_7 d.1 d.2.1 d.2.2.1 d.2.2.2.1 d.2.2.2.2.1 d.2.2.2.2.2.1 d.2.2.2.2.2.2.1 d.2.2.2.2.2.2.2.1 d.2.2.2.2.2.2.2.2.1) ?_
    show b_S_l3Pairs_7 a b (tabT a b) out i j acc.1 acc.2 (((i + 0 : Nat) : Int) - 1) = _
    unfold b_S_l3Pairs_7
    rw [decide_eq_false (by omega : ¬ (((i + 0 : Nat) : Int) - 1 ≥ (i : Int))), cond_false]
    rfl
  | k + 1, acc, hk => by
    have hs : b_S_l3Pairs_7 a b (tabT a b) out i j acc.1 acc.2 (((i + (k + 1) : Nat) : Int) - 1) = some (.inl (a, b, tabT a b, out, (i : Int), (j : Int), ((scanQ (cand a b i j (i + k)) (i + k) j (b.length - j) acc).1 : Int), ((scanQ (cand a b i j (i + k)) (i + k) j (b.length - j) acc).2 : Int), ((i + k : Nat) : Int) - 1, ())) := by
      rw [show ((i + (k + 1) : Nat) : Int) - 1 = ((i + k : Nat) : Int) from by omega]
      unfold b_S_l3Pairs_7
      rw [decide_eq_true (by omega : ((i + k : Nat) : Int) ≥ (i : Int)), cond_true]
      have := scanQ_loop (out := out) ha hb hi hj (by omega : i + k < a.length) (b.length - j) acc (by omega)
      rw [show ((j + (b.length - j) : Nat) : Int) - 1 = IntKind.wrap .i64 ((b.length : Int) - 1) from by rw [wrap64 (by omega) (by omega)]; omega] at this
      rw [this, Option.bind_some]
      dsimp only
      rw [wrap64 (by omega) (by omega)]
    refine Eq.trans (fix_go (B := fun d => b_S_l3Pairs_7 d.1 d.2.1 d.2.2.1 d.2.2.2.1 d.2.2.2.2.1 d.2.2.2.2.2.1 d.2.2.2.2.2.2.1 d.2.2.2.2.2.2.2.1 d.2.2.2.2.2.2.2.2.1) hs) ?_
    exact scanR_loop ha hb hi hj k _ (by omega)

def encP (x : Nat × Nat) : Int × Int × Unit := ((x.1 : Int), (x.2 : Int), ())

theorem pairs_loop {a b : TXT} (ha : a.length ≤ 1048576) (hb : b.length ≤ 1048576) : ∀ (n i j : Nat) (out : PRS), i ≤ a.length → j ≤ b.length → T a b i j = n → out.length + n ≤ 1099511627776 →
    w_S_l3Pairs_4 (a, b, tabT a b, out, (i : Int), (j : Int), ()) = some (out ++ (pairsF a b n i j).map encP, ())
  | 0, i, j, out, hi, hj, hT, ho => by
    refine fix_end (B := fun d => b_S_l3Pairs_4 d.1 d.2.1 d.2.2.1 d.2.2.2.1 d.2.2.2.2.1 d.2.2.2.2.2.1) ?_
    show b_S_l3Pairs_4 a b (tabT a b) out i j = _
    unfold b_S_l3Pairs_4
    rw [inB_lt (by rw [tabT_len]; omega), cond_true, toNat_cast, toNat_cast, tabT_at hi, inB_lt (by rw [rowT_len]; omega), cond_true, rowT_get hj, hT, decide_eq_false (by omega : ¬ (((0 : Nat) : Int) > 0)), cond_false]
    simp [pairsF]
  | n + 1, i, j, out, hi, hj, hT, ho => by
    obtain ⟨s1, s2, s3, s4, s5, s6, s7⟩ := next_spec hi hj (by omega : 0 < T a b i j)
    have hs : b_S_l3Pairs_4 a b (tabT a b) out i j = some (.inl (a, b, tabT a b, out ++ [encP (nextPr a b i j)], (((nextPr a b i j).1 + 1 : Nat) : Int), (((nextPr a b i j).2 + 1 : Nat) : Int), ())) := by
      unfold b_S_l3Pairs_4
      rw [inB_lt (by rw [tabT_len]; omega), cond_true, toNat_cast, toNat_cast, tabT_at hi, inB_lt (by rw [rowT_len]; omega), cond_true, rowT_get hj, hT, decide_eq_true (by omega : (((n + 1 : Nat) : Int) > 0)), cond_true]
      have := scanR_loop (out := out) ha hb hi hj (a.length - i) (a.length, b.length) (by omega)
      rw [show ((i + (a.length - i) : Nat) : Int) - 1 = IntKind.wrap .i64 ((a.length : Int) - 1) from by rw [wrap64 (by omega) (by omega)]; omega] at this
      rw [this, Option.bind_some]
      dsimp only
      rw [roomB_ok (by simp; omega), cond_true]
      have e : scanR (cand a b i j) i j (b.length - j) (a.length - i) (a.length, b.length) = nextPr a b i j := rfl
      rw [e, wrap64 (by omega) (by omega), wrap64 (by omega) (by omega)]
      simp [encP]
    refine Eq.trans (fix_go (B := fun d => b_S_l3Pairs_4 d.1 d.2.1 d.2.2.1 d.2.2.2.1 d.2.2.2.2.1 d.2.2.2.2.2.1) hs) ?_
    refine Eq.trans (pairs_loop ha hb n ((nextPr a b i j).1 + 1) ((nextPr a b i j).2 + 1) (out ++ [encP (nextPr a b i j)]) (by omega) (by omega) (next_T hi hj hT) (by simp; omega)) ?_
    simp [pairsF]

/-- The pairs of two texts. -/
def pairsP (a b : TXT) : List (Nat × Nat) := pairsF a b (T a b 0 0) 0 0

theorem pairs_S {a b : TXT} (ha : a.length ≤ 1048576) (hb : b.length ≤ 1048576) : f_S_l3Pairs a b = some (((pairsP a b).map encP, ()), ()) := by
  have h := T_small (b := b) ha 0 0
  have := pairs_loop ha hb (T a b 0 0) 0 0 [] (by omega) (by omega) rfl (by simp; omega)
  unfold f_S_l3Pairs
  rw [table_S ha hb, Option.bind_some]
  dsimp only
  rw [show w_S_l3Pairs_4 (a, b, tabT a b, [], 0, 0, ()) = _ from this]
  rfl
end R
end

section
/- The program's pairs and the places in the next version: as the reference's. -/
open Go Go.Dn
namespace R
set_option linter.unusedVariables false

abbrev LL := List (List Int)
def encL (x : Nat × Nat) : List Int := [(x.1 : Int), (x.2 : Int)]

set_option linter.unusedSectionVars false
section
variable {a b : TXT} (ha : a.length ≤ 1048576) (hb : b.length ≤ 1048576)
include ha hb

theorem cl_step {i q n : Nat} (hi : i < a.length) (hq : q < b.length) (j0 : Nat) (hn : n ≤ 1048576) (out : LL) (ho : out.length + 1 ≤ 1099511627776) :
    b_I_commonLines_7 a b (tabT a b) out (j0 : Int) ((n + 1 : Nat) : Int) (i : Int) (q : Int) (a.length : Int) (i : Int) =
      if a[i] = b[q] ∧ T a b (i + 1) (q + 1) = n then some (.inr (a, b, tabT a b, out ++ [encL (i, q)], ((q + 1 : Nat) : Int), (n : Int), (a.length : Int), (i : Int), ()))
      else some (.inl (a, b, tabT a b, out, (j0 : Int), ((n + 1 : Nat) : Int), (i : Int), ((q + 1 : Nat) : Int), (a.length : Int), (i : Int), ())) := by
  unfold b_I_commonLines_7
  have w1 : IntKind.wrap .i64 ((i : Int) + 1) = ((i + 1 : Nat) : Int) := by rw [wrap64 (by omega) (by omega)]; omega
  have w2 : IntKind.wrap .i64 ((q : Int) + 1) = ((q + 1 : Nat) : Int) := by rw [wrap64 (by omega) (by omega)]; omega
  have w3 : IntKind.wrap .i64 (((n + 1 : Nat) : Int) - 1) = (n : Int) := by rw [wrap64 (by omega) (by omega)]; omega
  have r1 : roomB (out.length + 1) = true := roomB_ok ho
  rw [decide_eq_true (by omega : (q : Int) < (b.length : Int)), cond_true, decide_eq_true (by omega : ((n + 1 : Nat) : Int) > 0), cond_true, inB_lt hi, cond_true, inB_lt hq, cond_true, w1, w2, w3,
    inB_lt (by rw [tabT_len]; omega : i + 1 < (tabT a b).length), cond_true, toNat_cast, toNat_cast, toNat_cast, toNat_cast, tabT_at (by omega : i + 1 ≤ a.length), inB_lt (by rw [rowT_len]; omega), cond_true, rowT_get (by omega), getD_of hi, getD_of hq]
  by_cases hc : a[i] = b[q]
  · rw [beq_iff_eq.2 hc, cond_true, Option.bind_some]
    dsimp only
    by_cases ht : T a b (i + 1) (q + 1) = n
    · rw [if_pos ⟨hc, ht⟩, ht, beq_self_eq_true, cond_true, List.length_singleton, r1, cond_true, w2, w3]; rfl
    · rw [if_neg (fun h => ht h.2), beq_eq_false_iff_ne.2 (fun h => ht (by have h' : ((T a b (i + 1) (q + 1) : Nat) : Int) = (n : Int) := h; omega)), cond_false, w2]
  · rw [beq_eq_false_iff_ne.2 hc, cond_false, Option.bind_some]
    dsimp only
    rw [cond_false, w2, if_neg (fun h => hc h.1)]

theorem cl_end {i n : Nat} (j0 : Nat) (out : LL) (x : Int) (hx : x = b.length ∨ n = 0) :
    b_I_commonLines_7 a b (tabT a b) out (j0 : Int) (n : Int) (i : Int) x (a.length : Int) (i : Int) = some (.inr (a, b, tabT a b, out, (j0 : Int), (n : Int), (a.length : Int), (i : Int), ())) := by
  unfold b_I_commonLines_7
  by_cases h : x < (b.length : Int)
  · rw [decide_eq_true h, cond_true, decide_eq_false (by omega : ¬ ((n : Int) > 0)), cond_false]
  · rw [decide_eq_false h, cond_false]

noncomputable abbrev B7 : List (List UInt8) × List (List UInt8) × LL × LL × Int × Int × Int × Int × Int × Int × Unit → Option ((List (List UInt8) × List (List UInt8) × LL × LL × Int × Int × Int × Int × Int × Int × Unit) ⊕ (List (List UInt8) × List (List UInt8) × LL × LL × Int × Int × Int × Int × Unit)) :=
  fun d => b_I_commonLines_7 d.1 d.2.1 d.2.2.1 d.2.2.2.1 d.2.2.2.2.1 d.2.2.2.2.2.1 d.2.2.2.2.2.2.1 d.2.2.2.2.2.2.2.1 d.2.2.2.2.2.2.2.2.1 d.2.2.2.2.2.2.2.2.2.1

/-- A round without a pair. -/
theorem cl_none {i n : Nat} (hi : i < a.length) {j0 : Nat} (hj : j0 ≤ b.length) (hn : n ≤ 1048576) (out : LL) (ho : out.length + n ≤ 1099511627776)
    (h : n = 0 ∨ ∀ q (hq : q < b.length), j0 ≤ q → ¬ (a[i] = b[q] ∧ T a b (i + 1) (q + 1) + 1 = n)) :
    w_I_commonLines_7 (a, b, tabT a b, out, (j0 : Int), (n : Int), (i : Int), (j0 : Int), (a.length : Int), (i : Int), ()) = some (a, b, tabT a b, out, (j0 : Int), (n : Int), (a.length : Int), (i : Int), ()) := by
  cases n with
  | zero => exact fix_end (B := B7) (cl_end ha hb j0 out _ (.inr rfl))
  | succ n =>
    have h := h.resolve_left (by omega)
    have := fix_iter (B := B7) (fun q => (a, b, tabT a b, out, (j0 : Int), ((n + 1 : Nat) : Int), (i : Int), (q : Int), (a.length : Int), (i : Int), ())) (b.length - j0) j0 (fun q h1 h2 => by
      show b_I_commonLines_7 a b (tabT a b) out (j0 : Int) ((n + 1 : Nat) : Int) (i : Int) (q : Int) (a.length : Int) (i : Int) = _
      rw [cl_step ha hb hi (by omega) j0 (by omega) out (by omega), if_neg (fun hc => h q (by omega) h1 ⟨hc.1, by omega⟩)])
    refine Eq.trans this ?_
    exact fix_end (B := B7) (cl_end ha hb j0 out _ (.inl (by simp only []; omega)))

/-- A round that finds one. -/
theorem cl_one {i n : Nat} (hi : i < a.length) {j0 q1 : Nat} (hj : j0 ≤ q1) (hq1 : q1 < b.length) (hn : n ≤ 1048576) (out : LL) (ho : out.length + 1 ≤ 1099511627776)
    (h : ∀ q (hq : q < b.length), j0 ≤ q → q < q1 → ¬ (a[i] = b[q] ∧ T a b (i + 1) (q + 1) = n)) (hc : a[i] = b[q1] ∧ T a b (i + 1) (q1 + 1) = n) :
    w_I_commonLines_7 (a, b, tabT a b, out, (j0 : Int), ((n + 1 : Nat) : Int), (i : Int), (j0 : Int), (a.length : Int), (i : Int), ()) = some (a, b, tabT a b, out ++ [encL (i, q1)], ((q1 + 1 : Nat) : Int), (n : Int), (a.length : Int), (i : Int), ()) := by
  have := fix_iter (B := B7) (fun q => (a, b, tabT a b, out, (j0 : Int), ((n + 1 : Nat) : Int), (i : Int), (q : Int), (a.length : Int), (i : Int), ())) (q1 - j0) j0 (fun q h1 h2 => by
    show b_I_commonLines_7 a b (tabT a b) out (j0 : Int) ((n + 1 : Nat) : Int) (i : Int) (q : Int) (a.length : Int) (i : Int) = _
    rw [cl_step ha hb hi (by omega) j0 hn out ho, if_neg (h q (by omega) h1 (by omega))])
  refine Eq.trans this ?_
  refine fix_end (B := B7) ?_
  show b_I_commonLines_7 a b (tabT a b) out (j0 : Int) ((n + 1 : Nat) : Int) (i : Int) ((j0 + (q1 - j0) : Nat) : Int) (a.length : Int) (i : Int) = _
  rw [show j0 + (q1 - j0) = q1 from by omega, cl_step ha hb hi hq1 j0 hn out ho, if_pos hc]

theorem cl_loop : ∀ (k i i0 j0 n : Nat) (out : LL), i + k = a.length → i0 ≤ i → j0 ≤ b.length → T a b i0 j0 = n → (n = 0 ∨ i ≤ (nextPr a b i0 j0).1) → out.length + n ≤ 1099511627776 →
    w_I_commonLines_4 (a, b, tabT a b, out, (j0 : Int), (n : Int), (a.length : Int), (i : Int), ()) = some (out ++ (pairsF a b n i0 j0).map encL, ())
  | 0, i, i0, j0, n, out, hk, h0, hj, hT, hnx, ho => by
    have hn0 : n = 0 := by
      rcases hnx with h | h
      · exact h
      · rcases Nat.eq_zero_or_pos n with h' | h'
        · exact h'
        · have := next_spec (by omega : i0 ≤ a.length) hj (by omega); omega
    subst hn0
    refine fix_end (B := fun d => b_I_commonLines_4 d.1 d.2.1 d.2.2.1 d.2.2.2.1 d.2.2.2.2.1 d.2.2.2.2.2.1 d.2.2.2.2.2.2.1 d.2.2.2.2.2.2.2.1) ?_
    show b_I_commonLines_4 a b (tabT a b) out (j0 : Int) ((0 : Nat) : Int) (a.length : Int) (i : Int) = _
    unfold b_I_commonLines_4
    rw [decide_eq_false (by omega : ¬ ((i : Int) < (a.length : Int))), cond_false]
    simp [pairsF]
  | k + 1, i, i0, j0, n, out, hk, h0, hj, hT, hnx, ho => by
    have hi : i < a.length := by omega
    have w1 : IntKind.wrap .i64 ((i : Int) + 1) = ((i + 1 : Nat) : Int) := by rw [wrap64 (by omega) (by omega)]; omega
    have hTs := T_small (b := b) ha i0 j0
    have go : ∀ {out' : LL} {j' n' : Nat}, w_I_commonLines_7 (a, b, tabT a b, out, (j0 : Int), (n : Int), (i : Int), (j0 : Int), (a.length : Int), (i : Int), ()) = some (a, b, tabT a b, out', (j' : Int), (n' : Int), (a.length : Int), (i : Int), ()) →
        w_I_commonLines_4 (a, b, tabT a b, out, (j0 : Int), (n : Int), (a.length : Int), (i : Int), ()) = w_I_commonLines_4 (a, b, tabT a b, out', (j' : Int), (n' : Int), (a.length : Int), ((i + 1 : Nat) : Int), ()) := by
      intro out' j' n' h
      refine fix_go (B := fun d => b_I_commonLines_4 d.1 d.2.1 d.2.2.1 d.2.2.2.1 d.2.2.2.2.1 d.2.2.2.2.2.1 d.2.2.2.2.2.2.1 d.2.2.2.2.2.2.2.1) ?_
      show b_I_commonLines_4 a b (tabT a b) out (j0 : Int) (n : Int) (a.length : Int) (i : Int) = _
      unfold b_I_commonLines_4
      rw [decide_eq_true (by omega : ((i : Int) < (a.length : Int))), cond_true, h, Option.bind_some]
      dsimp only
      rw [w1]
    cases n with
    | zero =>
      rw [go (cl_none ha hb hi hj (by omega) out ho (.inl rfl))]
      exact cl_loop k (i + 1) i0 j0 0 out (by omega) (by omega) hj hT (.inl rfl) ho
    | succ n =>
      obtain ⟨s1, s2, s3, s4, s5, s6, s7⟩ := next_spec (by omega : i0 ≤ a.length) hj (by omega : 0 < T a b i0 j0)
      have hle := hnx.resolve_left (by omega)
      have hcand : ∀ {p q : Nat} (hp : p < a.length) (hq : q < b.length), (a[p] = b[q] ∧ T a b (p + 1) (q + 1) = n) ↔ cand a b i0 j0 p q = true := fun hp hq => by
        rw [cand_of hp hq, hT]; exact ⟨fun h => ⟨h.1, by omega⟩, fun h => ⟨h.1, by omega⟩⟩
      rcases Nat.lt_or_ge i (nextPr a b i0 j0).1 with hlt | hge
      · rw [go (cl_none ha hb hi hj (by omega) out ho (.inr fun q hq hjq hc => by
          have := (hcand hi hq).1 ⟨hc.1, by omega⟩
          rw [s7 i q h0 hlt hjq hq] at this
          cases this))]
        exact cl_loop k (i + 1) i0 j0 (n + 1) out (by omega) (by omega) hj hT (.inr hlt) ho
      · have hip : i = (nextPr a b i0 j0).1 := by omega
        have hfound := (hcand s2 s4).2 s5
        have hfound' : a[i] = b[(nextPr a b i0 j0).2] ∧ T a b (i + 1) ((nextPr a b i0 j0).2 + 1) = n := by
          have e : ∀ {p : Nat} (hp : p < a.length) , i = p → (a[p] = b[(nextPr a b i0 j0).2] ∧ T a b (p + 1) ((nextPr a b i0 j0).2 + 1) = n) → (a[i] = b[(nextPr a b i0 j0).2] ∧ T a b (i + 1) ((nextPr a b i0 j0).2 + 1) = n) := by
            intro p hp h h'; subst h; exact h'
          exact e s2 hip hfound
        rw [go (cl_one ha hb hi s3 s4 (by omega) out (by omega) (fun q hq h1 h2 hc => by
          have h3 := (hcand hi hq).1 hc
          rw [hip, s6 q h1 h2] at h3
          cases h3) hfound')]
        have hT' := next_T (by omega : i0 ≤ a.length) hj hT
        rw [← hip] at hT'
        have := cl_loop k (i + 1) (i + 1) ((nextPr a b i0 j0).2 + 1) n (out ++ [encL (i, (nextPr a b i0 j0).2)]) (by omega) (Nat.le_refl _) (by omega) hT' (by
          rcases Nat.eq_zero_or_pos n with h' | h'
          · exact .inl h'
          · exact .inr (next_spec (by omega) (by omega) (by omega)).1) (by simp; omega)
        rw [this]
        have he : (nextPr a b i0 j0) = (i, (nextPr a b i0 j0).2) := by rw [hip]
        simp only [pairsF, List.map_cons, ← hip, List.append_assoc, List.singleton_append]
        rw [← he]

theorem clines_I : f_I_commonLines a b = some (((pairsP a b).map encL, ()), ()) := by
  unfold f_I_commonLines
  have h := T_small (b := b) ha 0 0
  rw [common_I ha hb, Option.bind_some]
  dsimp only
  rw [show inB 0 (tabT a b).length = true from inB_lt (i := 0) (by rw [tabT_len]; omega), cond_true, show ((0 : Int).toNat) = 0 from rfl, tabT_at (Nat.zero_le _), show inB 0 (rowT a b 0).length = true from inB_lt (i := 0) (by rw [rowT_len]; omega), cond_true, rowT_get (Nat.zero_le _)]
  have := cl_loop ha hb a.length 0 0 0 (T a b 0 0) [] (by omega) (Nat.le_refl _) (Nat.zero_le _) rfl (by
    rcases Nat.eq_zero_or_pos (T a b 0 0) with h' | h'
    · exact .inl h'
    · exact .inr (Nat.zero_le _)) (by simp; omega)
  rw [show w_I_commonLines_4 (a, b, tabT a b, [], 0, (T a b 0 0 : Int), (a.length : Int), 0, ()) = _ from this, Option.bind_some]
  rfl
end
end R
end

section
/- For each line its place in the next version: both sides. -/
open Go Go.Dn
namespace R
set_option linter.unusedVariables false
set_option linter.unusedSectionVars false

def setP (o : List Int) (p : Nat × Nat) : List Int := o.set p.1 (p.2 : Int)
def matesP (a b : TXT) : List Int := (pairsP a b).foldl setP (List.replicate a.length (-1))

theorem pairs_in {a b : TXT} : ∀ (n i j : Nat), i ≤ a.length → j ≤ b.length → T a b i j = n → ∀ p ∈ pairsF a b n i j, p.1 < a.length ∧ p.2 < b.length
  | 0, i, j, hi, hj, hT, p, hp => by simp [pairsF] at hp
  | n + 1, i, j, hi, hj, hT, p, hp => by
    obtain ⟨s1, s2, s3, s4, s5, s6, s7⟩ := next_spec hi hj (by omega : 0 < T a b i j)
    simp only [pairsF, List.mem_cons] at hp
    rcases hp with rfl | hp
    · exact ⟨s2, s4⟩
    · exact pairs_in n _ _ (by omega) (by omega) (next_T hi hj hT) p hp
theorem pairsP_in {a b : TXT} {p : Nat × Nat} (h : p ∈ pairsP a b) : p.1 < a.length ∧ p.2 < b.length := pairs_in _ 0 0 (Nat.zero_le _) (Nat.zero_le _) rfl p h
theorem pairsP_len (a b : TXT) : (pairsP a b).length = T a b 0 0 := pairs_len a b _ 0 0

theorem foldl_setP {xs : List (Nat × Nat)} : ∀ {o : List Int}, (xs.foldl setP o).length = o.length := by
  induction xs with
  | nil => intro o; rfl
  | cons x xs ih => intro o; rw [List.foldl_cons, ih]; simp [setP]
theorem matesP_len (a b : TXT) : (matesP a b).length = a.length := by unfold matesP; rw [foldl_setP, List.length_replicate]
theorem foldl_mem {n : Nat} : ∀ {xs : List (Nat × Nat)} {o : List Int}, (∀ p ∈ xs, p.2 < n) → (∀ x ∈ o, x = -1 ∨ (0 ≤ x ∧ x < n)) → ∀ x ∈ xs.foldl setP o, x = -1 ∨ (0 ≤ x ∧ x < (n : Int)) := by
  intro xs
  induction xs with
  | nil => intro o _ h; exact h
  | cons p xs ih =>
    intro o hp h
    rw [List.foldl_cons]
    refine ih (fun q hq => hp q (List.mem_cons_of_mem _ hq)) (fun x hx => ?_)
    rcases List.mem_or_eq_of_mem_set hx with hx | rfl
    · exact h x hx
    · exact .inr ⟨by omega, by have := hp p (List.mem_cons_self); omega⟩
theorem matesP_val {a b : TXT} {x : Int} (h : x ∈ matesP a b) : x = -1 ∨ (0 ≤ x ∧ x < (b.length : Int)) :=
  foldl_mem (n := b.length) (fun p hp => (pairsP_in hp).2) (fun y hy => .inl (List.eq_of_mem_replicate hy)) x h
theorem matesP_at {a b : TXT} {k : Nat} (hk : k < a.length) {d : Int} : (matesP a b).getD k d = -1 ∨ (0 ≤ (matesP a b).getD k d ∧ (matesP a b).getD k d < (b.length : Int)) := by
  rw [getD_of (by rw [matesP_len]; exact hk)]
  exact matesP_val (List.getElem_mem _)

section
variable {a b : TXT} (ha : a.length ≤ 1048576) (hb : b.length ≤ 1048576)
include ha hb

theorem mates_I : f_I_mates a b = some ((matesP a b, ()), ()) := by
  unfold f_I_mates
  have hrep : f_slices_Repeat_int [(-1)] (a.length : Int) = some ((List.replicate a.length (-1), ()), ()) := by
    unfold f_slices_Repeat_int repF
    dsimp only
    rw [decide_eq_true (by omega : (0 : Int) ≤ (a.length : Int)), decide_eq_true (show (a.length : Int) ≤ 1099511627776 by omega)]
    rfl
  rw [hrep, Option.bind_some, clines_I ha hb, Option.bind_some]
  dsimp only
  have hsm := T_small (b := b) ha 0 0
  have hl := pairsP_len a b
  have hloop := (fix_fold (B := fun d => b_I_mates_3 d.1 d.2.1 d.2.2.1 d.2.2.2.1) (pairsP a b) setP (fun o i => (o, (pairsP a b).map encL, (((pairsP a b).map encL).length : Int), (i : Int), ())) (fun o => (o, ())) (fun _ o => o.length = a.length)
    (fun i hi o ho => by
      refine ⟨by simp [setP, ho], ?_⟩
      show b_I_mates_3 o ((pairsP a b).map encL) (((pairsP a b).map encL).length : Int) i = _
      unfold b_I_mates_3
      have hin := pairsP_in (List.getElem_mem hi)
      have hget : ((pairsP a b).map encL).getD i [] = encL (pairsP a b)[i] := by rw [getD_of (by simpa using hi)]; simp
      rw [List.length_map, decide_eq_true (by omega : (i : Int) < ((pairsP a b).length : Int)), cond_true, inB_lt hi, cond_true, toNat_cast, hget]
      show (bif inB ((0 : Nat) : Int) 2 then (bif inB ((1 : Nat) : Int) 2 then (bif inB (((pairsP a b)[i].1 : Nat) : Int) o.length then _ else _) else _) else _) = _
      rw [inB_lt (by omega), cond_true, inB_lt (by omega), cond_true, inB_lt (by rw [ho]; exact hin.1), cond_true, wrap64 (by omega) (by omega)]
      rfl)
    (fun o ho => by
      show b_I_mates_3 o ((pairsP a b).map encL) (((pairsP a b).map encL).length : Int) ((pairsP a b).length : Int) = _
      unfold b_I_mates_3
      rw [List.length_map, decide_eq_false (by omega : ¬ (((pairsP a b).length : Int) < ((pairsP a b).length : Int))), cond_false]) (List.replicate a.length (-1)) (by simp)).1
  rw [show w_I_mates_3 (List.replicate a.length (-1), (pairsP a b).map encL, (((pairsP a b).map encL).length : Int), 0, ()) = _ from hloop, Option.bind_some]
  rfl

end
end R
end

section
/- Kinds of parts; where lines stand in both others. -/
open Go Go.Dn
namespace R
set_option linter.unusedVariables false

abbrev TX := List (List UInt8)

theorem same_core {B : TX × TX × Int × Int × Unit → Option ((TX × TX × Int × Int × Unit) ⊕ (Unit ⊕ (Bool × Unit)))} {a b : TX} (hab : a.length = b.length)
    (hstep : ∀ i, i < a.length → B (a, b, (a.length : Int), (i : Int), ()) = some (if !(a.getD i [] == b.getD i []) then .inr (.inr (false, ())) else .inl (a, b, (a.length : Int), ((i + 1 : Nat) : Int), ())))
    (hend : B (a, b, (a.length : Int), (a.length : Int), ()) = some (.inr (.inl ()))) :
    fix B (a, b, (a.length : Int), 0, ()) = some (if decide (a = b) = true then .inl () else .inr (false, ())) := by
  have := fix_anyN (B := B) a.length (fun i => !(a.getD i [] == b.getD i [])) (fun i => (a, b, (a.length : Int), (i : Int), ())) (fun _ => .inr (false, ())) (.inl ())
    (fun i hi hq => by rw [hstep i hi, if_neg (by rw [hq]; simp)])
    (fun i hi hq => by rw [hstep i hi, if_pos hq])
    hend
  rw [show ((0 : Nat) : Int) = 0 from rfl] at this
  have hd : decide (a = b) = !(anyN a.length fun i => !(a.getD i [] == b.getD i [])) := by
    have h2 := beq_places (d := ([] : List UInt8)) hab
    have e : (fun i => !(a.getD i [] == b.getD i [])) = (fun i => !(@BEq.beq _ instBEqOfDecidableEq (a.getD i []) (b.getD i []))) := by
      funext i
      congr 1
      rw [Bool.eq_iff_iff]
      simp
    rw [e, ← h2, Bool.eq_iff_iff]
    simp
  rw [this, hd]
  cases anyN a.length fun i => !(a.getD i [] == b.getD i []) <;> rfl

theorem sameT_S (a b : TX) (ha : a.length ≤ 4611686018427387904) (hb : b.length ≤ 4611686018427387904) : f_S_l1SameT a b = some ((decide (a = b), ()), ()) := by
  unfold f_S_l1SameT
  by_cases hab : a.length = b.length
  · rw [show ((a.length : Int) == (b.length : Int)) = true from by rw [hab]; exact beq_self_eq_true _, Bool.not_true, cond_false]
    rw [show w_S_l1SameT_4 (a, b, (a.length : Int), 0, ()) = _ from same_core (B := fun d => b_S_l1SameT_4 d.1 d.2.1 d.2.2.1 d.2.2.2.1) hab
      (fun i hi => by
        show b_S_l1SameT_4 a b a.length i = _
        unfold b_S_l1SameT_4
        rw [decide_eq_true (by omega : (i : Int) < (a.length : Int)), cond_true, inB_lt hi, cond_true, inB_lt (by omega), cond_true, toNat_cast]
        cases (a.getD i [] == b.getD i [])
        · rfl
        · simp only [Bool.not_true, cond_false]
          rw [wrap64 (by omega) (by omega)]
          rfl)
      (by
        show b_S_l1SameT_4 a b a.length a.length = _
        unfold b_S_l1SameT_4
        rw [decide_eq_false (Int.lt_irrefl _), cond_false])]
    cases decide (a = b) <;> rfl
  · rw [show ((a.length : Int) == (b.length : Int)) = false from by rw [beq_eq_false_iff_ne]; omega, Bool.not_false, cond_true]
    rw [decide_eq_false (by rintro rfl; exact hab rfl)]

theorem equal_I (a b : TX) (ha : a.length ≤ 4611686018427387904) (hb : b.length ≤ 4611686018427387904) : f_slices_Equal_string a b = some ((decide (a = b), ()), ()) := by
  unfold f_slices_Equal_string
  by_cases hab : a.length = b.length
  · rw [show ((a.length : Int) == (b.length : Int)) = true from by rw [hab]; exact beq_self_eq_true _, Bool.not_true, cond_false]
    rw [show w_slices_Equal_string_4 (a, b, (a.length : Int), 0, ()) = _ from same_core (B := fun d => b_slices_Equal_string_4 d.1 d.2.1 d.2.2.1 d.2.2.2.1) hab
      (fun i hi => by
        show b_slices_Equal_string_4 a b a.length i = _
        unfold b_slices_Equal_string_4
        rw [decide_eq_true (by omega : (i : Int) < (a.length : Int)), cond_true, inB_lt hi, cond_true, inB_lt (by omega), cond_true, toNat_cast]
        cases (a.getD i [] == b.getD i [])
        · rfl
        · simp only [Bool.not_true, cond_false]
          rw [wrap64 (by omega) (by omega)]
          rfl)
      (by
        show b_slices_Equal_string_4 a b a.length a.length = _
        unfold b_slices_Equal_string_4
        rw [decide_eq_false (Int.lt_irrefl _), cond_false])]
    cases decide (a = b) <;> rfl
  · rw [show ((a.length : Int) == (b.length : Int)) = false from by rw [beq_eq_false_iff_ne]; omega, Bool.not_false, cond_true]
    rw [decide_eq_false (by rintro rfl; exact hab rfl)]


def kindP (b l r : TX) : Int :=
  bif decide (b = l) && decide (b = r) then 1 else bif decide (b = r) then 2 else bif decide (b = l) then 3 else bif decide (l = r) then 4 else 5

theorem kind_I {b l r : TX} (hb : b.length ≤ 4611686018427387904) (hl : l.length ≤ 4611686018427387904) (hr : r.length ≤ 4611686018427387904) (hne : 0 < b.length ∨ 0 < l.length ∨ 0 < r.length) : f_I_kindOf b l r = some ((kindP b l r, ()), ()) := by
  unfold f_I_kindOf kindP
  rw [equal_I _ _ hb hl, Option.bind_some, equal_I _ _ hb hr, Option.bind_some]
  dsimp only
  by_cases h1 : b = l
  · by_cases h2 : b = r
    · subst h1; subst h2
      rw [decide_eq_true rfl, cond_true, cond_true, decide_eq_true (by omega : (b.length : Int) > 0)]
      rfl
    · rw [decide_eq_true h1, decide_eq_false h2]
      rfl
  · by_cases h2 : b = r
    · rw [decide_eq_false h1, decide_eq_true h2]
      rfl
    · rw [decide_eq_false h1, decide_eq_false h2]
      simp only [cond_false, Option.bind_some, Bool.not_false, cond_true, Bool.and_self]
      rw [equal_I _ _ hl hr, Option.bind_some, Option.bind_some]
      dsimp only
      cases decide (l = r) <;> rfl

theorem kind_S {b l r : TX} (hb : b.length ≤ 4611686018427387904) (hl : l.length ≤ 4611686018427387904) (hr : r.length ≤ 4611686018427387904) : f_S_l11Kind b l r = some ((kindP b l r, ()), ()) := by
  unfold f_S_l11Kind kindP
  rw [sameT_S _ _ hb hl, Option.bind_some, sameT_S _ _ hb hr, Option.bind_some]
  dsimp only
  cases decide (b = l)
  · cases decide (b = r)
    · simp only [cond_false, Option.bind_some, Bool.and_self]
      rw [sameT_S _ _ hl hr, Option.bind_some]
      dsimp only
      cases decide (l = r) <;> rfl
    · rfl
  · cases decide (b = r) <;> rfl

theorem own_Sx (l : TX) (h : l.length ≤ 1099511627776) : f_S_l1OwnT l = some ((l, ()), ()) := by
  unfold f_S_l1OwnT
  rw [roomB_ok (by simpa using h)]
  rfl
theorem own_Ix (l : TX) (h : l.length ≤ 1099511627776) : f_slices_Clone_string l = some ((l, ()), ()) := by
  unfold f_slices_Clone_string
  rw [roomB_ok (by simpa using h)]
  rfl

def partP (b l r : TX) (i j : Int) : PV Y_impl_Part := (kindP b l r, (i, (j, (l, (r, ())))))
theorem part_S {b l r : TX} (hb : b.length ≤ 1000) (hl : l.length ≤ 1000) (hr : r.length ≤ 1000) (i j : Int) : f_S_l11Part b l r i j = some ((partP b l r i j, ()), ()) := by
  unfold f_S_l11Part
  rw [kind_S (by omega) (by omega) (by omega), Option.bind_some, own_Sx _ (by omega), Option.bind_some, own_Sx _ (by omega), Option.bind_some]
  rfl

/-! ### where lines stand -/
abbrev P2 := PV Y__2_int
def st2 (n : Nat) (m m' : List Int) : List P2 := mkT n fun k => (m.getD k 0, (m'.getD k 0, ()))
theorem st2_len {n : Nat} {m m' : List Int} : (st2 n m m').length = n := mkT_len
theorem set_get {m : List Int} {i k : Nat} {x : Int} (hi : i < m.length) : (m.set i x).getD k 0 = if k = i then x else m.getD k 0 := by
  rw [List.getD_eq_getElem?_getD, List.getElem?_set]
  by_cases h : i = k
  · rw [if_pos h, if_pos (by omega), if_pos h.symm]; rfl
  · rw [if_neg h, if_neg (fun e => h e.symm), List.getD_eq_getElem?_getD]
theorem st2_l {n : Nat} {m m' : List Int} (hm : m.length = n) {i : Nat} (hi : i < n) (x : Int) (d : P2) : (st2 n m m').set i (x, ((st2 n m m').getD i d).2) = st2 n (m.set i x) m' := by
  unfold st2
  rw [mkT_set, mkT_get hi]
  refine mkT_ext fun r hr => ?_
  rw [set_get (by omega)]
  by_cases h : r = i
  · rw [if_pos h, if_pos h, h]
  · rw [if_neg h, if_neg h]
theorem st2_r {n : Nat} {m m' : List Int} (hm : m'.length = n) {i : Nat} (hi : i < n) (x : Int) (d : P2) : (st2 n m m').set i (((st2 n m m').getD i d).1, (x, ((st2 n m m').getD i d).2.2)) = st2 n m (m'.set i x) := by
  unfold st2
  rw [mkT_set, mkT_get hi]
  refine mkT_ext fun r hr => ?_
  rw [set_get (by omega)]
  by_cases h : r = i
  · rw [if_pos h, if_pos h, h]
  · rw [if_neg h, if_neg h]

def bothB (L R : List Int) (k : Nat) : Bool := decide (0 ≤ L.getD k 0) && decide (0 ≤ R.getD k 0)
def stdP (n : Nat) (L R : List Int) : List P2 := mkT n fun k => bif bothB L R k then (L.getD k 0, (R.getD k 0, ())) else (-1, (-1, ()))
end R
end

section
/- Where lines stand: the reference's. -/
open Go Go.Dn
namespace R
set_option linter.unusedVariables false

theorem enc_at {xs : List (Nat × Nat)} {i : Nat} (hi : i < xs.length) (d : P2) : (xs.map encP).getD i d = ((xs[i].1 : Int), ((xs[i].2 : Int), ())) := by
  rw [getD_of (by rw [List.length_map]; exact hi), List.getElem_map]
  rfl

theorem rep_get {n k : Nat} : (List.replicate n (-1 : Int)).getD k 0 = if k < n then -1 else 0 := by
  rw [List.getD_eq_getElem?_getD, List.getElem?_replicate]
  split <;> rfl

theorem stand_8 {a b c : TX} (hn : a.length ≤ 1000) (m' : List Int) (xs : List (Nat × Nat)) (hx : xs.length ≤ 1000) (hin : ∀ p ∈ xs, p.1 < a.length) (m : List Int) (hm : m.length = a.length) :
    w_S_l11Stand_8 (a, c, st2 a.length m m', xs.map encP, (xs.length : Int), 0, ()) = some (a, c, st2 a.length (xs.foldl setP m) m', ()) := by
  have hF := fix_fold (B := fun d => b_S_l11Stand_8 d.1 d.2.1 d.2.2.1 d.2.2.2.1 d.2.2.2.2.1 d.2.2.2.2.2.1) xs setP (fun o i => (a, c, st2 a.length o m', xs.map encP, (xs.length : Int), (i : Int), ())) (fun o => (a, c, st2 a.length o m', ())) (fun _ o => o.length = a.length)
    (fun i hi o hI => by
      refine ⟨by unfold setP; rw [List.length_set]; exact hI, ?_⟩
      have hp := hin _ (List.getElem_mem hi)
      show b_S_l11Stand_8 a c (st2 a.length o m') (xs.map encP) xs.length i = _
      unfold b_S_l11Stand_8
      rw [decide_eq_true (by omega : (i : Int) < (xs.length : Int)), cond_true, inB_lt (by rw [List.length_map]; exact hi), cond_true, toNat_cast, enc_at hi]
      dsimp only
      rw [inB_lt (by rw [st2_len]; exact hp), cond_true, toNat_cast, st2_l hI hp, wrap64 (x := (i : Int) + 1) (by omega) (by omega)]
      rfl)
    (fun o _ => by
      show b_S_l11Stand_8 a c (st2 a.length o m') (xs.map encP) xs.length xs.length = _
      unfold b_S_l11Stand_8
      rw [decide_eq_false (Int.lt_irrefl _), cond_false]) m hm
  exact hF.1

theorem stand_13 {n : Nat} (hn : n ≤ 1000) (m : List Int) (xs : List (Nat × Nat)) (hx : xs.length ≤ 1000) (hin : ∀ p ∈ xs, p.1 < n) (m' : List Int) (hm : m'.length = n) :
    w_S_l11Stand_13 (st2 n m m', xs.map encP, (xs.length : Int), 0, ()) = some (st2 n m (xs.foldl setP m'), ()) := by
  have hF := fix_fold (B := fun d => b_S_l11Stand_13 d.1 d.2.1 d.2.2.1 d.2.2.2.1) xs setP (fun o i => (st2 n m o, xs.map encP, (xs.length : Int), (i : Int), ())) (fun o => (st2 n m o, ())) (fun _ o => o.length = n)
    (fun i hi o hI => by
      refine ⟨by unfold setP; rw [List.length_set]; exact hI, ?_⟩
      have hp := hin _ (List.getElem_mem hi)
      show b_S_l11Stand_13 (st2 n m o) (xs.map encP) xs.length i = _
      unfold b_S_l11Stand_13
      rw [decide_eq_true (by omega : (i : Int) < (xs.length : Int)), cond_true, inB_lt (by rw [List.length_map]; exact hi), cond_true, toNat_cast, enc_at hi]
      dsimp only
      rw [inB_lt (by rw [st2_len]; exact hp), cond_true, toNat_cast, st2_r hI hp, wrap64 (x := (i : Int) + 1) (by omega) (by omega)]
      rfl)
    (fun o _ => by
      show b_S_l11Stand_13 (st2 n m o) (xs.map encP) xs.length xs.length = _
      unfold b_S_l11Stand_13
      rw [decide_eq_false (Int.lt_irrefl _), cond_false]) m' hm
  exact hF.1

def cutS (n : Nat) (L R : List Int) (i : Nat) : List P2 := mkT n fun k => if k < i ∧ bothB L R k = false then (-1, (-1, ())) else (L.getD k 0, (R.getD k 0, ()))
theorem cutS_zero (n : Nat) (L R : List Int) : cutS n L R 0 = st2 n L R := mkT_ext fun r hr => if_neg (by omega)
theorem cutS_all (n : Nat) (L R : List Int) : cutS n L R n = stdP n L R := mkT_ext fun r hr => by
  cases h : bothB L R r
  · rw [if_pos ⟨hr, rfl⟩]; rfl
  · rw [if_neg (by rintro ⟨_, q⟩; cases q)]; rfl
theorem cutS_keep {n : Nat} {L R : List Int} {i : Nat} (h : bothB L R i = true) : cutS n L R i = cutS n L R (i + 1) := mkT_ext fun r hr => by
  by_cases hr' : r = i
  · subst hr'; rw [h, if_neg (by omega), if_neg (by rintro ⟨_, q⟩; cases q)]
  · by_cases hb : bothB L R r = false
    · by_cases hi : r < i
      · rw [if_pos ⟨hi, hb⟩, if_pos ⟨by omega, hb⟩]
      · rw [if_neg (fun q => hi q.1), if_neg (fun q => hi (by omega))]
    · rw [if_neg (fun q => hb q.2), if_neg (fun q => hb q.2)]
theorem cutS_set {n : Nat} {L R : List Int} {i : Nat} (h : bothB L R i = false) : (cutS n L R i).set i (-1, (-1, ())) = cutS n L R (i + 1) := by
  unfold cutS
  rw [mkT_set]
  refine mkT_ext fun r hr => ?_
  by_cases hr' : r = i
  · rw [if_pos hr', if_pos ⟨by omega, by rw [hr']; exact h⟩]
  · rw [if_neg hr']
    by_cases hb : bothB L R r = false
    · by_cases hi : r < i
      · rw [if_pos ⟨hi, hb⟩, if_pos ⟨by omega, hb⟩]
      · rw [if_neg (fun q => hi q.1), if_neg (fun q => hi (by omega))]
    · rw [if_neg (fun q => hb q.2), if_neg (fun q => hb q.2)]
theorem cutS_at {n : Nat} {L R : List Int} {i : Nat} (hi : i < n) (d : P2) : (cutS n L R i).getD i d = (L.getD i 0, (R.getD i 0, ())) := by
  unfold cutS
  rw [mkT_get hi, if_neg (by omega)]

theorem stand_18 {n : Nat} (hn : n ≤ 1000) (L R : List Int) : w_S_l11Stand_18 (st2 n L R, (n : Int), 0, ()) = some (stdP n L R, ()) := by
  have hF := fix_all (B := fun d => b_S_l11Stand_18 d.1 d.2.1 d.2.2.1) (fun i => (cutS n L R i, (n : Int), (i : Int), ())) n (r := (stdP n L R, ()))
    (fun i hi => by
      have hl : (cutS n L R i).length = n := mkT_len
      show b_S_l11Stand_18 (cutS n L R i) n i = _
      unfold b_S_l11Stand_18
      rw [decide_eq_true (by omega : (i : Int) < (n : Int)), cond_true, inB_lt (by omega : i < (cutS n L R i).length), cond_true, toNat_cast, cutS_at hi]
      dsimp only
      have tail : ∀ q : Bool, q = !bothB L R i → ((((some (cutS n L R i, (i : Int), (L.getD i 0, (R.getD i 0, ())), (n : Int), (i : Int), q, ()) : Option ((PV S__2_int × PV (.int .i64) × PV Y__2_int × PV (.int .i64) × PV (.int .i64) × PV .bool × Unit))).bind fun j15 =>
            bif j15.2.2.2.2.2.1 then
              bif inB j15.2.1 j15.1.length then
                some (j15.1.set j15.2.1.toNat ((-1), ((-1), ())), j15.2.2.2.1, j15.2.2.2.2.1, ())
              else
                none
            else
              some (j15.1, j15.2.2.2.1, j15.2.2.2.2.1, ())) : Option ((PV S__2_int × PV (.int .i64) × PV (.int .i64) × Unit)))) = some (cutS n L R (i + 1), (n : Int), (i : Int), ()) := by
        intro q hq
        rw [Option.bind_some]
        dsimp only
        cases hb : bothB L R i
        · rw [hq, hb, Bool.not_false, cond_true, inB_lt (by omega : i < (cutS n L R i).length), cond_true, toNat_cast, cutS_set hb]
        · rw [hq, hb, Bool.not_true, cond_false, cutS_keep hb]
      by_cases h1 : L.getD i 0 < 0
      · rw [decide_eq_true h1, cond_true, tail true (by unfold bothB; rw [decide_eq_false (by omega : ¬ (0 : Int) ≤ L.getD i 0)]; rfl), Option.bind_some]
        dsimp only
        rw [wrap64 (x := (i : Int) + 1) (by omega) (by omega)]
        rfl
      · rw [decide_eq_false h1, cond_false, tail (decide (R.getD i 0 < 0)) (by
          unfold bothB
          rw [decide_eq_true (by omega : (0 : Int) ≤ L.getD i 0), Bool.true_and]
          by_cases h2 : R.getD i 0 < 0
          · rw [decide_eq_true h2, decide_eq_false (by omega : ¬ (0 : Int) ≤ R.getD i 0)]; rfl
          · rw [decide_eq_false h2, decide_eq_true (by omega : (0 : Int) ≤ R.getD i 0)]; rfl), Option.bind_some]
        dsimp only
        rw [wrap64 (x := (i : Int) + 1) (by omega) (by omega)]
        rfl)
    (by
      show b_S_l11Stand_18 (cutS n L R n) n n = _
      unfold b_S_l11Stand_18
      rw [decide_eq_false (Int.lt_irrefl _), cond_false, cutS_all])
  rw [← hF, cutS_zero]
  rfl
end R
end

section
/- Parts as the reference makes them. -/
open Go Go.Dn
namespace R
set_option linter.unusedVariables false

theorem stand_3 {a b c : TX} (hn : a.length ≤ 1000) : w_S_l11Stand_3 (a, b, c, List.replicate a.length (dflt Y__2_int), (a.length : Int), 0, ()) = some (a, b, c, st2 a.length (List.replicate a.length (-1)) (List.replicate a.length (-1)), ()) := by
  have hF := fix_all (B := fun d => b_S_l11Stand_3 d.1 d.2.1 d.2.2.1 d.2.2.2.1 d.2.2.2.2.1 d.2.2.2.2.2.1) (fun i => (a, b, c, mkT a.length (fun k => if k < i then ((-1, (-1, ())) : P2) else dflt Y__2_int), (a.length : Int), (i : Int), ())) a.length (r := (a, b, c, st2 a.length (List.replicate a.length (-1)) (List.replicate a.length (-1)), ()))
    (fun i hi => by
      show b_S_l11Stand_3 a b c (mkT a.length (fun k => if k < i then ((-1, (-1, ())) : P2) else dflt Y__2_int)) a.length i = _
      unfold b_S_l11Stand_3
      rw [decide_eq_true (by omega : (i : Int) < (a.length : Int)), cond_true, inB_lt (by rw [mkT_len]; exact hi), cond_true, toNat_cast, mkT_set, wrap64 (x := (i : Int) + 1) (by omega) (by omega)]
      rw [show mkT a.length (fun r => if r = i then ((-1, (-1, ())) : P2) else if r < i then ((-1, (-1, ())) : P2) else dflt Y__2_int) = mkT a.length (fun k => if k < i + 1 then ((-1, (-1, ())) : P2) else dflt Y__2_int) from mkT_ext fun r hr => by
        by_cases h1 : r = i
        · rw [if_pos h1, if_pos (by omega)]
        · rw [if_neg h1]
          by_cases h2 : r < i
          · rw [if_pos h2, if_pos (by omega)]
          · rw [if_neg h2, if_neg (by omega)]]
      rfl)
    (by
      show b_S_l11Stand_3 a b c (mkT a.length (fun k => if k < a.length then ((-1, (-1, ())) : P2) else dflt Y__2_int)) a.length a.length = _
      unfold b_S_l11Stand_3
      rw [decide_eq_false (Int.lt_irrefl _), cond_false]
      rw [show mkT a.length (fun k => if k < a.length then ((-1, (-1, ())) : P2) else dflt Y__2_int) = st2 a.length (List.replicate a.length (-1)) (List.replicate a.length (-1)) from mkT_ext fun r hr => by rw [if_pos hr, rep_get, if_pos hr]])
  rw [← hF]
  rw [show List.replicate a.length (dflt Y__2_int) = mkT a.length (fun k => if k < 0 then ((-1, (-1, ())) : P2) else dflt Y__2_int) from by rw [mkT_rep]; exact mkT_ext fun r hr => by rw [if_neg (by omega)]]
  rfl

theorem stand_S {a b c : TX} (ha : a.length ≤ 1000) (hb : b.length ≤ 1000) (hc : c.length ≤ 1000) : f_S_l11Stand a b c = some ((stdP a.length (matesP a b) (matesP a c), ()), ()) := by
  have p1 : (pairsP a b).length ≤ 1000 := by rw [pairsP_len]; exact Nat.le_trans T_le (by omega)
  have p2 : (pairsP a c).length ≤ 1000 := by rw [pairsP_len]; exact Nat.le_trans T_le (by omega)
  unfold f_S_l11Stand
  rw [toNat_cast, decide_eq_true (by omega : (0 : Int) ≤ (a.length : Int)), decide_eq_true (Int.le_refl _), roomB_ok (by omega), Bool.and_self, Bool.and_self, cond_true, List.length_replicate, stand_3 ha, Option.bind_some]
  dsimp only
  rw [pairs_S (by omega) (by omega), Option.bind_some]
  dsimp only
  rw [List.length_map, stand_8 (b := b) ha _ _ p1 (fun p hp => (pairsP_in hp).1) _ (by rw [List.length_replicate]), Option.bind_some]
  dsimp only
  rw [pairs_S (by omega) (by omega), Option.bind_some]
  dsimp only
  rw [List.length_map, stand_13 ha _ _ p2 (fun p hp => (pairsP_in hp).1) _ (by rw [List.length_replicate]), Option.bind_some]
  dsimp only
  rw [st2_len, stand_18 ha, Option.bind_some]
  rfl

/-! ### the parts, one behind the other -/
section
variable (a b c : TX) (l r : List Int)
def Bo (k : Nat) : Prop := 0 ≤ l.getD k 0 ∧ 0 ≤ r.getD k 0
def Ru (i x y : Nat) : Prop := i < a.length ∧ l.getD i 0 = (x : Int) ∧ r.getD i 0 = (y : Int)
def prt (i k x p y q : Nat) : PV Y_impl_Part := partP (cutL (i : Int) (k : Int) a) (cutL (x : Int) (p : Int) b) (cutL (y : Int) (q : Int) c) (i : Int) (k : Int)
inductive GoP : Nat → Nat → Nat → List (PV Y_impl_Part) → Prop
  | stop : GoP a.length b.length c.length []
  | run {i x y m : Nat} {ps : List (PV Y_impl_Part)} (hm : 0 < m) (h : ∀ t, t < m → Ru a l r (i + t) (x + t) (y + t)) (hs : ¬ Ru a l r (i + m) (x + m) (y + m)) (hb : x + m ≤ b.length) (hc : y + m ≤ c.length) (hi : i + m ≤ a.length)
      (g : GoP (i + m) (x + m) (y + m) ps) : GoP i x y (prt a b c i (i + m) x (x + m) y (y + m) :: ps)
  | jump {i x y k p q : Nat} {ps : List (PV Y_impl_Part)} (hik : i ≤ k) (hk : k ≤ a.length) (hn : ∀ t, i ≤ t → t < k → ¬ Bo l r t) (h1 : k < a.length → Bo l r k ∧ l.getD k 0 = (p : Int) ∧ r.getD k 0 = (q : Int)) (h2 : k = a.length → p = b.length ∧ q = c.length)
      (hne : i < k ∨ x < p ∨ y < q) (hx : x ≤ p) (hy : y ≤ q) (hp : p ≤ b.length) (hq : q ≤ c.length) (g : GoP k p q ps) : GoP i x y (prt a b c i k x p y q :: ps)
end

theorem std_at {n : Nat} {l r : List Int} {k : Nat} (hk : k < n) (d : P2) : (stdP n l r).getD k d = bif bothB l r k then (l.getD k 0, (r.getD k 0, ())) else (-1, (-1, ())) := mkT_get hk
theorem bo_iff {l r : List Int} {k : Nat} : bothB l r k = true ↔ Bo l r k := by
  unfold bothB Bo
  rw [Bool.and_eq_true, decide_eq_true_eq, decide_eq_true_eq]

theorem std_ru {a : TX} {l r : List Int} {k x y : Nat} (hk : k < a.length) (d : P2) : (((stdP a.length l r).getD k d).1 == (x : Int) && ((stdP a.length l r).getD k d).2.1 == (y : Int)) = true ↔ Ru a l r k x y := by
  rw [std_at hk]
  unfold Ru
  cases h : bothB l r k
  · have h' : ¬ Bo l r k := fun q => by rw [bo_iff.2 q] at h; cases h
    rw [cond_false]
    simp only [Bool.and_eq_true, beq_iff_eq]
    constructor
    · rintro ⟨q, _⟩
      have q : (-1 : Int) = (x : Int) := q
      omega
    · rintro ⟨_, q1, q2⟩; exact absurd ⟨by omega, by omega⟩ h'
  · rw [cond_true]
    simp only [Bool.and_eq_true, beq_iff_eq]
    exact ⟨fun q => ⟨hk, q.1, q.2⟩, fun q => q.2⟩

theorem run_S {a b c : TX} {l r : List Int} {out : List (PV Y_impl_Part)} {i x y : Nat} (ha : a.length ≤ 40) (hx : x ≤ 40) (hy : y ≤ 40) (m : Nat) (h : ∀ t, t < m → Ru a l r (i + t) (x + t) (y + t)) (hs : ¬ Ru a l r (i + m) (x + m) (y + m)) (him : i + m ≤ a.length) :
    w_S_l11Parts_6 (a, b, c, stdP a.length l r, out, (i : Int), (x : Int), (y : Int), 0, ()) = some (a, b, c, stdP a.length l r, out, (i : Int), (x : Int), (y : Int), (m : Int), ()) := by
  have hw : ∀ u t : Nat, u ≤ 1000 → t ≤ 1000 → IntKind.wrap .i64 ((u : Int) + (t : Int)) = ((u + t : Nat) : Int) := fun u t _ _ => by rw [wrap64 (by omega) (by omega)]; omega
  have hF := fix_all (B := fun d => b_S_l11Parts_6 d.1 d.2.1 d.2.2.1 d.2.2.2.1 d.2.2.2.2.1 d.2.2.2.2.2.1 d.2.2.2.2.2.2.1 d.2.2.2.2.2.2.2.1 d.2.2.2.2.2.2.2.2.1) (fun t => (a, b, c, stdP a.length l r, out, (i : Int), (x : Int), (y : Int), (t : Int), ())) m (r := (a, b, c, stdP a.length l r, out, (i : Int), (x : Int), (y : Int), (m : Int), ()))
    (fun t ht => by
      have hr := h t ht
      show b_S_l11Parts_6 a b c (stdP a.length l r) out i x y t = _
      unfold b_S_l11Parts_6
      rw [hw i t (by omega) (by omega), hw x t (by omega) (by omega), hw y t (by omega) (by omega), decide_eq_true (by have := hr.1; omega : ((i + t : Nat) : Int) < (a.length : Int)), cond_true, inB_lt (by unfold stdP; rw [mkT_len]; exact hr.1), cond_true, toNat_cast, (std_ru hr.1 _).2 hr, cond_true, wrap64 (x := (t : Int) + 1) (by omega) (by omega)]
      rfl)
    (by
      show b_S_l11Parts_6 a b c (stdP a.length l r) out i x y m = _
      unfold b_S_l11Parts_6
      rw [hw i m (by omega) (by omega), hw x m (by omega) (by omega), hw y m (by omega) (by omega)]
      by_cases hlt : i + m < a.length
      · rw [decide_eq_true (by omega : ((i + m : Nat) : Int) < (a.length : Int)), cond_true, inB_lt (by unfold stdP; rw [mkT_len]; exact hlt), cond_true, toNat_cast, Bool.eq_false_iff.2 (fun q => hs ((std_ru hlt _).1 q)), cond_false]
      · rw [decide_eq_false (by omega : ¬ ((i + m : Nat) : Int) < (a.length : Int)), cond_false])
  exact hF

theorem next_P {a b c : TX} {l r : List Int} {out : List (PV Y_impl_Part)} {x y : Int} (ha : a.length ≤ 40) (i k : Nat) (hik : i ≤ k) (hk : k ≤ a.length) (hn : ∀ t, i ≤ t → t < k → ¬ Bo l r t) (h1 : k < a.length → Bo l r k) :
    w_S_l11Parts_14 (a, b, c, stdP a.length l r, out, (i : Int), x, y, (i : Int), ()) = some (a, b, c, stdP a.length l r, out, (i : Int), x, y, (k : Int), ()) := by
  have hF := fix_all (B := fun d => b_S_l11Parts_14 d.1 d.2.1 d.2.2.1 d.2.2.2.1 d.2.2.2.2.1 d.2.2.2.2.2.1 d.2.2.2.2.2.2.1 d.2.2.2.2.2.2.2.1 d.2.2.2.2.2.2.2.2.1) (fun t => (a, b, c, stdP a.length l r, out, (i : Int), x, y, ((i + t : Nat) : Int), ())) (k - i) (r := (a, b, c, stdP a.length l r, out, (i : Int), x, y, (k : Int), ()))
    (fun t ht => by
      have hlt : i + t < a.length := by omega
      have hb : bothB l r (i + t) = false := Bool.eq_false_iff.2 fun q => hn _ (by omega) (by omega) (bo_iff.1 q)
      show b_S_l11Parts_14 a b c (stdP a.length l r) out i x y ((i + t : Nat) : Int) = _
      unfold b_S_l11Parts_14
      rw [decide_eq_true (by omega : ((i + t : Nat) : Int) < (a.length : Int)), cond_true, inB_lt (by unfold stdP; rw [mkT_len]; exact hlt), cond_true, toNat_cast, std_at hlt, hb, cond_false, wrap64 (x := ((i + t : Nat) : Int) + 1) (by omega) (by omega)]
      rfl)
    (by
      rw [show i + (k - i) = k from by omega]
      show b_S_l11Parts_14 a b c (stdP a.length l r) out i x y (k : Int) = _
      unfold b_S_l11Parts_14
      by_cases hlt : k < a.length
      · have hb := h1 hlt
        rw [decide_eq_true (by omega : (k : Int) < (a.length : Int)), cond_true, inB_lt (by unfold stdP; rw [mkT_len]; exact hlt), cond_true, toNat_cast, std_at hlt, bo_iff.2 hb, cond_true]
        dsimp only
        rw [decide_eq_false (by have := hb.1; omega : ¬ (l.getD k 0 < 0)), cond_false]
      · rw [decide_eq_false (by omega : ¬ (k : Int) < (a.length : Int)), cond_false])
  exact hF
end R
end

section
/- Parts: both sides make the same. -/
open Go Go.Dn
namespace R
set_option linter.unusedVariables false

theorem cutx_len {l : TX} {i k : Nat} (hik : i ≤ k) (hk : k ≤ l.length) : (cutL (i : Int) (k : Int) l).length = k - i := by
  unfold cutL
  rw [toNat_cast, toNat_cast, List.length_drop, List.length_take]
  omega
theorem cutx_ok {i k n : Nat} (hik : i ≤ k) (hk : k ≤ n) : cutB (i : Int) (k : Int) n = true := by
  unfold cutB
  rw [decide_eq_true (by omega : (0 : Int) ≤ (i : Int)), decide_eq_true (by omega : (i : Int) ≤ (k : Int)), decide_eq_true (by omega : (k : Int) ≤ (n : Int))]
  rfl
theorem wad {u t : Nat} (hu : u ≤ 1000) (ht : t ≤ 1000) : IntKind.wrap .i64 ((u : Int) + (t : Int)) = ((u + t : Nat) : Int) := by rw [wrap64 (by omega) (by omega)]; omega

theorem parts_S {a b c : TX} {l r : List Int} (ha : a.length ≤ 40) (hb : b.length ≤ 40) (hc : c.length ≤ 40) {i x y : Nat} {ps : List (PV Y_impl_Part)} (g : GoP a b c l r i x y ps) : ∀ (out : List (PV Y_impl_Part)), out.length + ps.length ≤ 1000 → i ≤ a.length → x ≤ b.length → y ≤ c.length →
    w_S_l11Parts_4 (a, b, c, stdP a.length l r, out, (i : Int), (x : Int), (y : Int), ()) = some (out ++ ps, ()) := by
  have head : ∀ {out : List (PV Y_impl_Part)} {i x y : Nat}, (i < a.length ∨ x < b.length ∨ y < c.length) → ((bif (decide ((i : Int) < (a.length : Int))) then
        some (.inr (a, b, c, stdP a.length l r, out, (i : Int), (x : Int), (y : Int), ()))
      else
        bif (decide ((x : Int) < (b.length : Int))) then
          some (.inr (a, b, c, stdP a.length l r, out, (i : Int), (x : Int), (y : Int), ()))
        else
          bif (decide ((y : Int) < (c.length : Int))) then
            some (.inr (a, b, c, stdP a.length l r, out, (i : Int), (x : Int), (y : Int), ()))
          else
            some (.inl (out, ())) : Option ((PV S_impl_Part × Unit) ⊕ (PV S_string × PV S_string × PV S_string × PV S__2_int × PV S_impl_Part × PV (.int .i64) × PV (.int .i64) × PV (.int .i64) × Unit)))) = some (.inr (a, b, c, stdP a.length l r, out, (i : Int), (x : Int), (y : Int), ())) := by
    intro out i x y h
    by_cases h1 : i < a.length
    · rw [decide_eq_true (by omega : (i : Int) < (a.length : Int)), cond_true]
    · rw [decide_eq_false (by omega : ¬ (i : Int) < (a.length : Int)), cond_false]
      by_cases h2 : x < b.length
      · rw [decide_eq_true (by omega : (x : Int) < (b.length : Int)), cond_true]
      · rw [decide_eq_false (by omega : ¬ (x : Int) < (b.length : Int)), cond_false, decide_eq_true (by omega : (y : Int) < (c.length : Int)), cond_true]
  induction g with
  | stop =>
    intro out _ _ _ _
    refine fix_end (B := fun d => b_S_l11Parts_4 d.1 d.2.1 d.2.2.1 d.2.2.2.1 d.2.2.2.2.1 d.2.2.2.2.2.1 d.2.2.2.2.2.2.1 d.2.2.2.2.2.2.2.1) ?_
    show b_S_l11Parts_4 a b c (stdP a.length l r) out a.length b.length c.length = _
    unfold b_S_l11Parts_4
    rw [decide_eq_false (Int.lt_irrefl _), decide_eq_false (Int.lt_irrefl _), decide_eq_false (Int.lt_irrefl _), cond_false, cond_false, cond_false, Option.bind_some]
    dsimp only
    rw [List.append_nil]
  | @run i x y m ps hm h hs hbm hcm him g ih =>
    intro out ho hi hx hy
    rw [List.length_cons] at ho
    have hgo : b_S_l11Parts_4 a b c (stdP a.length l r) out i x y = some (.inl (a, b, c, stdP a.length l r, out ++ [prt a b c i (i + m) x (x + m) y (y + m)], ((i + m : Nat) : Int), ((x + m : Nat) : Int), ((y + m : Nat) : Int), ())) := by
      unfold b_S_l11Parts_4
      rw [head (.inl (by omega)), Option.bind_some]
      dsimp only
      rw [run_S ha (by omega) (by omega) m h hs him, Option.bind_some]
      dsimp only
      rw [decide_eq_true (by omega : (m : Int) > 0), cond_true, wad (by omega) (by omega), wad (by omega) (by omega), wad (by omega) (by omega), cutx_ok (by omega) him, cond_true, cutx_ok (by omega) hbm, cond_true, cutx_ok (by omega) hcm, cond_true, part_S (by rw [cutx_len (by omega) him]; omega) (by rw [cutx_len (by omega) hbm]; omega) (by rw [cutx_len (by omega) hcm]; omega), Option.bind_some]
      dsimp only
      rw [roomB_ok (by rw [List.length_cons, List.length_nil]; omega), cond_true]
      rfl
    refine Eq.trans (fix_go (B := fun d => b_S_l11Parts_4 d.1 d.2.1 d.2.2.1 d.2.2.2.1 d.2.2.2.2.1 d.2.2.2.2.2.1 d.2.2.2.2.2.2.1 d.2.2.2.2.2.2.2.1) hgo) ?_
    refine Eq.trans (ih (out ++ [prt a b c i (i + m) x (x + m) y (y + m)]) (by rw [List.length_append, List.length_cons, List.length_nil]; omega) him hbm hcm) ?_
    rw [List.append_assoc]
    rfl
  | @jump i x y k p q ps hik hk hn h1 h2 hne hxp hyq hp hq g ih =>
    intro out ho hi hx hy
    rw [List.length_cons] at ho
    have hnr : ¬ Ru a l r (i + 0) (x + 0) (y + 0) := by
      rintro ⟨q1, q2, q3⟩
      rw [Nat.add_zero] at q1 q2 q3
      rw [Nat.add_zero] at q2 q3
      have hbo : Bo l r i := ⟨by omega, by omega⟩
      have hki : k = i := by
        rcases Nat.lt_or_ge i k with h | h
        · exact absurd hbo (hn i (Nat.le_refl _) h)
        · omega
      subst hki
      obtain ⟨_, e1, e2⟩ := h1 q1
      omega
    have hgo : b_S_l11Parts_4 a b c (stdP a.length l r) out i x y = some (.inl (a, b, c, stdP a.length l r, out ++ [prt a b c i k x p y q], (k : Int), (p : Int), (q : Int), ())) := by
      unfold b_S_l11Parts_4
      rw [head (by omega), Option.bind_some]
      dsimp only
      rw [show w_S_l11Parts_6 (a, b, c, stdP a.length l r, out, (i : Int), (x : Int), (y : Int), 0, ()) = _ from run_S ha (by omega) (by omega) 0 (fun t ht => by omega) hnr (by omega), Option.bind_some]
      dsimp only
      rw [decide_eq_false (by omega : ¬ (((0 : Nat) : Int) > 0)), cond_false, next_P ha i k hik hk hn (fun q => (h1 q).1), Option.bind_some]
      dsimp only
      have hj : (bif (decide ((k : Int) < (a.length : Int))) then
                  bif inB (k : Int) (stdP a.length l r).length then
                    bif inB (k : Int) (stdP a.length l r).length then
                      some (a, b, c, stdP a.length l r, out, (i : Int), (x : Int), (y : Int), (k : Int), ((stdP a.length l r).getD ((k : Int)).toNat (dflt Y__2_int)).1, (((stdP a.length l r).getD ((k : Int)).toNat (dflt Y__2_int)).2).1, ())
                    else
                      none
                  else
                    none
                else
                  some (a, b, c, stdP a.length l r, out, (i : Int), (x : Int), (y : Int), (k : Int), (b.length : Int), (c.length : Int), ()) : Option ((PV S_string × PV S_string × PV S_string × PV S__2_int × PV S_impl_Part × PV (.int .i64) × PV (.int .i64) × PV (.int .i64) × PV (.int .i64) × PV (.int .i64) × PV (.int .i64) × Unit))) = some (a, b, c, stdP a.length l r, out, (i : Int), (x : Int), (y : Int), (k : Int), (p : Int), (q : Int), ()) := by
        by_cases hlt : k < a.length
        · obtain ⟨e0, e1, e2⟩ := h1 hlt
          rw [decide_eq_true (by omega : (k : Int) < (a.length : Int)), cond_true, inB_lt (by unfold stdP; rw [mkT_len]; exact hlt), cond_true, cond_true, toNat_cast, std_at hlt, bo_iff.2 e0, cond_true, ← e1, ← e2]
        · obtain ⟨e1, e2⟩ := h2 (by omega)
          rw [decide_eq_false (by omega : ¬ (k : Int) < (a.length : Int)), cond_false, e1, e2]
      rw [hj, Option.bind_some]
      dsimp only
      rw [cutx_ok hik hk, cond_true, cutx_ok hxp hp, cond_true, cutx_ok hyq hq, cond_true, part_S (by rw [cutx_len hik hk]; omega) (by rw [cutx_len hxp hp]; omega) (by rw [cutx_len hyq hq]; omega), Option.bind_some]
      dsimp only
      rw [roomB_ok (by rw [List.length_cons, List.length_nil]; omega), cond_true]
      rfl
    refine Eq.trans (fix_go (B := fun d => b_S_l11Parts_4 d.1 d.2.1 d.2.2.1 d.2.2.2.1 d.2.2.2.2.1 d.2.2.2.2.2.1 d.2.2.2.2.2.2.1 d.2.2.2.2.2.2.2.1) hgo) ?_
    refine Eq.trans (ih (out ++ [prt a b c i k x p y q]) (by rw [List.length_append, List.length_cons, List.length_nil]; omega) hk hp hq) ?_
    rw [List.append_assoc]
    rfl
end R
end

section
/- Parts: the program's. -/
open Go Go.Dn
namespace R
set_option linter.unusedVariables false
set_option linter.unusedSectionVars false

theorem run_I {a b c : TX} {l r : List Int} {out : List (PV Y_impl_Part)} {t x y : Nat} {u v : Int} {w : Bool} (ha : a.length ≤ 40) (hll : l.length = a.length) (hrl : r.length = a.length) (hx : x ≤ 40) (hy : y ≤ 40) (m : Nat) (h : ∀ s, s < m + 1 → Ru a l r (t + s) (x + s) (y + s)) (hs : ¬ Ru a l r (t + (m + 1)) (x + (m + 1)) (y + (m + 1))) (him : t + (m + 1) ≤ a.length) :
    w_I_partsOf_10 (a, b, c, out, l, r, (t : Int), (x : Int), (y : Int), ((t + 1 : Nat) : Int), u, v, w, ()) = some (a, b, c, out, l, r, (t : Int), (x : Int), (y : Int), ((t + (m + 1) : Nat) : Int), u, v, w, ()) := by
  have hF := fix_all (B := fun d => b_I_partsOf_10 d.1 d.2.1 d.2.2.1 d.2.2.2.1 d.2.2.2.2.1 d.2.2.2.2.2.1 d.2.2.2.2.2.2.1 d.2.2.2.2.2.2.2.1 d.2.2.2.2.2.2.2.2.1 d.2.2.2.2.2.2.2.2.2.1 d.2.2.2.2.2.2.2.2.2.2.1 d.2.2.2.2.2.2.2.2.2.2.2.1 d.2.2.2.2.2.2.2.2.2.2.2.2.1) (fun s => (a, b, c, out, l, r, (t : Int), (x : Int), (y : Int), ((t + (s + 1) : Nat) : Int), u, v, w, ())) m (r := (a, b, c, out, l, r, (t : Int), (x : Int), (y : Int), ((t + (m + 1) : Nat) : Int), u, v, w, ()))
    (fun s hsm => by
      obtain ⟨e1, e2, e3⟩ := h s (by omega)
      obtain ⟨f1, f2, f3⟩ := h (s + 1) (by omega)
      show b_I_partsOf_10 a b c out l r t x y ((t + (s + 1) : Nat) : Int) u v w = _
      unfold b_I_partsOf_10
      rw [decide_eq_true (by omega : ((t + (s + 1) : Nat) : Int) < (a.length : Int)), cond_true, inB_lt (by omega : t + (s + 1) < l.length), cond_true, show IntKind.wrap .i64 (((t + (s + 1) : Nat) : Int) - 1) = ((t + s : Nat) : Int) from by rw [wrap64 (by omega) (by omega)]; omega, inB_lt (by omega : t + s < l.length), cond_true, toNat_cast, toNat_cast, f2, e2, wrap64 (x := ((x + s : Nat) : Int) + 1) (by omega) (by omega),
        show (((x + (s + 1) : Nat) : Int) == ((x + s : Nat) : Int) + 1) = true from by rw [beq_iff_eq]; omega, cond_true, inB_lt (by omega : t + (s + 1) < r.length), cond_true, inB_lt (by omega : t + s < r.length), cond_true, f3, e3, wrap64 (x := ((y + s : Nat) : Int) + 1) (by omega) (by omega), show (((y + (s + 1) : Nat) : Int) == ((y + s : Nat) : Int) + 1) = true from by rw [beq_iff_eq]; omega, cond_true, wrap64 (x := ((t + (s + 1) : Nat) : Int) + 1) (by omega) (by omega)]
      rfl)
    (by
      obtain ⟨e1, e2, e3⟩ := h m (by omega)
      show b_I_partsOf_10 a b c out l r t x y ((t + (m + 1) : Nat) : Int) u v w = _
      unfold b_I_partsOf_10
      by_cases hlt : t + (m + 1) < a.length
      · rw [decide_eq_true (by omega : ((t + (m + 1) : Nat) : Int) < (a.length : Int)), cond_true, inB_lt (by omega : t + (m + 1) < l.length), cond_true, show IntKind.wrap .i64 (((t + (m + 1) : Nat) : Int) - 1) = ((t + m : Nat) : Int) from by rw [wrap64 (by omega) (by omega)]; omega, inB_lt (by omega : t + m < l.length), cond_true, toNat_cast, toNat_cast, e2, wrap64 (x := ((x + m : Nat) : Int) + 1) (by omega) (by omega)]
        by_cases hl : l.getD (t + (m + 1)) 0 = ((x + (m + 1) : Nat) : Int)
        · rw [hl, show (((x + (m + 1) : Nat) : Int) == ((x + m : Nat) : Int) + 1) = true from by rw [beq_iff_eq]; omega, cond_true, inB_lt (by omega : t + (m + 1) < r.length), cond_true, inB_lt (by omega : t + m < r.length), cond_true, e3, wrap64 (x := ((y + m : Nat) : Int) + 1) (by omega) (by omega)]
          rw [show (r.getD (t + (m + 1)) 0 == ((y + m : Nat) : Int) + 1) = false from by
            rw [beq_eq_false_iff_ne]
            intro q
            exact hs ⟨hlt, hl, by omega⟩, cond_false]
        · rw [show (l.getD (t + (m + 1)) 0 == ((x + m : Nat) : Int) + 1) = false from by rw [beq_eq_false_iff_ne]; omega, cond_false]
      · rw [decide_eq_false (by omega : ¬ ((t + (m + 1) : Nat) : Int) < (a.length : Int)), cond_false])
  exact hF

section
variable {a b c : TX} {l r : List Int} (ha : a.length ≤ 40) (hb : b.length ≤ 40) (hc : c.length ≤ 40) (hll : l.length = a.length) (hrl : r.length = a.length)
include ha hb hc hll hrl

theorem skip_I {out : List (PV Y_impl_Part)} {i x y t : Nat} (ht : t < a.length) (hn : ¬ Bo l r t) : b_I_partsOf_5 a b c out l r i x y t = some (.inl (a, b, c, out, l, r, (i : Int), (x : Int), (y : Int), ((t + 1 : Nat) : Int), ())) := by
  unfold b_I_partsOf_5
  rw [decide_eq_true (by omega : (t : Int) < (a.length : Int)), cond_true, inB_lt (by omega : t < l.length), cond_true, toNat_cast]
  by_cases h1 : l.getD t 0 < 0
  · rw [decide_eq_true h1, cond_true, Option.bind_some]
    dsimp only
    rw [wrap64 (x := (t : Int) + 1) (by omega) (by omega)]
    rfl
  · rw [decide_eq_false h1, cond_false, inB_lt (by omega : t < r.length), cond_true, decide_eq_true (by
      by_cases q : r.getD t 0 < 0
      · exact q
      · exact absurd ⟨by omega, by omega⟩ hn : r.getD t 0 < 0), cond_true, Option.bind_some]
    dsimp only
    rw [wrap64 (x := (t : Int) + 1) (by omega) (by omega)]
    rfl

theorem same_I {out : List (PV Y_impl_Part)} {t x y m : Nat} (hm : 0 < m) (h : ∀ s, s < m → Ru a l r (t + s) (x + s) (y + s)) (hs : ¬ Ru a l r (t + m) (x + m) (y + m)) (him : t + m ≤ a.length) (hbm : x + m ≤ b.length) (hcm : y + m ≤ c.length) (ho : out.length ≤ 1000) :
    b_I_partsOf_5 a b c out l r t x y t = some (.inl (a, b, c, out ++ [prt a b c t (t + m) x (x + m) y (y + m)], l, r, ((t + m : Nat) : Int), ((x + m : Nat) : Int), ((y + m : Nat) : Int), ((t + m : Nat) : Int), ())) := by
  obtain ⟨m, rfl⟩ : ∃ k, m = k + 1 := ⟨m - 1, by omega⟩
  obtain ⟨e1, e2, e3⟩ := h 0 (by omega)
  obtain ⟨f1, f2, f3⟩ := h m (by omega)
  simp only [Nat.add_zero] at e1 e2 e3
  unfold b_I_partsOf_5
  rw [decide_eq_true (by omega : (t : Int) < (a.length : Int)), cond_true, inB_lt (by omega : t < l.length), cond_true, toNat_cast, e2, decide_eq_false (by omega : ¬ ((x : Int) < 0)), cond_false, inB_lt (by omega : t < r.length), cond_true, e3, decide_eq_false (by omega : ¬ ((y : Int) < 0)), cond_false, cond_true, cond_true,
    decide_eq_false (by omega : ¬ ((t : Int) > (t : Int))), cond_false, decide_eq_false (by omega : ¬ ((x : Int) > (x : Int))), cond_false, decide_eq_false (by omega : ¬ ((y : Int) > (y : Int))), Option.bind_some]
  dsimp only
  rw [cond_false, Option.bind_some]
  dsimp only
  rw [show IntKind.wrap .i64 ((t : Int) + 1) = ((t + 1 : Nat) : Int) from by rw [wrap64 (by omega) (by omega)]; omega, run_I ha hll hrl (by omega) (by omega) m h hs him, Option.bind_some]
  dsimp only
  rw [show IntKind.wrap .i64 (((t + (m + 1) : Nat) : Int) - 1) = ((t + m : Nat) : Int) from by rw [wrap64 (by omega) (by omega)]; omega, inB_lt (by omega : t + m < l.length), cond_true, inB_lt (by omega : t + m < r.length), cond_true, decide_eq_true (by omega : ((t + (m + 1) : Nat) : Int) > (t : Int)), cond_true, Option.bind_some]
  dsimp only
  rw [toNat_cast, f2, f3, show IntKind.wrap .i64 (((x + m : Nat) : Int) + 1) = ((x + (m + 1) : Nat) : Int) from by rw [wrap64 (by omega) (by omega)]; omega, show IntKind.wrap .i64 (((y + m : Nat) : Int) + 1) = ((y + (m + 1) : Nat) : Int) from by rw [wrap64 (by omega) (by omega)]; omega, cond_true, cutx_ok (by omega) him, cond_true, cutx_ok (by omega) hbm, cond_true, cutx_ok (by omega) hcm, cond_true, kind_I (by rw [cutx_len (by omega) him]; omega) (by rw [cutx_len (by omega) hbm]; omega) (by rw [cutx_len (by omega) hcm]; omega) (by rw [cutx_len (by omega) him, cutx_len (by omega) hbm, cutx_len (by omega) hcm]; omega), Option.bind_some]
  dsimp only
  rw [cond_true, own_Ix _ (by rw [cutx_len (by omega) hbm]; omega), Option.bind_some]
  dsimp only
  rw [cond_true, own_Ix _ (by rw [cutx_len (by omega) hcm]; omega), Option.bind_some]
  dsimp only
  rw [roomB_ok (by rw [List.length_cons, List.length_nil]; omega), cond_true, Option.bind_some]
  dsimp only
  rw [Option.bind_some]
  dsimp only
  rw [show IntKind.wrap .i64 (((t + (m + 1) : Nat) : Int) - 1) = ((t + m : Nat) : Int) from by rw [wrap64 (by omega) (by omega)]; omega, show IntKind.wrap .i64 (((t + m : Nat) : Int) + 1) = ((t + (m + 1) : Nat) : Int) from by rw [wrap64 (by omega) (by omega)]; omega]
  rfl
end
end R
end

section
/- Parts: the program's loop, and the law. -/
open Go Go.Dn
namespace R
set_option linter.unusedVariables false
set_option linter.unusedSectionVars false

section
variable {a b c : TX} {l r : List Int} (ha : a.length ≤ 40) (hb : b.length ≤ 40) (hc : c.length ≤ 40) (hll : l.length = a.length) (hrl : r.length = a.length)
include ha hb hc hll hrl

theorem jump_I {out : List (PV Y_impl_Part)} {i x y t p q m : Nat} (hit : i ≤ t) (hxp : x ≤ p) (hyq : y ≤ q) (hne : i < t ∨ x < p ∨ y < q) (hm : 0 < m) (h : ∀ s, s < m → Ru a l r (t + s) (p + s) (q + s)) (hs : ¬ Ru a l r (t + m) (p + m) (q + m)) (him : t + m ≤ a.length) (hbm : p + m ≤ b.length) (hcm : q + m ≤ c.length) (ho : out.length ≤ 1000) :
    b_I_partsOf_5 a b c out l r i x y t = some (.inl (a, b, c, (out ++ [prt a b c i t x p y q]) ++ [prt a b c t (t + m) p (p + m) q (q + m)], l, r, ((t + m : Nat) : Int), ((p + m : Nat) : Int), ((q + m : Nat) : Int), ((t + m : Nat) : Int), ())) := by
  obtain ⟨m, rfl⟩ : ∃ k, m = k + 1 := ⟨m - 1, by omega⟩
  obtain ⟨e1, e2, e3⟩ := h 0 (by omega)
  obtain ⟨f1, f2, f3⟩ := h m (by omega)
  have hpb : p ≤ b.length := by omega
  have hqc : q ≤ c.length := by omega
  simp only [Nat.add_zero] at e1 e2 e3
  unfold b_I_partsOf_5
  rw [decide_eq_true (by omega : (t : Int) < (a.length : Int)), cond_true, inB_lt (by omega : t < l.length), cond_true, toNat_cast, e2, decide_eq_false (by omega : ¬ ((p : Int) < 0)), cond_false, inB_lt (by omega : t < r.length), cond_true, e3, decide_eq_false (by omega : ¬ ((q : Int) < 0)), cond_false, cond_true, cond_true]
  have hcase : (t : Int) > (i : Int) ∨ (¬ ((t : Int) > (i : Int)) ∧ (p : Int) > (x : Int)) ∨ (¬ ((t : Int) > (i : Int)) ∧ ¬ ((p : Int) > (x : Int)) ∧ (q : Int) > (y : Int)) := by omega
  rcases hcase with g1 | ⟨g1, g2⟩ | ⟨g1, g2, g3⟩
  · rw [decide_eq_true g1, cond_true, Option.bind_some]
    dsimp only
    rw [cond_true, cutx_ok hit (by omega), cond_true, cutx_ok hxp hpb, cond_true, cutx_ok hyq hqc, cond_true, kind_I (by rw [cutx_len hit (by omega)]; omega) (by rw [cutx_len hxp hpb]; omega) (by rw [cutx_len hyq hqc]; omega) (by rw [cutx_len hit (by omega), cutx_len hxp hpb, cutx_len hyq hqc]; omega), Option.bind_some]
    dsimp only
    rw [cond_true, own_Ix _ (by rw [cutx_len hxp hpb]; omega), Option.bind_some]
    dsimp only
    rw [cond_true, own_Ix _ (by rw [cutx_len hyq hqc]; omega), Option.bind_some]
    dsimp only
    rw [roomB_ok (by rw [List.length_cons, List.length_nil]; omega), cond_true, Option.bind_some]
    dsimp only
    rw [show IntKind.wrap .i64 ((t : Int) + 1) = ((t + 1 : Nat) : Int) from by rw [wrap64 (by omega) (by omega)]; omega, run_I ha hll hrl (by omega) (by omega) m h hs him, Option.bind_some]
    dsimp only
    rw [show IntKind.wrap .i64 (((t + (m + 1) : Nat) : Int) - 1) = ((t + m : Nat) : Int) from by rw [wrap64 (by omega) (by omega)]; omega, inB_lt (by omega : t + m < l.length), cond_true, inB_lt (by omega : t + m < r.length), cond_true, decide_eq_true (by omega : ((t + (m + 1) : Nat) : Int) > (t : Int)), cond_true, Option.bind_some]
    dsimp only
    rw [toNat_cast, f2, f3, show IntKind.wrap .i64 (((p + m : Nat) : Int) + 1) = ((p + (m + 1) : Nat) : Int) from by rw [wrap64 (by omega) (by omega)]; omega, show IntKind.wrap .i64 (((q + m : Nat) : Int) + 1) = ((q + (m + 1) : Nat) : Int) from by rw [wrap64 (by omega) (by omega)]; omega, cond_true, cutx_ok (by omega) him, cond_true, cutx_ok (by omega) hbm, cond_true, cutx_ok (by omega) hcm, cond_true, kind_I (by rw [cutx_len (by omega) him]; omega) (by rw [cutx_len (by omega) hbm]; omega) (by rw [cutx_len (by omega) hcm]; omega) (by rw [cutx_len (by omega) him, cutx_len (by omega) hbm, cutx_len (by omega) hcm]; omega), Option.bind_some]
    dsimp only
    rw [cond_true, own_Ix _ (by rw [cutx_len (by omega) hbm]; omega), Option.bind_some]
    dsimp only
    rw [cond_true, own_Ix _ (by rw [cutx_len (by omega) hcm]; omega), Option.bind_some]
    dsimp only
    rw [roomB_ok (by rw [List.length_append, List.length_cons, List.length_nil, List.length_cons, List.length_nil]; omega), cond_true, Option.bind_some]
    dsimp only
    rw [Option.bind_some]
    dsimp only
    rw [show IntKind.wrap .i64 (((t + (m + 1) : Nat) : Int) - 1) = ((t + m : Nat) : Int) from by rw [wrap64 (by omega) (by omega)]; omega, show IntKind.wrap .i64 (((t + m : Nat) : Int) + 1) = ((t + (m + 1) : Nat) : Int) from by rw [wrap64 (by omega) (by omega)]; omega]
    rfl
  · rw [decide_eq_false g1, cond_false, decide_eq_true g2, cond_true, Option.bind_some]
    dsimp only
    rw [cond_true, cutx_ok hit (by omega), cond_true, cutx_ok hxp hpb, cond_true, cutx_ok hyq hqc, cond_true, kind_I (by rw [cutx_len hit (by omega)]; omega) (by rw [cutx_len hxp hpb]; omega) (by rw [cutx_len hyq hqc]; omega) (by rw [cutx_len hit (by omega), cutx_len hxp hpb, cutx_len hyq hqc]; omega), Option.bind_some]
    dsimp only
    rw [cond_true, own_Ix _ (by rw [cutx_len hxp hpb]; omega), Option.bind_some]
    dsimp only
    rw [cond_true, own_Ix _ (by rw [cutx_len hyq hqc]; omega), Option.bind_some]
    dsimp only
    rw [roomB_ok (by rw [List.length_cons, List.length_nil]; omega), cond_true, Option.bind_some]
    dsimp only
    rw [show IntKind.wrap .i64 ((t : Int) + 1) = ((t + 1 : Nat) : Int) from by rw [wrap64 (by omega) (by omega)]; omega, run_I ha hll hrl (by omega) (by omega) m h hs him, Option.bind_some]
    dsimp only
    rw [show IntKind.wrap .i64 (((t + (m + 1) : Nat) : Int) - 1) = ((t + m : Nat) : Int) from by rw [wrap64 (by omega) (by omega)]; omega, inB_lt (by omega : t + m < l.length), cond_true, inB_lt (by omega : t + m < r.length), cond_true, decide_eq_true (by omega : ((t + (m + 1) : Nat) : Int) > (t : Int)), cond_true, Option.bind_some]
    dsimp only
    rw [toNat_cast, f2, f3, show IntKind.wrap .i64 (((p + m : Nat) : Int) + 1) = ((p + (m + 1) : Nat) : Int) from by rw [wrap64 (by omega) (by omega)]; omega, show IntKind.wrap .i64 (((q + m : Nat) : Int) + 1) = ((q + (m + 1) : Nat) : Int) from by rw [wrap64 (by omega) (by omega)]; omega, cond_true, cutx_ok (by omega) him, cond_true, cutx_ok (by omega) hbm, cond_true, cutx_ok (by omega) hcm, cond_true, kind_I (by rw [cutx_len (by omega) him]; omega) (by rw [cutx_len (by omega) hbm]; omega) (by rw [cutx_len (by omega) hcm]; omega) (by rw [cutx_len (by omega) him, cutx_len (by omega) hbm, cutx_len (by omega) hcm]; omega), Option.bind_some]
    dsimp only
    rw [cond_true, own_Ix _ (by rw [cutx_len (by omega) hbm]; omega), Option.bind_some]
    dsimp only
    rw [cond_true, own_Ix _ (by rw [cutx_len (by omega) hcm]; omega), Option.bind_some]
    dsimp only
    rw [roomB_ok (by rw [List.length_append, List.length_cons, List.length_nil, List.length_cons, List.length_nil]; omega), cond_true, Option.bind_some]
    dsimp only
    rw [Option.bind_some]
    dsimp only
    rw [show IntKind.wrap .i64 (((t + (m + 1) : Nat) : Int) - 1) = ((t + m : Nat) : Int) from by rw [wrap64 (by omega) (by omega)]; omega, show IntKind.wrap .i64 (((t + m : Nat) : Int) + 1) = ((t + (m + 1) : Nat) : Int) from by rw [wrap64 (by omega) (by omega)]; omega]
    rfl
  · rw [decide_eq_false g1, cond_false, decide_eq_false g2, cond_false, decide_eq_true g3, Option.bind_some]
    dsimp only
    rw [cond_true, cutx_ok hit (by omega), cond_true, cutx_ok hxp hpb, cond_true, cutx_ok hyq hqc, cond_true, kind_I (by rw [cutx_len hit (by omega)]; omega) (by rw [cutx_len hxp hpb]; omega) (by rw [cutx_len hyq hqc]; omega) (by rw [cutx_len hit (by omega), cutx_len hxp hpb, cutx_len hyq hqc]; omega), Option.bind_some]
    dsimp only
    rw [cond_true, own_Ix _ (by rw [cutx_len hxp hpb]; omega), Option.bind_some]
    dsimp only
    rw [cond_true, own_Ix _ (by rw [cutx_len hyq hqc]; omega), Option.bind_some]
    dsimp only
    rw [roomB_ok (by rw [List.length_cons, List.length_nil]; omega), cond_true, Option.bind_some]
    dsimp only
    rw [show IntKind.wrap .i64 ((t : Int) + 1) = ((t + 1 : Nat) : Int) from by rw [wrap64 (by omega) (by omega)]; omega, run_I ha hll hrl (by omega) (by omega) m h hs him, Option.bind_some]
    dsimp only
    rw [show IntKind.wrap .i64 (((t + (m + 1) : Nat) : Int) - 1) = ((t + m : Nat) : Int) from by rw [wrap64 (by omega) (by omega)]; omega, inB_lt (by omega : t + m < l.length), cond_true, inB_lt (by omega : t + m < r.length), cond_true, decide_eq_true (by omega : ((t + (m + 1) : Nat) : Int) > (t : Int)), cond_true, Option.bind_some]
    dsimp only
    rw [toNat_cast, f2, f3, show IntKind.wrap .i64 (((p + m : Nat) : Int) + 1) = ((p + (m + 1) : Nat) : Int) from by rw [wrap64 (by omega) (by omega)]; omega, show IntKind.wrap .i64 (((q + m : Nat) : Int) + 1) = ((q + (m + 1) : Nat) : Int) from by rw [wrap64 (by omega) (by omega)]; omega, cond_true, cutx_ok (by omega) him, cond_true, cutx_ok (by omega) hbm, cond_true, cutx_ok (by omega) hcm, cond_true, kind_I (by rw [cutx_len (by omega) him]; omega) (by rw [cutx_len (by omega) hbm]; omega) (by rw [cutx_len (by omega) hcm]; omega) (by rw [cutx_len (by omega) him, cutx_len (by omega) hbm, cutx_len (by omega) hcm]; omega), Option.bind_some]
    dsimp only
    rw [cond_true, own_Ix _ (by rw [cutx_len (by omega) hbm]; omega), Option.bind_some]
    dsimp only
    rw [cond_true, own_Ix _ (by rw [cutx_len (by omega) hcm]; omega), Option.bind_some]
    dsimp only
    rw [roomB_ok (by rw [List.length_append, List.length_cons, List.length_nil, List.length_cons, List.length_nil]; omega), cond_true, Option.bind_some]
    dsimp only
    rw [Option.bind_some]
    dsimp only
    rw [show IntKind.wrap .i64 (((t + (m + 1) : Nat) : Int) - 1) = ((t + m : Nat) : Int) from by rw [wrap64 (by omega) (by omega)]; omega, show IntKind.wrap .i64 (((t + m : Nat) : Int) + 1) = ((t + (m + 1) : Nat) : Int) from by rw [wrap64 (by omega) (by omega)]; omega]
    rfl
end
end R
end

section
/- Parts: there are some, and both sides make them. -/
open Go Go.Dn
namespace R
set_option linter.unusedVariables false
set_option linter.unusedSectionVars false

theorem fold_set : ∀ (xs : List (Nat × Nat)) (o : List Int) (k : Nat), (xs.foldl setP o).getD k 0 = o.getD k 0 ∨ ∃ p ∈ xs, p.1 = k ∧ (xs.foldl setP o).getD k 0 = (p.2 : Int)
  | [], o, k => .inl rfl
  | x :: xs, o, k => by
    rw [List.foldl_cons]
    rcases fold_set xs (setP o x) k with h | ⟨p, hp, h1, h2⟩
    · rw [h]
      unfold setP
      by_cases hk : x.1 = k ∧ k < o.length
      · right
        refine ⟨x, List.mem_cons_self .., hk.1, ?_⟩
        rw [List.getD_eq_getElem?_getD, ← hk.1, List.getElem?_set_self (by rw [hk.1]; exact hk.2)]
        rfl
      · left
        rw [List.getD_eq_getElem?_getD, List.getD_eq_getElem?_getD, List.getElem?_set]
        split
        · rename_i e
          rw [e, if_neg (fun q => hk ⟨e, q⟩), List.getElem?_eq_none (Nat.le_of_not_lt fun q => hk ⟨e, q⟩)]
        · rfl
    · exact .inr ⟨p, List.mem_cons_of_mem _ hp, h1, h2⟩


theorem pairs_ge {a b : TX} : ∀ (n i j : Nat), i ≤ a.length → j ≤ b.length → T a b i j = n → ∀ p ∈ pairsF a b n i j, i ≤ p.1 ∧ j ≤ p.2
  | 0, i, j, hi, hj, hT, p, hp => by simp [pairsF] at hp
  | n + 1, i, j, hi, hj, hT, p, hp => by
    obtain ⟨s1, s2, s3, s4, s5, s6, s7⟩ := next_spec hi hj (by omega : 0 < T a b i j)
    simp only [pairsF, List.mem_cons] at hp
    rcases hp with rfl | hp
    · exact ⟨s1, s3⟩
    · have := pairs_ge n _ _ (by omega) (by omega) (next_T hi hj hT) p hp
      omega
theorem pairs_up {a b : TX} : ∀ (n i j : Nat), i ≤ a.length → j ≤ b.length → T a b i j = n → ∀ p ∈ pairsF a b n i j, ∀ q ∈ pairsF a b n i j, p.1 < q.1 → p.2 < q.2
  | 0, i, j, hi, hj, hT, p, hp => by simp [pairsF] at hp
  | n + 1, i, j, hi, hj, hT, p, hp => by
    intro q hq hlt
    obtain ⟨s1, s2, s3, s4, s5, s6, s7⟩ := next_spec hi hj (by omega : 0 < T a b i j)
    have hT' := next_T hi hj hT
    simp only [pairsF, List.mem_cons] at hp hq
    rcases hp with rfl | hp
    · rcases hq with rfl | hq
      · omega
      · have := pairs_ge n _ _ (by omega) (by omega) hT' q hq
        omega
    · rcases hq with rfl | hq
      · have := pairs_ge n _ _ (by omega) (by omega) hT' p hp
        omega
      · exact pairs_up n _ _ (by omega) (by omega) hT' p hp q hq hlt

theorem mate_pair {a b : TX} {k : Nat} (hk : k < a.length) (h0 : 0 ≤ (matesP a b).getD k 0) : ∃ p ∈ pairsP a b, p.1 = k ∧ (matesP a b).getD k 0 = (p.2 : Int) := by
  rcases fold_set (pairsP a b) (List.replicate a.length (-1)) k with h | h
  · exfalso
    have h' : (matesP a b).getD k 0 = (List.replicate a.length (-1 : Int)).getD k 0 := h
    rw [rep_get, if_pos hk] at h'
    omega
  · exact h
theorem mate_up {a b : TX} {k k' : Nat} (hk : k < a.length) (hk' : k' < a.length) (h0 : 0 ≤ (matesP a b).getD k 0) (h0' : 0 ≤ (matesP a b).getD k' 0) (hlt : k < k') : (matesP a b).getD k 0 < (matesP a b).getD k' 0 := by
  obtain ⟨p, hp, p1, p2⟩ := mate_pair hk h0
  obtain ⟨q, hq, q1, q2⟩ := mate_pair hk' h0'
  have := pairs_up _ 0 0 (Nat.zero_le _) (Nat.zero_le _) rfl p hp q hq (by omega)
  omega
theorem mate_in {a b : TX} {k : Nat} (hk : k < a.length) (h0 : 0 ≤ (matesP a b).getD k 0) : (matesP a b).getD k 0 < (b.length : Int) := by
  obtain ⟨p, hp, p1, p2⟩ := mate_pair hk h0
  have := (pairsP_in hp).2
  omega

theorem run_ex {a : TX} {l r : List Int} : ∀ (f i x y : Nat), a.length - i ≤ f → ∃ m, (∀ t, t < m → Ru a l r (i + t) (x + t) (y + t)) ∧ ¬ Ru a l r (i + m) (x + m) (y + m)
  | 0, i, x, y, hf => ⟨0, fun t ht => by omega, fun q => by have := q.1; omega⟩
  | f + 1, i, x, y, hf => by
    by_cases h : Ru a l r i x y
    · obtain ⟨m, h1, h2⟩ := run_ex (a := a) (l := l) (r := r) f (i + 1) (x + 1) (y + 1) (by omega)
      refine ⟨m + 1, fun t ht => ?_, fun q => h2 (by rw [show i + 1 + m = i + (m + 1) from by omega, show x + 1 + m = x + (m + 1) from by omega, show y + 1 + m = y + (m + 1) from by omega]; exact q)⟩
      cases t with
      | zero => exact h
      | succ t =>
        have := h1 t (by omega)
        rw [show i + 1 + t = i + (t + 1) from by omega, show x + 1 + t = x + (t + 1) from by omega, show y + 1 + t = y + (t + 1) from by omega] at this
        exact this
    · exact ⟨0, fun t ht => by omega, h⟩
theorem nxt_ex {a : TX} {l r : List Int} : ∀ (f i : Nat), a.length - i ≤ f → i ≤ a.length → ∃ k, i ≤ k ∧ k ≤ a.length ∧ (∀ t, i ≤ t → t < k → ¬ Bo l r t) ∧ (k < a.length → Bo l r k)
  | 0, i, hf, hi => ⟨i, Nat.le_refl _, hi, fun t _ _ => by omega, fun _ => by omega⟩
  | f + 1, i, hf, hi => by
    by_cases hlt : i < a.length
    · by_cases h : Bo l r i
      · exact ⟨i, Nat.le_refl _, hi, fun t _ _ => by omega, fun _ => h⟩
      · obtain ⟨k, k1, k2, k3, k4⟩ := nxt_ex (a := a) (l := l) (r := r) f (i + 1) (by omega) (by omega)
        refine ⟨k, by omega, k2, fun t h1 h2 => ?_, k4⟩
        rcases Nat.eq_or_lt_of_le h1 with rfl | h1
        · exact h
        · exact k3 t h1 h2
    · exact ⟨i, Nat.le_refl _, hi, fun t _ _ => by omega, fun q => absurd q hlt⟩

theorem go_ex {a b c : TX} : ∀ (M i x y : Nat), (a.length - i) + (b.length - x) + (c.length - y) ≤ M → i ≤ a.length → x ≤ b.length → y ≤ c.length →
    (∀ u, i ≤ u → u < a.length → Bo (matesP a b) (matesP a c) u → (x : Int) ≤ (matesP a b).getD u 0 ∧ (y : Int) ≤ (matesP a c).getD u 0) → ∃ ps, GoP a b c (matesP a b) (matesP a c) i x y ps ∧ ps.length ≤ M := by
  intro M
  induction M with
  | zero =>
    intro i x y hM hi hx hy hI
    obtain rfl : i = a.length := by omega
    obtain rfl : x = b.length := by omega
    obtain rfl : y = c.length := by omega
    exact ⟨[], .stop, Nat.le_refl _⟩
  | succ M ih =>
    intro i x y hM hi hx hy hI
    by_cases hr : Ru a (matesP a b) (matesP a c) i x y
    · obtain ⟨m, m1, m2⟩ := run_ex (a := a) (l := matesP a b) (r := matesP a c) (a.length - i) i x y (Nat.le_refl _)
      have hm : 0 < m := by
        rcases Nat.eq_zero_or_pos m with rfl | h
        · exact absurd hr m2
        · exact h
      obtain ⟨e1, e2, e3⟩ := m1 (m - 1) (by omega)
      have i1 := mate_in e1 (by omega : 0 ≤ (matesP a b).getD (i + (m - 1)) 0)
      have i2 := mate_in e1 (by omega : 0 ≤ (matesP a c).getD (i + (m - 1)) 0)
      obtain ⟨ps, g, gl⟩ := ih (i + m) (x + m) (y + m) (by omega) (by omega) (by omega) (by omega) fun u hu hun hbo => by
        have u1 := mate_up e1 hun (by omega) hbo.1 (by omega : i + (m - 1) < u)
        have u2 := mate_up e1 hun (by omega) hbo.2 (by omega : i + (m - 1) < u)
        omega
      exact ⟨_, .run hm m1 m2 (by omega) (by omega) (by omega) g, by rw [List.length_cons]; omega⟩
    · by_cases hst : i = a.length ∧ x = b.length ∧ y = c.length
      · obtain ⟨rfl, rfl, rfl⟩ := hst
        exact ⟨[], .stop, Nat.zero_le _⟩
      · obtain ⟨k, k1, k2, k3, k4⟩ := nxt_ex (a := a) (l := matesP a b) (r := matesP a c) (a.length - i) i (Nat.le_refl _) hi
        by_cases hk : k < a.length
        · have hb := k4 hk
          have hI' := hI k k1 hk hb
          have i1 := mate_in hk hb.1
          have i2 := mate_in hk hb.2
          obtain ⟨p, hp⟩ := Int.eq_ofNat_of_zero_le hb.1
          obtain ⟨q, hq⟩ := Int.eq_ofNat_of_zero_le hb.2
          rw [hp] at hI' i1
          rw [hq] at hI' i2
          have hne : i < k ∨ x < p ∨ y < q := by
            rcases Nat.eq_or_lt_of_le k1 with rfl | h
            · by_cases hpq : p = x ∧ q = y
              · exact absurd ⟨hk, by rw [hp, hpq.1], by rw [hq, hpq.2]⟩ hr
              · omega
            · exact .inl h
          obtain ⟨ps, g, gl⟩ := ih k p q (by omega) k2 (by omega) (by omega) fun u hu hun hbo => by
            rcases Nat.eq_or_lt_of_le hu with rfl | h
            · rw [hp, hq]; omega
            · have u1 := mate_up hk hun hb.1 hbo.1 h
              have u2 := mate_up hk hun hb.2 hbo.2 h
              omega
          exact ⟨_, .jump k1 k2 k3 (fun _ => ⟨hb, hp, hq⟩) (fun e => by omega) hne (by omega) (by omega) (by omega) (by omega) g, by rw [List.length_cons]; omega⟩
        · obtain rfl : k = a.length := by omega
          exact ⟨_, .jump k1 k2 k3 (fun e => absurd e hk) (fun _ => ⟨rfl, rfl⟩) (by omega) hx hy (Nat.le_refl _) (Nat.le_refl _) .stop, by rw [List.length_cons, List.length_nil]; omega⟩

section
variable {a b c : TX} {l r : List Int} (ha : a.length ≤ 40) (hb : b.length ≤ 40) (hc : c.length ≤ 40) (hll : l.length = a.length) (hrl : r.length = a.length)
include ha hb hc hll hrl

theorem loop_I : ∀ (f : Nat) {out : List (PV Y_impl_Part)} {i x y t : Nat} {ps : List (PV Y_impl_Part)}, a.length - t ≤ f → i ≤ t → t ≤ a.length → (∀ u, i ≤ u → u < t → ¬ Bo l r u) → GoP a b c l r i x y ps → x ≤ b.length → y ≤ c.length → out.length + ps.length ≤ 1000 →
    ∃ (i' x' y' : Nat) (out' ps' : List (PV Y_impl_Part)), w_I_partsOf_5 (a, b, c, out, l, r, (i : Int), (x : Int), (y : Int), (t : Int), ()) = some (a, b, c, out', (i' : Int), (x' : Int), (y' : Int), ()) ∧ GoP a b c l r i' x' y' ps' ∧ out ++ ps = out' ++ ps' ∧
      (∀ u, i' ≤ u → u < a.length → ¬ Bo l r u) ∧ i' ≤ a.length ∧ x' ≤ b.length ∧ y' ≤ c.length ∧ out'.length + ps'.length ≤ 1000 := by
  have stop : ∀ {out : List (PV Y_impl_Part)} {i x y : Nat}, w_I_partsOf_5 (a, b, c, out, l, r, (i : Int), (x : Int), (y : Int), (a.length : Int), ()) = some (a, b, c, out, (i : Int), (x : Int), (y : Int), ()) := by
    intro out i x y
    refine fix_end (B := fun d => b_I_partsOf_5 d.1 d.2.1 d.2.2.1 d.2.2.2.1 d.2.2.2.2.1 d.2.2.2.2.2.1 d.2.2.2.2.2.2.1 d.2.2.2.2.2.2.2.1 d.2.2.2.2.2.2.2.2.1 d.2.2.2.2.2.2.2.2.2.1) ?_
    show b_I_partsOf_5 a b c out l r i x y a.length = _
    unfold b_I_partsOf_5
    rw [decide_eq_false (Int.lt_irrefl _), cond_false]
  have bo_ru : ∀ {i x y : Nat}, Ru a l r i x y → Bo l r i := fun h => ⟨by have := h.2.1; omega, by have := h.2.2; omega⟩
  intro f
  induction f with
  | zero =>
    intro out i x y t ps hf hit hta hn g hx hy ho
    obtain rfl : t = a.length := by omega
    exact ⟨i, x, y, out, ps, stop, g, rfl, hn, hit, hx, hy, ho⟩
  | succ f ih =>
    intro out i x y t ps hf hit hta hn g hx hy ho
    by_cases hlt : t < a.length
    · by_cases hbo : Bo l r t
      · cases g with
        | stop => omega
        | @run _ _ _ m ps hm h hs hbm hcm him g =>
          obtain rfl : i = t := by
            rcases Nat.eq_or_lt_of_le hit with e | e
            · exact e
            · exact absurd (bo_ru (h 0 hm)) (hn i (Nat.le_refl _) e)
          rw [List.length_cons] at ho
          obtain ⟨i', x', y', out', ps', q1, q2, q3, q4⟩ := ih (ps := ps) (out := out ++ [prt a b c i (i + m) x (x + m) y (y + m)]) (t := i + m) (by omega) (Nat.le_refl _) him (fun u _ _ => by omega) g hbm hcm (by simp only [List.length_append, List.length_cons, List.length_nil]; omega)
          refine ⟨i', x', y', out', ps', ?_, q2, by rw [← q3, List.append_assoc]; rfl, q4⟩
          exact Eq.trans (fix_go (B := fun d => b_I_partsOf_5 d.1 d.2.1 d.2.2.1 d.2.2.2.1 d.2.2.2.2.1 d.2.2.2.2.2.1 d.2.2.2.2.2.2.1 d.2.2.2.2.2.2.2.1 d.2.2.2.2.2.2.2.2.1 d.2.2.2.2.2.2.2.2.2.1) (same_I (out := out) ha hb hc hll hrl hm h hs him hbm hcm (by omega))) q1
        | @jump _ _ _ k p q ps hik hk hnk h1 h2 hne hxp hyq hp hq g =>
          obtain rfl : k = t := by
            rcases Nat.lt_trichotomy k t with e | e | e
            · exact absurd (h1 (by omega)).1 (hn k hik e)
            · exact e
            · exact absurd hbo (hnk t hit e)
          obtain ⟨_, e1, e2⟩ := h1 hlt
          cases g with
          | stop => omega
          | @run _ _ _ m ps hm h hs hbm hcm him g =>
            rw [List.length_cons, List.length_cons] at ho
            obtain ⟨i', x', y', out', ps', q1, q2, q3, q4⟩ := ih (ps := ps) (out := (out ++ [prt a b c i k x p y q]) ++ [prt a b c k (k + m) p (p + m) q (q + m)]) (t := k + m) (by omega) (Nat.le_refl _) him (fun u _ _ => by omega) g hbm hcm (by simp only [List.length_append, List.length_cons, List.length_nil]; omega)
            refine ⟨i', x', y', out', ps', ?_, q2, by rw [← q3, List.append_assoc, List.append_assoc]; rfl, q4⟩
            exact Eq.trans (fix_go (B := fun d => b_I_partsOf_5 d.1 d.2.1 d.2.2.1 d.2.2.2.1 d.2.2.2.2.1 d.2.2.2.2.2.1 d.2.2.2.2.2.2.1 d.2.2.2.2.2.2.2.1 d.2.2.2.2.2.2.2.2.1 d.2.2.2.2.2.2.2.2.2.1) (jump_I (out := out) ha hb hc hll hrl hit hxp hyq hne hm h hs him hbm hcm (by omega))) q1
          | @jump _ _ _ k2 p2 q2 ps hik2 hk2 hnk2 h12 h22 hne2 hxp2 hyq2 hp2 hq2 g =>
            exfalso
            have : k2 = k := by
              rcases Nat.eq_or_lt_of_le hik2 with e | e
              · exact e.symm
              · exact absurd hbo (hnk2 k (Nat.le_refl _) e)
            subst this
            obtain ⟨_, f1, f2⟩ := h12 hlt
            omega
      · obtain ⟨i', x', y', out', ps', q1, q2⟩ := ih (t := t + 1) (by omega) (by omega) (by omega) (fun u h1 h2 => by
          rcases Nat.lt_or_ge u t with e | e
          · exact hn u h1 e
          · obtain rfl : u = t := by omega
            exact hbo) g hx hy ho
        exact ⟨i', x', y', out', ps', Eq.trans (fix_go (B := fun d => b_I_partsOf_5 d.1 d.2.1 d.2.2.1 d.2.2.2.1 d.2.2.2.2.1 d.2.2.2.2.2.1 d.2.2.2.2.2.2.1 d.2.2.2.2.2.2.2.1 d.2.2.2.2.2.2.2.2.1 d.2.2.2.2.2.2.2.2.2.1) (skip_I (out := out) ha hb hc hll hrl hlt hbo)) q1, q2⟩
    · obtain rfl : t = a.length := by omega
      exact ⟨i, x, y, out, ps, stop, g, rfl, hn, hit, hx, hy, ho⟩
end
end R
end

section
/- PartsOf: the law. -/
open Go Go.Dn
namespace R
set_option linter.unusedVariables false

theorem parts_I {a b c : TX} (ha : a.length ≤ 40) (hb : b.length ≤ 40) (hc : c.length ≤ 40) {ps : List (PV Y_impl_Part)} (hps : ps.length ≤ 1000) (g : GoP a b c (matesP a b) (matesP a c) 0 0 0 ps) : f_I_partsOf a b c = some ((ps, ()), ()) := by
  obtain ⟨i', x', y', out', ps', q1, q2, q3, q4, hi', hx', hy', ho⟩ := loop_I ha hb hc (matesP_len a b) (matesP_len a c) a.length (out := []) (i := 0) (x := 0) (y := 0) (t := 0) (by omega) (Nat.le_refl _) (Nat.zero_le _) (fun u _ _ => by omega) g (Nat.zero_le _) (Nat.zero_le _) (by rw [List.length_nil]; omega)
  rw [List.nil_append] at q3
  unfold f_I_partsOf
  rw [mates_I (by omega) (by omega), Option.bind_some, mates_I (by omega) (by omega), Option.bind_some]
  dsimp only
  rw [show w_I_partsOf_5 (a, b, c, ([] : PV S_impl_Part), matesP a b, matesP a c, 0, 0, 0, 0, ()) = _ from q1, Option.bind_some]
  dsimp only
  cases q2 with
  | stop =>
    rw [decide_eq_false (by omega : ¬ ((a.length : Int) > (a.length : Int))), cond_false, decide_eq_false (by omega : ¬ ((b.length : Int) > (b.length : Int))), cond_false, decide_eq_false (by omega : ¬ ((c.length : Int) > (c.length : Int))), Option.bind_some]
    dsimp only
    rw [cond_false, Option.bind_some]
    dsimp only
    rw [q3, List.append_nil]
  | @run _ _ _ m ps2 hm h hs hbm hcm him g =>
    exfalso
    have h0 := h 0 hm
    simp only [Nat.add_zero] at h0
    exact q4 i' (Nat.le_refl _) h0.1 ⟨by have := h0.2.1; omega, by have := h0.2.2; omega⟩
  | @jump _ _ _ k p q ps2 hik hk hnk h1 h2 hne hxp hyq hp hq g =>
    have hkn : k = a.length := by
      rcases Nat.lt_or_ge k a.length with e | e
      · exact absurd (h1 e).1 (q4 k hik e)
      · omega
    obtain ⟨rfl, rfl⟩ := h2 hkn
    subst hkn
    have hnil : ps2 = [] := by
      cases g with
      | stop => rfl
      | @run _ _ _ m ps3 hm h hs hbm hcm him g => have := (h 0 hm).1; omega
      | @jump _ _ _ k p q ps3 hik hk hnk h1 h2 hne hxp hyq hp hq g => omega
    subst hnil
    rw [List.length_cons, List.length_nil] at ho
    have hcat : out' ++ [(kindP (cutL (i' : Int) (a.length : Int) a) (cutL (x' : Int) (b.length : Int) b) (cutL (y' : Int) (c.length : Int) c), ((i' : Int), ((a.length : Int), (cutL (x' : Int) (b.length : Int) b, (cutL (y' : Int) (c.length : Int) c, ())))))] = ps := q3.symm
    have hcase : (a.length : Int) > (i' : Int) ∨ (¬ ((a.length : Int) > (i' : Int)) ∧ (b.length : Int) > (x' : Int)) ∨ (¬ ((a.length : Int) > (i' : Int)) ∧ ¬ ((b.length : Int) > (x' : Int)) ∧ (c.length : Int) > (y' : Int)) := by omega
    rcases hcase with g1 | ⟨g1, g2⟩ | ⟨g1, g2, g3⟩
    · rw [decide_eq_true g1, cond_true, Option.bind_some]
      dsimp only
      rw [cond_true, cutx_ok hi' (Nat.le_refl _), cond_true, cutx_ok hx' (Nat.le_refl _), cond_true, cutx_ok hy' (Nat.le_refl _), cond_true, kind_I (by rw [cutx_len hi' (Nat.le_refl _)]; omega) (by rw [cutx_len hx' (Nat.le_refl _)]; omega) (by rw [cutx_len hy' (Nat.le_refl _)]; omega) (by rw [cutx_len hi' (Nat.le_refl _), cutx_len hx' (Nat.le_refl _), cutx_len hy' (Nat.le_refl _)]; omega), Option.bind_some]
      dsimp only
      rw [cond_true, own_Ix _ (by rw [cutx_len hx' (Nat.le_refl _)]; omega), Option.bind_some]
      dsimp only
      rw [cond_true, own_Ix _ (by rw [cutx_len hy' (Nat.le_refl _)]; omega), Option.bind_some]
      dsimp only
      rw [roomB_ok (by rw [List.length_cons, List.length_nil]; omega), cond_true, Option.bind_some, hcat]
    · rw [decide_eq_false g1, cond_false, decide_eq_true g2, cond_true, Option.bind_some]
      dsimp only
      rw [cond_true, cutx_ok hi' (Nat.le_refl _), cond_true, cutx_ok hx' (Nat.le_refl _), cond_true, cutx_ok hy' (Nat.le_refl _), cond_true, kind_I (by rw [cutx_len hi' (Nat.le_refl _)]; omega) (by rw [cutx_len hx' (Nat.le_refl _)]; omega) (by rw [cutx_len hy' (Nat.le_refl _)]; omega) (by rw [cutx_len hi' (Nat.le_refl _), cutx_len hx' (Nat.le_refl _), cutx_len hy' (Nat.le_refl _)]; omega), Option.bind_some]
      dsimp only
      rw [cond_true, own_Ix _ (by rw [cutx_len hx' (Nat.le_refl _)]; omega), Option.bind_some]
      dsimp only
      rw [cond_true, own_Ix _ (by rw [cutx_len hy' (Nat.le_refl _)]; omega), Option.bind_some]
      dsimp only
      rw [roomB_ok (by rw [List.length_cons, List.length_nil]; omega), cond_true, Option.bind_some, hcat]
    · rw [decide_eq_false g1, cond_false, decide_eq_false g2, cond_false, decide_eq_true g3, Option.bind_some]
      dsimp only
      rw [cond_true, cutx_ok hi' (Nat.le_refl _), cond_true, cutx_ok hx' (Nat.le_refl _), cond_true, cutx_ok hy' (Nat.le_refl _), cond_true, kind_I (by rw [cutx_len hi' (Nat.le_refl _)]; omega) (by rw [cutx_len hx' (Nat.le_refl _)]; omega) (by rw [cutx_len hy' (Nat.le_refl _)]; omega) (by rw [cutx_len hi' (Nat.le_refl _), cutx_len hx' (Nat.le_refl _), cutx_len hy' (Nat.le_refl _)]; omega), Option.bind_some]
      dsimp only
      rw [cond_true, own_Ix _ (by rw [cutx_len hx' (Nat.le_refl _)]; omega), Option.bind_some]
      dsimp only
      rw [cond_true, own_Ix _ (by rw [cutx_len hy' (Nat.le_refl _)]; omega), Option.bind_some]
      dsimp only
      rw [roomB_ok (by rw [List.length_cons, List.length_nil]; omega), cond_true, Option.bind_some, hcat]

def ok3 (a b c : TX) : Bool := goodP a && (goodP b && goodP c)
theorem ok3_at {a b c : TX} (h : ok3 a b c = true) : a.length ≤ 40 ∧ b.length ≤ 40 ∧ c.length ≤ 40 := by
  unfold ok3 goodP linesP at h
  simp only [Bool.and_eq_true, decide_eq_true_eq] at h
  exact ⟨h.1.1.1, h.2.1.1.1, h.2.2.1.1⟩

theorem sum_le {l : TX} {n : Nat} (h : ∀ s ∈ l, s.length ≤ n) : (l.map (tot .str)).sum ≤ n * l.length := by
  induction l with
  | nil => simp
  | cons s l ih =>
    have h1 := h s (List.mem_cons_self ..)
    have h2 := ih fun x hx => h x (List.mem_cons_of_mem _ hx)
    rw [List.map_cons, List.sum_cons, List.length_cons, Nat.mul_add, tot_str]
    omega
theorem cutx_tot {l : TX} (hl : l.length ≤ 40) (h : ∀ s ∈ l, s.length ≤ 30) (i k : Int) : tot S_string (cutL i k l) ≤ 1240 := by
  have h1 : (cutL i k l).length ≤ 40 := by
    unfold cutL
    rw [List.length_drop, List.length_take]
    omega
  have h2 := sum_le (l := cutL i k l) (n := 30) fun s hs => h s (List.mem_of_mem_take (List.mem_of_mem_drop hs))
  rw [show tot S_string (cutL i k l) = (cutL i k l).length + ((cutL i k l).map (tot .str)).sum from tot_slice]
  omega
theorem go_tot {a b c : TX} {l r : List Int} (h1 : ∀ s ∈ b, s.length ≤ 30) (h2 : ∀ s ∈ c, s.length ≤ 30) (hb : b.length ≤ 40) (hc : c.length ≤ 40) {i x y : Nat} {ps : List (PV Y_impl_Part)} (g : GoP a b c l r i x y ps) : ∀ p ∈ ps, tot Y_impl_Part p ≤ 3000 := by
  have one : ∀ (i k x p y q : Nat), tot Y_impl_Part (prt a b c i k x p y q) ≤ 3000 := fun i k x p y q => by
    have e1 := cutx_tot hb h1 (x : Int) (p : Int)
    have e2 := cutx_tot hc h2 (y : Int) (q : Int)
    show 0 + (0 + (0 + (tot S_string (cutL (x : Int) (p : Int) b) + (tot S_string (cutL (y : Int) (q : Int) c) + 0)))) ≤ 3000
    omega
  induction g with
  | stop => intro p hp; cases hp
  | run _ _ _ _ _ _ _ ih =>
    intro p hp
    rcases List.mem_cons.1 hp with rfl | hp
    · exact one ..
    · exact ih p hp
  | jump _ _ _ _ _ _ _ _ _ _ _ ih =>
    intro p hp
    rcases List.mem_cons.1 hp with rfl | hp
    · exact one ..
    · exact ih p hp
theorem ok3_lines {a b c : TX} (h : ok3 a b c = true) : (∀ s ∈ b, s.length ≤ 30) ∧ ∀ s ∈ c, s.length ≤ 30 := by
  have key : ∀ {l : TX}, goodP l = true → ∀ s ∈ l, s.length ≤ 30 := fun {l} hg s hs => by
    unfold goodP linesP at hg
    simp only [Bool.and_eq_true, Bool.not_eq_true'] at hg
    have := List.any_eq_false.1 hg.1.2 s hs
    exact (line_len (by simpa using this)).2
  unfold ok3 at h
  simp only [Bool.and_eq_true] at h
  exact ⟨key h.2.1, key h.2.2⟩

theorem partsOf_both {a b c : TX} (ha : Sm a) (hb : Sm b) (hc : Sm c) : ∃ ps : List (PV Y_impl_Part), f_I_PartsOf a b c = some ((ps, ok3 a b c, ()), ()) ∧ (ok3 a b c = true → f_S_l11Parts a b c = some ((ps, ()), ())) ∧ ps.length ≤ 120 ∧ ∀ x ∈ ps, tot Y_impl_Part x ≤ 3000 := by
  have hI : ∀ ps, (ok3 a b c = true → f_I_partsOf a b c = some ((ps, ()), ())) → (ok3 a b c = false → ps = []) → f_I_PartsOf a b c = some ((ps, ok3 a b c, ()), ()) := by
    intro ps h1 h2
    unfold f_I_PartsOf
    rw [goodLines_I a ha, Option.bind_some]
    dsimp only
    unfold ok3 at *
    cases hA : goodP a
    · rw [hA] at h2; rw [h2 rfl]; rfl
    · rw [Bool.not_true, cond_false, goodLines_I b hb, Option.bind_some]
      dsimp only
      cases hB : goodP b
      · rw [hA, hB] at h2; rw [h2 rfl]; rfl
      · rw [Bool.not_true, cond_false, goodLines_I c hc, Option.bind_some, Option.bind_some]
        dsimp only
        cases hC : goodP c
        · rw [hA, hB, hC] at h2; rw [h2 rfl]; rfl
        · rw [hA, hB, hC] at h1
          rw [Bool.not_true, cond_false, h1 rfl, Option.bind_some]
          rfl
  cases hk : ok3 a b c
  · rw [hk] at hI
    exact ⟨[], hI [] (fun q => by cases q) (fun _ => rfl), fun q => (by cases q), Nat.zero_le _, fun x hx => by cases hx⟩
  · obtain ⟨k1, k2, k3⟩ := ok3_at hk
    rw [hk] at hI
    obtain ⟨ps, g, gl⟩ := go_ex (a := a) (b := b) (c := c) 120 0 0 0 (by omega) (Nat.zero_le _) (Nat.zero_le _) (Nat.zero_le _) (fun u _ _ h => ⟨h.1, h.2⟩)
    refine ⟨ps, hI ps (fun _ => parts_I k1 k2 k3 (by omega) g) (fun q => by cases q), fun _ => ?_, gl, fun x hx => go_tot (ok3_lines hk).1 (ok3_lines hk).2 k2 k3 g x hx⟩
    unfold f_S_l11Parts
    rw [stand_S (by omega) (by omega) (by omega), Option.bind_some]
    dsimp only
    rw [show w_S_l11Parts_4 (a, b, c, stdP a.length (matesP a b) (matesP a c), [], 0, 0, 0, ()) = _ from parts_S k1 k2 k3 g [] (by rw [List.length_nil]; omega) (Nat.zero_le _) (Nat.zero_le _) (Nat.zero_le _), Option.bind_some]
    rfl
end R
end

section
/- Merge: both sides take the same. -/
open Go Go.Dn
namespace R
set_option linter.unusedVariables false

abbrev PA := PV Y_impl_Part
def lf (x : PA) : TX := x.2.2.2.1
def rt (x : PA) : TX := x.2.2.2.2.1
def takenP (x : PA) : TX := bif (x.1 == 3) then rt x else lf x
def isCl (x : PA) : Bool := x.1 == 5

theorem taken_S (x : PA) : f_S_l11Taken x = some ((takenP x, ()), ()) := by
  unfold f_S_l11Taken takenP
  cases (x.1 == 3) <;> rfl

theorem fold_cl : ∀ (ps : List PA) (c : Int), ps.foldl (fun (c : Int) x => bif isCl x then c + 1 else c) c = c + ((ps.countP isCl : Nat) : Int)
  | [], c => by simp
  | x :: ps, c => by
    rw [List.foldl_cons, fold_cl ps, List.countP_cons]
    cases isCl x
    · simp
    · simp; omega

theorem clashes_I (ps : List PA) (h : ps.length ≤ 1000) : f_I_clashes ps = some ((((ps.countP isCl : Nat) : Int), ()), ()) := by
  have hF := fix_fold (B := fun d => b_I_clashes_3 d.1 d.2.1 d.2.2.1 d.2.2.2.1) ps (fun (c : Int) x => bif isCl x then c + 1 else c) (fun c i => (c, ps, (ps.length : Int), (i : Int), ())) (fun c => (c, ())) (fun i c => 0 ≤ c ∧ c ≤ (i : Int))
    (fun i hi c hI => by
      have hx : isCl ps[i] = (ps[i].1 == 5) := rfl
      obtain ⟨i1, i2⟩ := hI
      refine ⟨by cases isCl ps[i] <;> simp <;> omega, ?_⟩
      show b_I_clashes_3 c ps ps.length i = _
      unfold b_I_clashes_3
      rw [decide_eq_true (by omega : (i : Int) < (ps.length : Int)), cond_true, inB_lt hi, cond_true, toNat_cast, getD_of hi, ← hx]
      cases isCl ps[i]
      · rw [cond_false, cond_false, Option.bind_some]; dsimp only; rw [wrap64 (by omega) (by omega)]; rfl
      · rw [cond_true, cond_true, Option.bind_some]; dsimp only; rw [wrap64 (x := c + 1) (by omega) (by omega), wrap64 (by omega) (by omega)]; rfl)
    (fun c hI => by
      show b_I_clashes_3 c ps ps.length ps.length = _
      unfold b_I_clashes_3
      rw [decide_eq_false (Int.lt_irrefl _), cond_false]) 0 ⟨by omega, by omega⟩
  unfold f_I_clashes
  rw [show w_I_clashes_3 (0, ps, (ps.length : Int), 0, ()) = _ from hF.1, Option.bind_some, fold_cl, Int.zero_add]

theorem tot_app {a b : TX} : tot S_string (a ++ b) = tot S_string a + tot S_string b := by
  rw [show tot S_string (a ++ b) = (a ++ b).length + ((a ++ b).map (tot .str)).sum from tot_slice, show tot S_string a = a.length + (a.map (tot .str)).sum from tot_slice, show tot S_string b = b.length + (b.map (tot .str)).sum from tot_slice]
  rw [List.length_append, List.map_append, List.sum_append]
  omega
theorem len_tot {a : TX} : a.length ≤ tot S_string a := by
  rw [show tot S_string a = a.length + (a.map (tot .str)).sum from tot_slice]; omega
theorem part_tot (x : PA) : tot Y_impl_Part x = tot S_string (lf x) + tot S_string (rt x) := by
  show 0 + (0 + (0 + (tot S_string (lf x) + (tot S_string (rt x) + 0)))) = _
  omega
theorem taken_tot {x : PA} {n : Nat} (h : tot Y_impl_Part x ≤ n) : tot S_string (takenP x) ≤ n := by
  rw [part_tot] at h
  unfold takenP
  cases (x.1 == 3)
  · rw [cond_false]; omega
  · rw [cond_true]; omega
theorem flat_tot {ps : List PA} {n : Nat} (f : PA → TX) (h : ∀ x ∈ ps, tot S_string (f x) ≤ n) : tot S_string (ps.flatMap f) ≤ n * ps.length := by
  induction ps with
  | nil => exact Nat.le_refl _
  | cons x ps ih =>
    have h1 := h x (List.mem_cons_self ..)
    have h2 := ih fun y hy => h y (List.mem_cons_of_mem _ hy)
    rw [List.flatMap_cons, tot_app, List.length_cons, Nat.mul_add]
    omega

theorem fold_flat {α : Type} (f : PA → List α) : ∀ (ps : List PA) (o : List α), ps.foldl (fun o x => o ++ f x) o = o ++ ps.flatMap f
  | [], o => by simp
  | x :: ps, o => by rw [List.foldl_cons, fold_flat f ps, List.flatMap_cons, List.append_assoc]

theorem run_take : ∀ (ps : List PA) (o : TX), run (ρ := Unit) (fun (o : TX) x => bif isCl x then .inr () else .inl (o ++ takenP x)) o ps = bif ps.any isCl then .inr () else .inl (o ++ ps.flatMap takenP)
  | [], o => by simp [run]
  | x :: ps, o => by
    simp only [run]
    cases h : isCl x
    · rw [cond_false]
      dsimp only
      rw [run_take ps, List.any_cons, h, Bool.false_or, List.flatMap_cons, List.append_assoc]
    · rw [cond_true, List.any_cons, h, Bool.true_or, cond_true]

theorem take_S (ps : List PA) (h : ps.length ≤ 1000) (ht : ∀ x ∈ ps, tot Y_impl_Part x ≤ 3000) : w_S_Merge_5 ([], ps, (ps.length : Int), 0, ()) = some (bif ps.any isCl then .inr ([], false, ()) else .inl (ps.flatMap takenP, ())) := by
  have hF := fix_run (B := fun d => b_S_Merge_5 d.1 d.2.1 d.2.2.1 d.2.2.2.1) (ρ := Unit) ps (fun (o : TX) x => bif isCl x then .inr () else .inl (o ++ takenP x)) (fun o i => (o, ps, (ps.length : Int), (i : Int), ())) (fun o => .inl (o, ())) (fun _ => .inr ([], false, ())) (fun i o => o.length ≤ 3000 * i)
    (fun i hi o b hI hg => by
      have hx : isCl ps[i] = (ps[i].1 == 5) := rfl
      have hl := Nat.le_trans (len_tot (a := takenP ps[i])) (taken_tot (ht _ (List.getElem_mem hi)))
      cases hc : isCl ps[i] with
      | true => rw [hc] at hg; cases hg
      | false =>
        rw [hc, cond_false, Sum.inl.injEq] at hg
        subst hg
        refine ⟨by rw [List.length_append]; omega, ?_⟩
        show b_S_Merge_5 o ps ps.length i = _
        unfold b_S_Merge_5
        rw [decide_eq_true (by omega : (i : Int) < (ps.length : Int)), cond_true, inB_lt hi, cond_true, toNat_cast, getD_of hi, ← hx, hc, cond_false, taken_S, Option.bind_some]
        dsimp only
        rw [roomB_ok (by omega), cond_true, wrap64 (by omega) (by omega)]
        rfl)
    (fun i hi o b hI hg => by
      have hx : isCl ps[i] = (ps[i].1 == 5) := rfl
      cases hc : isCl ps[i] with
      | false => rw [hc] at hg; cases hg
      | true =>
        show b_S_Merge_5 o ps ps.length i = _
        unfold b_S_Merge_5
        rw [decide_eq_true (by omega : (i : Int) < (ps.length : Int)), cond_true, inB_lt hi, cond_true, toNat_cast, getD_of hi, ← hx, hc, cond_true])
    (fun o hI => by
      show b_S_Merge_5 o ps ps.length ps.length = _
      unfold b_S_Merge_5
      rw [decide_eq_false (Int.lt_irrefl _), cond_false]) [] (Nat.zero_le _)
  rw [show w_S_Merge_5 ([], ps, (ps.length : Int), 0, ()) = _ from hF.1, run_take, List.nil_append]
  cases ps.any isCl <;> rfl

theorem take_I (ps : List PA) (k : Bool) (h : ps.length ≤ 1000) (ht : ∀ x ∈ ps, tot Y_impl_Part x ≤ 3000) (hn : ps.any isCl = false) :
    w_I_Merge_113_3 (ps, k, ps, ([] : PV S_string), ps, (ps.length : Int), 0, ()) = some (ps, k, ps, ps.flatMap takenP, ()) := by
  have hF := fix_fold (B := fun d => b_I_Merge_113_3 d.1 d.2.1 d.2.2.1 d.2.2.2.1 d.2.2.2.2.1 d.2.2.2.2.2.1 d.2.2.2.2.2.2.1) ps (fun (o : TX) x => o ++ takenP x) (fun o i => (ps, k, ps, o, ps, (ps.length : Int), (i : Int), ())) (fun o => (ps, k, ps, o, ())) (fun i o => o.length ≤ 3000 * i)
    (fun i hi o hI => by
      have hx : (ps[i].1 == 5) = false := by
        have := List.any_eq_false.1 hn ps[i] (List.getElem_mem hi)
        exact Bool.eq_false_iff.2 this
      have hl := Nat.le_trans (len_tot (a := takenP ps[i])) (taken_tot (ht _ (List.getElem_mem hi)))
      refine ⟨by rw [List.length_append]; omega, ?_⟩
      show b_I_Merge_113_3 ps k ps o ps ps.length i = _
      unfold b_I_Merge_113_3
      rw [decide_eq_true (by omega : (i : Int) < (ps.length : Int)), cond_true, inB_lt hi, cond_true, toNat_cast, getD_of hi, hx, cond_false]
      unfold takenP at hl ⊢
      cases hc : (ps[i].1 == 3)
      · rw [hc, cond_false] at hl
        rw [cond_false, cond_false, roomB_ok (by show o.length + (lf ps[i]).length ≤ _; omega), cond_true, Option.bind_some]
        dsimp only
        rw [wrap64 (by omega) (by omega)]
        rfl
      · rw [hc, cond_true] at hl
        rw [cond_true, cond_true, roomB_ok (by show o.length + (rt ps[i]).length ≤ _; omega), cond_true, Option.bind_some]
        dsimp only
        rw [wrap64 (by omega) (by omega)]
        rfl)
    (fun o hI => by
      show b_I_Merge_113_3 ps k ps o ps ps.length ps.length = _
      unfold b_I_Merge_113_3
      rw [decide_eq_false (Int.lt_irrefl _), cond_false]) [] (Nat.zero_le _)
  rw [show w_I_Merge_113_3 (ps, k, ps, ([] : PV S_string), ps, (ps.length : Int), 0, ()) = _ from hF.1, fold_flat, List.nil_append]

theorem three_S {a b c : TX} (ha : Sm a) (hb : Sm b) (hc : Sm c) : f_S_l11Three a b c = some ((ok3 a b c, ()), ()) := by
  unfold f_S_l11Three ok3
  rw [l1Good_S a ha, Option.bind_some]
  dsimp only
  cases goodP a
  · rfl
  · rw [cond_true, l1Good_S b hb, Option.bind_some]
    dsimp only
    cases goodP b
    · rfl
    · rw [cond_true, l1Good_S c hc, Option.bind_some]
      dsimp only
      cases goodP c <;> rfl

theorem merge_both {a b c : TX} (ha : Sm a) (hb : Sm b) (hc : Sm c) : ∃ (o : TX) (k : Bool), f_I_Merge a b c = some ((o, k, ()), ()) ∧ f_S_Merge a b c = some ((o, k, ()), ()) ∧ tot S_string o ≤ 360000 := by
  obtain ⟨ps, hI, hS, hl, ht⟩ := partsOf_both ha hb hc
  unfold f_I_Merge f_S_Merge
  rw [hI, three_S ha hb hc, Option.bind_some, Option.bind_some]
  dsimp only
  cases hk : ok3 a b c
  · exact ⟨[], false, rfl, rfl, Nat.zero_le _⟩
  · rw [hS hk, clashes_I ps (by omega)]
    simp only [Bool.not_true, cond_false, Option.bind_some]
    rw [take_S ps (by omega) ht, Option.bind_some]
    cases hany : ps.any isCl
    · have h0 : ps.countP isCl = 0 := List.countP_eq_zero.2 fun x hx => by simpa using List.any_eq_false.1 hany x hx
      rw [h0, decide_eq_false (by omega : ¬ (((0 : Nat) : Int) > 0)), cond_false, cond_false, take_I ps false (by omega) ht hany, Option.bind_some]
      dsimp only
      have hto : tot S_string (ps.flatMap takenP) ≤ 3000 * ps.length := flat_tot takenP fun x hx => taken_tot (ht x hx)
      have hsm : Sm (ps.flatMap takenP) := Sm.of hto (by omega)
      rw [goodLines_I _ hsm, l1Good_S _ hsm]
      simp only [Option.bind_some]
      cases goodP (ps.flatMap takenP)
      · exact ⟨[], false, rfl, rfl, Nat.zero_le _⟩
      · exact ⟨ps.flatMap takenP, true, rfl, rfl, by omega⟩
    · have h0 : 0 < ps.countP isCl := List.countP_pos_iff.2 (by
        obtain ⟨x, hx, h⟩ := List.any_eq_true.1 hany
        exact ⟨x, hx, h⟩)
      rw [decide_eq_true (by omega : (((ps.countP isCl : Nat) : Int) > 0)), cond_true, cond_true]
      exact ⟨[], false, rfl, rfl, Nat.zero_le _⟩
end R
end

section
/- Texts with marks: lines behind one another, each with its end. -/
open Go Go.Dn
namespace R
set_option linter.unusedVariables false

theorem endP_last (s : List UInt8) : endP s = (s.getLast? == some 10) := by
  unfold endP
  rcases List.eq_nil_or_concat s with rfl | ⟨t, a, rfl⟩
  · rfl
  · rw [List.concat_eq_append, List.length_append, List.length_singleton, Nat.add_sub_cancel, List.drop_left, List.getLast?_append]
    simp
theorem endP_app {s t : List UInt8} (h : t ≠ []) : endP (s ++ t) = endP t := by
  rw [endP_last, endP_last, List.getLast?_append]
  rcases List.eq_nil_or_concat t with rfl | ⟨u, a, rfl⟩
  · exact absurd rfl h
  · rw [List.concat_eq_append, List.getLast?_append]; simp

def plainB (s : List UInt8) : List UInt8 := bif endP s then s.take (s.length - 1) else s
def endB (s : List UInt8) : List UInt8 := plainB s ++ [10]
theorem endB_of {s : List UInt8} (h : endP s = true) : endB s = s := by
  unfold endB plainB
  rw [h, cond_true]
  rw [endP_last] at h
  rcases List.eq_nil_or_concat s with rfl | ⟨t, a, rfl⟩
  · cases h
  · rw [List.concat_eq_append] at h ⊢
    rw [List.getLast?_append] at h
    simp at h
    rw [List.length_append, List.length_singleton, Nat.add_sub_cancel, List.take_left, h]
theorem endB_not {s : List UInt8} (h : endP s = false) : endB s = s ++ [10] := by
  unfold endB plainB
  rw [h, cond_false]

theorem suffix_I (s : List UInt8) (hs : s.length ≤ 4611686018427387904) : f_internal_stringslite_HasSuffix s [10] = some ((endP s, ()), ()) := by
  have h := ends_I s hs
  unfold f_I_isEnded f_strings_HasSuffix at h
  cases hh : f_internal_stringslite_HasSuffix s [10] with
  | none => rw [hh] at h; cases h
  | some r =>
    rw [hh] at h
    obtain ⟨⟨r, u⟩, v⟩ := r
    simp only [Option.bind_some, Option.some.injEq, Prod.mk.injEq, and_true] at h
    subst h
    rfl

theorem plain_I (s : List UInt8) (hs : s.length ≤ 4611686018427387904) : f_I_plain s = some ((plainB s, ()), ()) := by
  unfold f_I_plain f_strings_TrimSuffix f_internal_stringslite_TrimSuffix plainB
  rw [suffix_I s hs, Option.bind_some]
  dsimp only
  cases h : endP s
  · rfl
  · have h1 : 1 ≤ s.length := by
      cases s with
      | nil => cases h
      | cons a s => simp
    have hw : IntKind.wrap .i64 ((s.length : Int) - (([10] : List UInt8).length : Int)) = ((s.length - 1 : Nat) : Int) := by
      rw [show ((([10] : List UInt8).length : Nat) : Int) = 1 from rfl, wrap64 (by omega) (by omega)]; omega
    rw [cond_true, cond_true, hw, show cutB 0 ((s.length - 1 : Nat) : Int) s.length = true from by unfold cutB; simp, cond_true]
    unfold cutL
    simp

theorem endedAll_I (l : TX) (hl : l.length ≤ 100000) (hs : ∀ s ∈ l, s.length ≤ 100000) : f_I_endedAll l = some ((l.map endB, ()), ()) := by
  have hF := fix_fold (B := fun d => b_I_endedAll_3 d.1 d.2.1 d.2.2.1 d.2.2.2.1) l (fun (o : TX) s => o ++ [endB s]) (fun o i => (o, l, (l.length : Int), (i : Int), ())) (fun o => (o, ())) (fun i o => o.length = i)
    (fun i hi o hI => by
      have h0 := hs _ (List.getElem_mem hi)
      refine ⟨by rw [List.length_append, hI]; rfl, ?_⟩
      show b_I_endedAll_3 o l l.length i = _
      unfold b_I_endedAll_3
      have hp : (plainB l[i]).length ≤ l[i].length := by
        unfold plainB
        cases endP l[i]
        · exact Nat.le_refl _
        · rw [cond_true, List.length_take]; omega
      rw [decide_eq_true (by omega : (i : Int) < (l.length : Int)), cond_true, inB_lt hi, cond_true, toNat_cast, getD_of hi, plain_I _ (by omega), Option.bind_some]
      dsimp only
      rw [decide_eq_true (by rw [List.length_singleton]; omega), cond_true, roomB_ok (by rw [List.length_singleton]; omega), cond_true, wrap64 (by omega) (by omega)]
      rfl)
    (fun o hI => by
      show b_I_endedAll_3 o l l.length l.length = _
      unfold b_I_endedAll_3
      rw [decide_eq_false (Int.lt_irrefl _), cond_false]) [] rfl
  unfold f_I_endedAll
  rw [show w_I_endedAll_3 (([] : PV S_string), l, (l.length : Int), 0, ()) = _ from hF.1, Option.bind_some]
  dsimp only
  have hm : ∀ (l : TX) (o : TX), l.foldl (fun (o : TX) s => o ++ [endB s]) o = o ++ l.map endB := by
    intro l
    induction l with
    | nil => intro o; simp
    | cons s l ih => intro o; rw [List.foldl_cons, ih, List.map_cons, List.append_assoc]; rfl
  rw [hm, List.nil_append]

theorem concat_I (xs : List TX) (hl : xs.length ≤ 1000) (hs : ∀ s ∈ xs, s.length ≤ 100000) : f_slices_Concat_string xs = some ((xs.flatten, ()), ()) := by
  have hF := fix_fold (B := fun d => b_slices_Concat_string_3 d.1 d.2.1 d.2.2.1 d.2.2.2.1 d.2.2.2.2.1) xs (fun (c : Int) s => c + (s.length : Int)) (fun c i => (xs, c, xs, (xs.length : Int), (i : Int), ())) (fun c => (xs, c, ())) (fun i c => 0 ≤ c ∧ c ≤ 100000 * (i : Int))
    (fun i hi c hI => by
      have h0 := hs _ (List.getElem_mem hi)
      obtain ⟨i1, i2⟩ := hI
      refine ⟨⟨by omega, by omega⟩, ?_⟩
      show b_slices_Concat_string_3 xs c xs xs.length i = _
      unfold b_slices_Concat_string_3
      have hg : List.getD (α := PV S_string) xs i [] = xs[i] := getD_of hi
      rw [decide_eq_true (by omega : (i : Int) < (xs.length : Int)), cond_true, inB_lt hi, cond_true, toNat_cast, hg, wrap64 (x := c + _) (by omega) (by omega), decide_eq_false (by omega), cond_false, wrap64 (by omega) (by omega)]
      rfl)
    (fun c hI => by
      show b_slices_Concat_string_3 xs c xs xs.length xs.length = _
      unfold b_slices_Concat_string_3
      rw [decide_eq_false (Int.lt_irrefl _), cond_false]) 0 ⟨by omega, by omega⟩
  have hG := fix_fold (B := fun d => b_slices_Concat_string_11 d.1 d.2.1 d.2.2.1 d.2.2.2.1) xs (fun (o : TX) s => o ++ s) (fun o i => (o, xs, (xs.length : Int), (i : Int), ())) (fun o => (o, ())) (fun i o => o.length ≤ 100000 * i)
    (fun i hi o hI => by
      have h0 := hs _ (List.getElem_mem hi)
      refine ⟨by rw [List.length_append]; omega, ?_⟩
      show b_slices_Concat_string_11 o xs xs.length i = _
      unfold b_slices_Concat_string_11
      have hg : List.getD (α := PV S_string) xs i [] = xs[i] := getD_of hi
      rw [decide_eq_true (by omega : (i : Int) < (xs.length : Int)), cond_true, inB_lt hi, cond_true, toNat_cast, hg, roomB_ok (by omega), cond_true, wrap64 (by omega) (by omega)]
      rfl)
    (fun o hI => by
      show b_slices_Concat_string_11 o xs xs.length xs.length = _
      unfold b_slices_Concat_string_11
      rw [decide_eq_false (Int.lt_irrefl _), cond_false]) [] (Nat.zero_le _)
  obtain ⟨f1, f2, f3⟩ := hF
  unfold f_slices_Concat_string
  rw [show w_slices_Concat_string_3 (xs, 0, xs, (xs.length : Int), 0, ()) = _ from f1, Option.bind_some]
  dsimp only
  unfold f_slices_Grow_string growF
  dsimp only
  rw [decide_eq_true f2, decide_eq_true (by omega : xs.foldl (fun (c : Int) s => c + (s.length : Int)) 0 ≤ 1099511627776), Bool.and_self, cond_true, Option.bind_some]
  dsimp only
  rw [show w_slices_Concat_string_11 (([] : PV S_string), xs, (xs.length : Int), 0, ()) = _ from hG.1, Option.bind_some]
  dsimp only
  have hm : ∀ (l : List TX) (o : TX), l.foldl (fun (o : TX) s => o ++ s) o = o ++ l.flatten := by
    intro l
    induction l with
    | nil => intro o; simp
    | cons s l ih => intro o; rw [List.foldl_cons, ih, List.flatten_cons, List.append_assoc]
  rw [hm, List.nil_append]

def o3 : List UInt8 := [60, 60, 60, 10]
def m3 : List UInt8 := [61, 61, 61, 10]
def c3 : List UInt8 := [62, 62, 62, 10]
def markI (x : PA) : TX := [o3] ++ (lf x).map endB ++ [m3] ++ (rt x).map endB ++ [c3]

theorem str_tot {l : TX} {s : List UInt8} (h : s ∈ l) : s.length ≤ tot S_string l := by
  obtain ⟨i, hi, rfl⟩ := List.mem_iff_getElem.1 h
  have := tot_mem (e := 9) (t := .str) (xs := l) hi
  rw [tot_str] at this
  exact this

theorem mark_I {x : PA} (h : tot Y_impl_Part x ≤ 3000) : f_I_MarkedText_1 x = some ((markI x, ()), ()) := by
  rw [part_tot] at h
  have l1 := len_tot (a := lf x)
  have l2 := len_tot (a := rt x)
  unfold f_I_MarkedText_1
  rw [show f_I_endedAll x.2.2.2.1 = _ from endedAll_I (lf x) (by omega) (fun s hs => by have := str_tot hs; omega), Option.bind_some]
  dsimp only
  rw [show f_I_endedAll x.2.2.2.2.1 = _ from endedAll_I (rt x) (by omega) (fun s hs => by have := str_tot hs; omega), Option.bind_some]
  dsimp only
  rw [concat_I _ (by simp) (fun s hs => by
    simp only [List.mem_cons, List.not_mem_nil, or_false] at hs
    rcases hs with rfl | rfl | rfl | rfl | rfl <;> simp <;> omega), Option.bind_some]
  unfold markI o3 m3 c3
  simp
end R
end

section
/- MarkedText: both sides write the same. -/
open Go Go.Dn
namespace R
set_option linter.unusedVariables false

theorem join_empty : ∀ xs : TX, Go.Lib.join xs [] = xs.flatten
  | [] => rfl
  | x :: r => by
    rw [Go.Lib.join_cons]
    have : ∀ r : TX, Go.Lib.joinTail [] r = r.flatten := fun r => by
      unfold Go.Lib.joinTail
      rw [show (r.map fun s => ([] : List UInt8) ++ s) = r from by rw [show (fun s : List UInt8 => ([] : List UInt8) ++ s) = id from funext fun s => rfl, List.map_id]]
    rw [this, List.flatten_cons]

/-- All but the last end. -/
def GL (l : TX) : Prop := (∀ s ∈ l, s ≠ []) ∧ ∀ k, k + 1 < l.length → endP (l.getD k []) = true

theorem GL.of {l : TX} (h : goodP l = true) : GL l := by
  unfold goodP linesP at h
  rw [Bool.and_eq_true, Bool.and_eq_true, Bool.not_eq_true'] at h
  refine ⟨fun s hs hn => ?_, fun k hk => ?_⟩
  · have h1 := List.any_eq_false.1 h.1.2 s hs
    subst hn
    exact absurd (line_len (s := []) (by simpa using h1)).1 (by simp)
  · have h2 := h.2
    unfold endsP at h2
    rw [Bool.not_eq_true', Bool.eq_false_iff, ne_eq, anyN_iff] at h2
    cases he : endP (l.getD k []) with
    | true => rfl
    | false => exact absurd ⟨k, by omega, by rw [he, decide_eq_true (by omega : (k : Int) < (l.length : Int) - 1)]; rfl⟩ h2

theorem GL.cut {l : TX} (h : GL l) (i k : Int) : GL (cutL i k l) := by
  unfold cutL
  refine ⟨fun s hs => h.1 s (List.mem_of_mem_take (List.mem_of_mem_drop hs)), fun j hj => ?_⟩
  rw [List.length_drop, List.length_take] at hj
  have := h.2 (i.toNat + j) (by omega)
  rw [getD_of (by rw [List.length_drop, List.length_take]; omega), List.getElem_drop, List.getElem_take]
  rw [getD_of (by omega)] at this
  exact this

theorem GL.tail {s : List UInt8} {l : TX} (h : GL (s :: l)) : GL l :=
  ⟨fun t ht => h.1 t (List.mem_cons_of_mem _ ht), fun k hk => by simpa using h.2 (k + 1) (by rw [List.length_cons]; omega)⟩

theorem flat_ne {l : TX} (h : ∀ s ∈ l, s ≠ []) (hl : l ≠ []) : l.flatten ≠ [] := by
  obtain ⟨s, r, rfl⟩ := List.exists_cons_of_ne_nil hl
  have := h s (List.mem_cons_self ..)
  rw [List.flatten_cons]
  simp [this]

/-- Lines behind one another, the last one with its end too. -/
def fullB (t : List UInt8) : List UInt8 := bif !(t == []) && !endP t then t ++ [10] else t

theorem full_ended : ∀ {l : TX}, GL l → (l.map endB).flatten = fullB l.flatten
  | [], _ => rfl
  | [s], h => by
    have hs := h.1 s (List.mem_cons_self ..)
    simp only [List.map_cons, List.map_nil, List.flatten_cons, List.flatten_nil, List.append_nil]
    unfold fullB
    rw [show (s == []) = false from beq_eq_false_iff_ne.2 hs, Bool.not_false, Bool.true_and]
    cases he : endP s
    · rw [endB_not he]; rfl
    · rw [endB_of he]; rfl
  | s :: t :: r, h => by
    have he : endP s = true := by simpa using h.2 0 (by simp)
    have ih := full_ended h.tail
    have hne := flat_ne h.tail.1 (by simp)
    rw [List.map_cons, List.flatten_cons, endB_of he, ih, List.flatten_cons (l := s)]
    unfold fullB
    rw [show ((t :: r).flatten == []) = false from beq_eq_false_iff_ne.2 hne, show (s ++ (t :: r).flatten == []) = false from beq_eq_false_iff_ne.2 (fun e => hne (List.append_eq_nil_iff.1 e).2), endP_app hne]
    cases endP (t :: r).flatten
    · simp
    · rfl

theorem flat_len {l : TX} : l.flatten.length ≤ tot S_string l := by
  rw [show tot S_string l = l.length + (l.map (tot .str)).sum from tot_slice, List.length_flatten]
  have : l.map (tot .str) = l.map List.length := List.map_congr_left fun s _ => tot_str
  rw [this]
  omega

theorem text_S (l : TX) (h : tot S_string l ≤ 1000000) : f_S_l1Text l = some ((l.flatten, ()), ()) := by
  have hl := len_tot (a := l)
  have hF := fix_fold (B := fun d => b_S_l1Text_3 d.1 d.2.1 d.2.2.1 d.2.2.2.1) l (fun (o : List UInt8) s => o ++ s) (fun o i => (o, l, (l.length : Int), (i : Int), ())) (fun o => (o, ())) (fun i o => o.length ≤ 1000000 * i)
    (fun i hi o hI => by
      have h0 := str_tot (List.getElem_mem hi)
      refine ⟨by rw [List.length_append]; omega, ?_⟩
      show b_S_l1Text_3 o l l.length i = _
      unfold b_S_l1Text_3
      rw [decide_eq_true (by omega : (i : Int) < (l.length : Int)), cond_true, inB_lt hi, cond_true, toNat_cast, getD_of hi, decide_eq_true (by omega), cond_true, wrap64 (by omega) (by omega)]
      rfl)
    (fun o hI => by
      show b_S_l1Text_3 o l l.length l.length = _
      unfold b_S_l1Text_3
      rw [decide_eq_false (Int.lt_irrefl _), cond_false]) [] (Nat.zero_le _)
  unfold f_S_l1Text
  rw [show w_S_l1Text_3 ([], l, (l.length : Int), 0, ()) = _ from hF.1, Option.bind_some]
  dsimp only
  have hm : ∀ (l : TX) (o : List UInt8), l.foldl (fun (o : List UInt8) s => o ++ s) o = o ++ l.flatten := by
    intro l
    induction l with
    | nil => intro o; simp
    | cons s l ih => intro o; rw [List.foldl_cons, ih, List.flatten_cons, List.append_assoc]
  rw [hm, List.nil_append]

theorem full_S (l : TX) (h : tot S_string l ≤ 1000000) : f_S_l11Full l = some ((fullB l.flatten, ()), ()) := by
  have h1 := flat_len (l := l)
  unfold f_S_l11Full fullB
  rw [text_S l h, Option.bind_some]
  dsimp only
  cases hn : (l.flatten == [])
  · have hne : l.flatten ≠ [] := beq_eq_false_iff_ne.1 hn
    have hp : 1 ≤ l.flatten.length := List.length_pos_iff.2 hne
    rw [Bool.not_false, cond_true, ends_S _ hp (by omega), Option.bind_some, Option.bind_some]
    dsimp only
    cases endP l.flatten
    · simp only [Bool.not_false, Bool.and_self, cond_true]
      rw [decide_eq_true (by rw [List.length_singleton]; omega), cond_true, Option.bind_some]
    · rfl
  · rfl

def mI (x : PA) : TX := bif isCl x then markI x else takenP x
def mS (x : PA) : List UInt8 := bif isCl x then (((o3 ++ fullB (lf x).flatten) ++ m3) ++ fullB (rt x).flatten) ++ c3 else (takenP x).flatten

theorem m_eq {x : PA} (h1 : GL (lf x)) (h2 : GL (rt x)) : (mI x).flatten = mS x := by
  unfold mI mS
  cases isCl x
  · rfl
  · rw [cond_true, cond_true]
    unfold markI
    simp only [List.flatten_append, full_ended h1, full_ended h2, List.flatten_cons, List.flatten_nil, List.append_nil]

theorem fullB_len (t : List UInt8) : (fullB t).length ≤ t.length + 1 := by
  unfold fullB
  cases !(t == []) && !endP t
  · rw [cond_false]; omega
  · rw [cond_true, List.length_append]; exact Nat.le_refl _

theorem mS_len {x : PA} (h : tot Y_impl_Part x ≤ 3000) : (mS x).length ≤ 3020 := by
  have ht := taken_tot h
  rw [part_tot] at h
  unfold mS
  cases isCl x
  · rw [cond_false]
    have := flat_len (l := takenP x)
    omega
  · rw [cond_true]
    simp only [List.length_append]
    have e1 := fullB_len (lf x).flatten
    have e2 := fullB_len (rt x).flatten
    have e3 := flat_len (l := lf x)
    have e4 := flat_len (l := rt x)
    have e5 : o3.length = 4 := rfl
    have e6 : m3.length = 4 := rfl
    have e7 : c3.length = 4 := rfl
    omega

theorem mark_S (ps : List PA) (h : ps.length ≤ 1000) (ht : ∀ x ∈ ps, tot Y_impl_Part x ≤ 3000) : w_S_MarkedText_5 ([], ps, (ps.length : Int), 0, ()) = some (ps.flatMap mS, ()) := by
  have hF := fix_fold (B := fun d => b_S_MarkedText_5 d.1 d.2.1 d.2.2.1 d.2.2.2.1) ps (fun (o : List UInt8) x => o ++ mS x) (fun o i => (o, ps, (ps.length : Int), (i : Int), ())) (fun o => (o, ())) (fun i o => o.length ≤ 3020 * i)
    (fun i hi o hI => by
      have hx : isCl ps[i] = (ps[i].1 == 5) := rfl
      have h3 := ht _ (List.getElem_mem hi)
      have hl := mS_len h3
      refine ⟨by rw [List.length_append]; omega, ?_⟩
      show b_S_MarkedText_5 o ps ps.length i = _
      unfold b_S_MarkedText_5
      rw [decide_eq_true (by omega : (i : Int) < (ps.length : Int)), cond_true, inB_lt hi, cond_true, toNat_cast, getD_of hi, ← hx]
      unfold mS at hl ⊢
      cases hc : isCl ps[i]
      · rw [hc, cond_false] at hl
        rw [cond_false, cond_false, taken_S, Option.bind_some]
        dsimp only
        rw [text_S _ (Nat.le_trans (taken_tot h3) (by omega)), Option.bind_some]
        dsimp only
        rw [decide_eq_true (by omega), cond_true, Option.bind_some]
        dsimp only
        rw [wrap64 (by omega) (by omega)]
        rfl
      · rw [hc, cond_true] at hl
        rw [part_tot] at h3
        have k1 : f_S_l11Full ps[i].2.2.2.1 = some ((fullB (lf ps[i]).flatten, ()), ()) := full_S (lf ps[i]) (by omega)
        have k2 : f_S_l11Full ps[i].2.2.2.2.1 = some ((fullB (rt ps[i]).flatten, ()), ()) := full_S (rt ps[i]) (by omega)
        have e5 : o3.length = 4 := rfl
        have e6 : m3.length = 4 := rfl
        have e7 : c3.length = 4 := rfl
        have l1 : (o3 ++ fullB (lf ps[i]).flatten).length ≤ 3020 := by simp only [List.length_append] at hl ⊢; omega
        have l2 : ((o3 ++ fullB (lf ps[i]).flatten) ++ m3).length ≤ 3020 := by simp only [List.length_append] at hl ⊢; omega
        have l3 : (((o3 ++ fullB (lf ps[i]).flatten) ++ m3) ++ fullB (rt ps[i]).flatten).length ≤ 3020 := by simp only [List.length_append] at hl ⊢; omega
        rw [cond_true, cond_true, k1, Option.bind_some]
        dsimp only
        rw [decide_eq_true (by rw [List.length_append] at l1; exact Nat.le_trans l1 (by omega)), cond_true, decide_eq_true (by rw [List.length_append] at l2; exact Nat.le_trans l2 (by omega)), cond_true, k2, Option.bind_some]
        dsimp only
        rw [decide_eq_true (by rw [List.length_append] at l3; exact Nat.le_trans l3 (by omega)), cond_true, decide_eq_true (by rw [List.length_append] at hl; exact Nat.le_trans hl (by omega)), cond_true, decide_eq_true (by
          have hl' : ((((o3 ++ fullB (lf ps[i]).flatten) ++ m3) ++ fullB (rt ps[i]).flatten) ++ c3).length ≤ 3020 := hl
          have : o.length + ((((o3 ++ fullB (lf ps[i]).flatten) ++ m3) ++ fullB (rt ps[i]).flatten) ++ c3).length ≤ 1099511627776 := by omega
          exact this), cond_true, Option.bind_some]
        dsimp only
        rw [wrap64 (by omega) (by omega)]
        rfl)
    (fun o hI => by
      show b_S_MarkedText_5 o ps ps.length ps.length = _
      unfold b_S_MarkedText_5
      rw [decide_eq_false (Int.lt_irrefl _), cond_false]) [] (Nat.zero_le _)
  have hm : ∀ (ps : List PA) (o : List UInt8), ps.foldl (fun (o : List UInt8) x => o ++ mS x) o = o ++ ps.flatMap mS := by
    intro l
    induction l with
    | nil => intro o; simp
    | cons s l ih => intro o; rw [List.foldl_cons, ih, List.flatMap_cons, List.append_assoc]
  rw [show w_S_MarkedText_5 ([], ps, (ps.length : Int), 0, ()) = _ from hF.1, hm, List.nil_append]

theorem map_endB_len {l : TX} : (l.map endB).length = l.length := List.length_map _
theorem markI_len {x : PA} (h : tot Y_impl_Part x ≤ 3000) : (mI x).length ≤ 3003 := by
  have ht := taken_tot h
  rw [part_tot] at h
  have l0 := len_tot (a := takenP x)
  have l1 := len_tot (a := lf x)
  have l2 := len_tot (a := rt x)
  unfold mI
  cases isCl x
  · rw [cond_false]; omega
  · rw [cond_true]
    unfold markI
    simp only [List.length_append, List.length_map, List.length_singleton]
    omega

theorem mark_loop (a b c : TX) (ps : List PA) (h : ps.length ≤ 1000) (ht : ∀ x ∈ ps, tot Y_impl_Part x ≤ 3000) :
    w_I_MarkedText_113_3 (a, b, c, [], false, ps, true, a, b, c, ps, true, true, false, ps, ([] : PV S_string), ps, (ps.length : Int), 0, ()) = some (a, b, c, [], false, ps, true, a, b, c, ps, true, true, false, ps, ps.flatMap mI, ()) := by
  have hF := fix_fold (B := fun d => b_I_MarkedText_113_3 d.1 d.2.1 d.2.2.1 d.2.2.2.1 d.2.2.2.2.1 d.2.2.2.2.2.1 d.2.2.2.2.2.2.1 d.2.2.2.2.2.2.2.1 d.2.2.2.2.2.2.2.2.1 d.2.2.2.2.2.2.2.2.2.1 d.2.2.2.2.2.2.2.2.2.2.1 d.2.2.2.2.2.2.2.2.2.2.2.1 d.2.2.2.2.2.2.2.2.2.2.2.2.1 d.2.2.2.2.2.2.2.2.2.2.2.2.2.1 d.2.2.2.2.2.2.2.2.2.2.2.2.2.2.1 d.2.2.2.2.2.2.2.2.2.2.2.2.2.2.2.1 d.2.2.2.2.2.2.2.2.2.2.2.2.2.2.2.2.1 d.2.2.2.2.2.2.2.2.2.2.2.2.2.2.2.2.2.1 d.2.2.2.2.2.2.2.2.2.2.2.2.2.2.2.2.2.2.1) ps (fun (o : TX) x => o ++ mI x)
    (fun o i => (a, b, c, [], false, ps, true, a, b, c, ps, true, true, false, ps, o, ps, (ps.length : Int), (i : Int), ())) (fun o => (a, b, c, [], false, ps, true, a, b, c, ps, true, true, false, ps, o, ())) (fun i o => o.length ≤ 3003 * i)
    (fun i hi o hI => by
      have hx : isCl ps[i] = (ps[i].1 == 5) := rfl
      have h3 := ht _ (List.getElem_mem hi)
      have hl := markI_len h3
      refine ⟨by rw [List.length_append]; omega, ?_⟩
      show b_I_MarkedText_113_3 _ _ _ _ _ _ _ _ _ _ _ _ _ _ _ o ps ps.length i = _
      unfold b_I_MarkedText_113_3
      rw [decide_eq_true (by omega : (i : Int) < (ps.length : Int)), cond_true, inB_lt hi, cond_true, toNat_cast, getD_of hi, ← hx]
      unfold mI at hl ⊢
      cases hc : isCl ps[i]
      · rw [hc, cond_false] at hl
        rw [cond_false, cond_false]
        unfold takenP at hl ⊢
        cases hc3 : (ps[i].1 == 3)
        · rw [hc3, cond_false] at hl
          rw [cond_false, cond_false, roomB_ok (by show o.length + (lf ps[i]).length ≤ _; omega), cond_true, Option.bind_some]
          dsimp only
          rw [wrap64 (by omega) (by omega)]
          rfl
        · rw [hc3, cond_true] at hl
          rw [cond_true, cond_true, roomB_ok (by show o.length + (rt ps[i]).length ≤ _; omega), cond_true, Option.bind_some]
          dsimp only
          rw [wrap64 (by omega) (by omega)]
          rfl
      · rw [hc, cond_true] at hl
        rw [cond_true, cond_true, mark_I h3, Option.bind_some]
        dsimp only
        rw [roomB_ok (by omega), cond_true, Option.bind_some]
        dsimp only
        rw [wrap64 (by omega) (by omega)]
        rfl)
    (fun o hI => by
      show b_I_MarkedText_113_3 _ _ _ _ _ _ _ _ _ _ _ _ _ _ _ o ps ps.length ps.length = _
      unfold b_I_MarkedText_113_3
      rw [decide_eq_false (Int.lt_irrefl _), cond_false]) [] (Nat.zero_le _)
  have h2 := hF.1
  rw [fold_flat, List.nil_append] at h2
  exact h2

theorem go_gl {a b c : TX} {l r : List Int} (h1 : GL b) (h2 : GL c) {i x y : Nat} {ps : List PA} (g : GoP a b c l r i x y ps) : ∀ p ∈ ps, GL (lf p) ∧ GL (rt p) := by
  have one : ∀ (i k x p y q : Nat), GL (lf (prt a b c i k x p y q)) ∧ GL (rt (prt a b c i k x p y q)) := fun i k x p y q => ⟨h1.cut _ _, h2.cut _ _⟩
  induction g with
  | stop => intro p hp; cases hp
  | run _ _ _ _ _ _ _ ih =>
    intro p hp
    rcases List.mem_cons.1 hp with rfl | hp
    · exact one ..
    · exact ih p hp
  | jump _ _ _ _ _ _ _ _ _ _ _ ih =>
    intro p hp
    rcases List.mem_cons.1 hp with rfl | hp
    · exact one ..
    · exact ih p hp

theorem parts_gl {a b c : TX} (ha : Sm a) (hb : Sm b) (hc : Sm c) (hk : ok3 a b c = true) {ps : List PA} (h : f_I_PartsOf a b c = some ((ps, true, ()), ())) : ∀ p ∈ ps, GL (lf p) ∧ GL (rt p) := by
  obtain ⟨k1, k2, k3⟩ := ok3_at hk
  have hk' := hk
  unfold ok3 at hk'
  rw [Bool.and_eq_true, Bool.and_eq_true] at hk'
  obtain ⟨g1, g2, g3⟩ := hk'
  obtain ⟨ps', g, gl⟩ := go_ex (a := a) (b := b) (c := c) 120 0 0 0 (by omega) (Nat.zero_le _) (Nat.zero_le _) (Nat.zero_le _) (fun u _ _ h => ⟨h.1, h.2⟩)
  have e := parts_I k1 k2 k3 (by omega) g
  unfold f_I_PartsOf at h
  rw [goodLines_I a ha, Option.bind_some] at h
  dsimp only at h
  rw [g1, Bool.not_true, cond_false, goodLines_I b hb, Option.bind_some] at h
  dsimp only at h
  rw [g2, Bool.not_true, cond_false, goodLines_I c hc, Option.bind_some, Option.bind_some] at h
  dsimp only at h
  rw [g3, Bool.not_true, cond_false, e, Option.bind_some] at h
  injection h with h
  injection h with h _
  injection h with h _
  rw [← show ps' = ps from h]
  exact go_gl (GL.of g2) (GL.of g3) g

theorem flat_flat (f : PA → TX) : ∀ ps : List PA, (ps.flatMap f).flatten = ps.flatMap fun x => (f x).flatten
  | [] => rfl
  | x :: ps => by rw [List.flatMap_cons, List.flatten_append, flat_flat f ps, List.flatMap_cons]
theorem flatMap_congr' {α β : Type} {f g : α → List β} : ∀ {l : List α}, (∀ x ∈ l, f x = g x) → l.flatMap f = l.flatMap g
  | [], _ => rfl
  | x :: l, h => by rw [List.flatMap_cons, List.flatMap_cons, h x (List.mem_cons_self ..), flatMap_congr' fun y hy => h y (List.mem_cons_of_mem _ hy)]
theorem flatMap_len {α β : Type} {f : α → List β} {n : Nat} : ∀ {l : List α}, (∀ x ∈ l, (f x).length ≤ n) → (l.flatMap f).length ≤ n * l.length
  | [], _ => Nat.le_refl _
  | x :: l, h => by
    have h1 := h x (List.mem_cons_self ..)
    have h2 := flatMap_len fun y hy => h y (List.mem_cons_of_mem _ hy)
    rw [List.flatMap_cons, List.length_append, List.length_cons, Nat.mul_add]
    omega

theorem marked_both {a b c : TX} (ha : Sm a) (hb : Sm b) (hc : Sm c) : ∃ (o : List UInt8) (k : Bool), f_I_MarkedText a b c = some ((o, k, ()), ()) ∧ f_S_MarkedText a b c = some ((o, k, ()), ()) := by
  obtain ⟨ps, hI, hS, hl, ht⟩ := partsOf_both ha hb hc
  unfold f_I_MarkedText f_S_MarkedText
  rw [hI, three_S ha hb hc, Option.bind_some, Option.bind_some]
  dsimp only
  cases hk : ok3 a b c
  · exact ⟨[], false, rfl, rfl⟩
  · rw [hk] at hI
    rw [hS hk]
    simp only [Bool.not_true, cond_false, Option.bind_some]
    rw [mark_S ps (by omega) ht, mark_loop a b c ps (by omega) ht, Option.bind_some, Option.bind_some]
    dsimp only
    have hgl := parts_gl ha hb hc hk hI
    have he : (ps.flatMap mI).flatten = ps.flatMap mS := by
      rw [flat_flat]
      exact flatMap_congr' fun x hx => m_eq (hgl x hx).1 (hgl x hx).2
    have h1 : (ps.flatMap mS).length ≤ 3020 * ps.length := flatMap_len fun x hx => mS_len (ht x hx)
    have h2 : (ps.flatMap mI).length ≤ 3003 * ps.length := flatMap_len fun x hx => markI_len (ht x hx)
    unfold f_strings_Join joinF
    rw [join_empty, he, decide_eq_true (by omega : (ps.flatMap mS).length ≤ 1099511627776), decide_eq_true (by omega : (ps.flatMap mI).length ≤ 1099511627776), Bool.and_self, cond_true, Option.bind_some]
    exact ⟨ps.flatMap mS, true, rfl, rfl⟩
end R
end

section
/- Drawn texts, and three of them: they are small. -/
open Go Go.Dn
namespace R
set_option linter.unusedVariables false

abbrev Cur := PV Y_spec_l1Cur
structure CurOk (K : Int) (c : Cur) : Prop where
  by_ : ∀ x ∈ (c.1 : List Int), 0 ≤ x ∧ x ≤ 255
  a0 : (0 : Int) ≤ c.2.1
  a1 : (c.2.1 : Int) ≤ K
theorem CurOk.up {K K' : Int} {c : Cur} (h : CurOk K c) (hk : K ≤ K') : CurOk K' c := ⟨h.by_, h.a0, Int.le_trans h.a1 hk⟩

theorem wrapU {n : Nat} (h : n ≤ 255) : IntKind.wrap .u64 (n : Int) = n := by
  simp [IntKind.wrap, IntKind.min, IntKind.max, IntKind.signed, IntKind.bits]
  omega
theorem and255 (X : Int) : (BitVec.ofInt (IntKind.bits .u64) X &&& BitVec.ofInt (IntKind.bits .u64) 255).toNat ≤ 255 := by
  rw [BitVec.toNat_and]
  exact Nat.le_trans Nat.and_le_right (by decide)
theorem and255w (X : Int) : 0 ≤ IntKind.wrap .i64 (IntKind.wrap .u64 ((BitVec.ofInt (IntKind.bits .u64) X &&& BitVec.ofInt (IntKind.bits .u64) 255).toNat : Int)) ∧ IntKind.wrap .i64 (IntKind.wrap .u64 ((BitVec.ofInt (IntKind.bits .u64) X &&& BitVec.ofInt (IntKind.bits .u64) 255).toNat : Int)) ≤ 255 := by
  have h := and255 X
  generalize (BitVec.ofInt (IntKind.bits .u64) X &&& BitVec.ofInt (IntKind.bits .u64) 255).toNat = n at *
  rw [wrapU h, wrap64 (by omega) (by omega)]
  omega

theorem next_ok {K : Int} {c : Cur} (h : CurOk K c) (hK : K ≤ 4611686018427387904) : ∃ (r : Int) (c' : Cur), f_S_l1Cur_next c = some ((r, ()), (c', ())) ∧ 0 ≤ r ∧ r ≤ 255 ∧ CurOk (K + 1) c' := by
  obtain ⟨code, at_, seed, u⟩ := c
  obtain ⟨h1, h2, h3⟩ := h
  have h1 : ∀ x ∈ (code : List Int), 0 ≤ x ∧ x ≤ 255 := h1
  have h2 : (0 : Int) ≤ at_ := h2
  have h3 : (at_ : Int) ≤ K := h3
  have e : ∀ a : Int, 0 ≤ a → a ≤ K → IntKind.wrap .i64 (a + 1) = a + 1 ∧ 0 ≤ a + 1 ∧ a + 1 ≤ K + 1 := fun a _ _ => ⟨wrap64 (by omega) (by omega), by omega, by omega⟩
  obtain ⟨e1, e2, e3⟩ := e _ h2 h3
  have fin : ∀ (b : Int), 0 ≤ b → b ≤ 255 → ∃ (r : Int) (c' : Cur), (bif (decide ((IntKind.wrap .i64 (at_ + 1)) ≤ (List.length code : Int))) then
      some ((b, ()), ((code, ((IntKind.wrap .i64 (at_ + 1)), ((IntKind.wrap .u64 ((IntKind.wrap .u64 ((IntKind.wrap .u64 (seed * 6364136223846793005)) + (IntKind.wrap .u64 b))) + 1442695040888963407)), u))), ()))
    else
      bif decide ((0 : Int) ≤ 40) then
        some (((IntKind.wrap .i64 (IntKind.wrap .u64 ((BitVec.ofInt (IntKind.bits .u64) ((IntKind.wrap .u64 ((IntKind.wrap .u64 ((IntKind.wrap .u64 (seed * 6364136223846793005)) + (IntKind.wrap .u64 b))) + 1442695040888963407)).fdiv (2 ^ (min (40 : Int).toNat (IntKind.bits .u64)))) &&& BitVec.ofInt (IntKind.bits .u64) 255).toNat : Int))), ()), ((code, ((IntKind.wrap .i64 (at_ + 1)), ((IntKind.wrap .u64 ((IntKind.wrap .u64 ((IntKind.wrap .u64 (seed * 6364136223846793005)) + (IntKind.wrap .u64 b))) + 1442695040888963407)), u))), ()))
      else
        none : Option (PVs [(.int .i64)] × PVs [Y_spec_l1Cur])) = some ((r, ()), (c', ())) ∧ 0 ≤ r ∧ r ≤ 255 ∧ CurOk (K + 1) c' := by
    intro b b0 b1
    cases decide ((IntKind.wrap .i64 (at_ + 1)) ≤ (List.length code : Int))
    · rw [cond_false, decide_eq_true (by omega : (0 : Int) ≤ 40), cond_true]
      refine ⟨_, _, rfl, (and255w _).1, (and255w _).2, h1, ?_, ?_⟩
      · show 0 ≤ IntKind.wrap .i64 (at_ + 1); rw [e1]; exact e2
      · show IntKind.wrap .i64 (at_ + 1) ≤ K + 1; rw [e1]; exact e3
    · rw [cond_true]
      refine ⟨_, _, rfl, b0, b1, h1, ?_, ?_⟩
      · show 0 ≤ IntKind.wrap .i64 (at_ + 1); rw [e1]; exact e2
      · show IntKind.wrap .i64 (at_ + 1) ≤ K + 1; rw [e1]; exact e3
  unfold f_S_l1Cur_next
  dsimp only
  cases hc : decide (at_ < (List.length code : Int))
  · rw [cond_false, Option.bind_some]
    exact fin 0 (by omega) (by omega)
  · have hlt : at_ < (List.length code : Int) := of_decide_eq_true hc
    obtain ⟨i, rfl⟩ : ∃ i : Nat, at_ = (i : Int) := ⟨at_.toNat, (Int.toNat_of_nonneg h2).symm⟩
    have hi : i < List.length code := Int.ofNat_lt.1 hlt
    obtain ⟨b0, b1⟩ := h1 _ (List.getElem_mem hi)
    rw [cond_true, inB_lt hi, cond_true, Option.bind_some]
    dsimp only
    rw [toNat_cast, getD_of hi]
    have e4 : ∀ b : Int, 0 ≤ b → b ≤ 255 → IntKind.wrap .i64 b = b := fun b _ _ => wrap64 (by omega) (by omega)
    rw [e4 _ b0 b1]
    exact fin _ b0 b1

theorem pick_ok {K n : Int} {c : Cur} (h : CurOk K c) (hK : K ≤ 4611686018427387000) (hn : n ≤ 1000000) : ∃ (r : Int) (c' : Cur), f_S_l1Cur_pick c n = some ((r, ()), (c', ())) ∧ 0 ≤ r ∧ (1 ≤ n → r < n) ∧ (n ≤ 1 → r = 0) ∧ CurOk (K + 2) c' := by
  unfold f_S_l1Cur_pick
  by_cases h1 : n ≤ 1
  · rw [decide_eq_true h1, cond_true]
    exact ⟨0, c, rfl, Int.le_refl _, fun _ => by omega, fun _ => rfl, h.up (by omega)⟩
  · rw [decide_eq_false h1, cond_false]
    obtain ⟨r, c1, q1, q2, q3, q4⟩ := next_ok h (by omega)
    rw [q1, Option.bind_some]
    dsimp only
    have fin : ∀ (x : Int) (c2 : Cur), 0 ≤ x → CurOk (K + 2) c2 → ∃ (r : Int) (c' : Cur), (bif n == 0 then none else some ((x.tmod n, ()), (c2, ())) : Option (PVs [(.int .i64)] × PVs [Y_spec_l1Cur])) = some ((r, ()), (c', ())) ∧ 0 ≤ r ∧ (1 ≤ n → r < n) ∧ (n ≤ 1 → r = 0) ∧ CurOk (K + 2) c' := by
      intro x c2 hx hc
      rw [show (n == 0) = false from by rw [beq_eq_false_iff_ne]; omega, cond_false]
      exact ⟨_, _, rfl, Int.tmod_nonneg n hx, fun _ => Int.tmod_lt_of_pos x (by omega), fun q => absurd q h1, hc⟩
    by_cases h2 : n > 200
    · obtain ⟨r2, c2, p1, p2, p3, p4⟩ := next_ok q4 (by omega)
      rw [decide_eq_true h2, cond_true, p1, Option.bind_some, Option.bind_some]
      dsimp only
      rw [wrap64 (x := r * 256) (by omega) (by omega), wrap64 (x := r * 256 + r2) (by omega) (by omega)]
      exact fin _ _ (by omega) (p4.up (by omega))
    · rw [decide_eq_false h2, cond_false, Option.bind_some]
      exact fin _ _ q2 (q4.up (by omega))

theorem one_ok {K n : Int} {c : Cur} (h : CurOk K c) (hK : K ≤ 4611686018427387000) (hn : n ≤ 1000000) : ∃ (r : Bool) (c' : Cur), f_S_l1Cur_one c n = some ((r, ()), (c', ())) ∧ CurOk (K + 2) c' := by
  obtain ⟨r, c1, q1, _, _, _, q4⟩ := pick_ok h hK hn
  unfold f_S_l1Cur_one
  rw [q1, Option.bind_some]
  exact ⟨_, _, rfl, q4⟩

def wl : List (List UInt8) := [[97], [98], [99], [100], [], [46], [46, 46], [111, 110, 101, 32, 116, 119, 111], [43, 120], [45, 121], [92, 32, 122], [64, 64]]
theorem wl_sm : ∀ i < 12, (wl.getD i []).length ≤ 8 := by decide
def wl3 : List (List UInt8) := [[97], [101, 110, 100], [46]]
theorem wl3_sm : ∀ i < 3, 1 ≤ (wl3.getD i []).length ∧ (wl3.getD i []).length ≤ 8 := by decide

theorem line_ok {K : Int} {c : Cur} (h : CurOk K c) (hK : K ≤ 4611686018427387000) : ∃ (s : List UInt8) (c' : Cur), f_S_l1Cur_line c = some ((s, ()), (c', ())) ∧ s.length ≤ 8 ∧ CurOk (K + 2) c' := by
  obtain ⟨r, c1, q1, q2, q3, _, q4⟩ := pick_ok (n := 12) h hK (by omega)
  have e : f_S_l1Cur_line c = (f_S_l1Cur_pick c 12).bind fun r1 => bif inB r1.1.1 12 then some ((wl.getD r1.1.1.toNat [], ()), (r1.2.1, ())) else none := rfl
  obtain ⟨i, rfl⟩ : ∃ i : Nat, r = (i : Int) := ⟨r.toNat, (Int.toNat_of_nonneg q2).symm⟩
  have hi : i < 12 := by have := q3 (by omega); omega
  rw [e, q1, Option.bind_some]
  dsimp only
  rw [show inB (i : Int) 12 = true from inB_lt hi, cond_true, toNat_cast]
  exact ⟨_, _, rfl, wl_sm i hi, q4⟩


def SmN (m : Nat) (l : TX) : Prop := ∀ s ∈ l, 1 ≤ s.length ∧ s.length ≤ m
theorem SmN.snoc {m : Nat} {l : TX} {s : List UInt8} (h : SmN m l) (h1 : 1 ≤ s.length) (h2 : s.length ≤ m) : SmN m (l ++ [s]) := by
  intro x hx
  rcases List.mem_append.1 hx with hx | hx
  · exact h x hx
  · obtain rfl := List.mem_singleton.1 hx
    exact ⟨h1, h2⟩
theorem SmN.app {m : Nat} {l l' : TX} (h : SmN m l) (h' : SmN m l') : SmN m (l ++ l') := fun x hx => (List.mem_append.1 hx).elim (h x) (h' x)
theorem SmN.set {m : Nat} {l : TX} {i : Nat} {s : List UInt8} (h : SmN m l) (h1 : 1 ≤ s.length) (h2 : s.length ≤ m) : SmN m (l.set i s) := by
  intro x hx
  rcases List.mem_or_eq_of_mem_set hx with hx | rfl
  · exact h x hx
  · exact ⟨h1, h2⟩
theorem SmN.up {m m' : Nat} {l : TX} (h : SmN m l) (hm : m ≤ m') : SmN m' l := fun x hx => ⟨(h x hx).1, Nat.le_trans (h x hx).2 hm⟩
theorem cutG_mem {l : TX} {a b : Int} {x : List UInt8} (hx : x ∈ cutL a b l) : x ∈ l := List.mem_of_mem_take (List.mem_of_mem_drop hx)
theorem SmN.cut {m : Nat} {l : TX} {a b : Int} (h : SmN m l) : SmN m (cutL a b l) := fun x hx => h x (cutG_mem hx)
theorem cutG_len {α : Type} {l : List α} {a b : Int} : (cutL a b l).length ≤ b.toNat - a.toNat := by
  unfold cutL
  rw [List.length_drop, List.length_take]
  omega
theorem cutG_ok {a b : Int} {n : Nat} (h0 : 0 ≤ a) (h1 : a ≤ b) (h2 : b ≤ (n : Int)) : cutB a b n = true := by
  unfold cutB
  rw [decide_eq_true h0, decide_eq_true h1, decide_eq_true h2]
  rfl
theorem SmN.sm {m : Nat} {l : TX} (h : SmN m l) (hm : m ≤ 1000) (hl : l.length ≤ 1000) : Sm l := ⟨by omega, fun s hs => by have := h s hs; omega⟩

theorem text_loop : ∀ (n : Nat) {K : Int} {c : Cur} {l : TX}, CurOk K c → K + 2 * (n : Int) ≤ 4611686018427380000 → n ≤ 100 → l.length + n ≤ 500 → SmN 9 l → ∃ (c' : Cur) (l' : TX), w_S_l1Cur_text_3 (c, l, (n : Int), ()) = some (c', l', ()) ∧ l'.length = l.length + n ∧ SmN 9 l' ∧ CurOk (K + 2 * n) c'
  | 0, K, c, l, h, hK, hn, hl, hs => by
    refine ⟨c, l, fix_end (B := fun d => b_S_l1Cur_text_3 d.1 d.2.1 d.2.2.1) ?_, rfl, hs, h.up (by omega)⟩
    show b_S_l1Cur_text_3 c l 0 = _
    unfold b_S_l1Cur_text_3
    rw [decide_eq_false (by omega : ¬ ((0 : Int) > 0)), cond_false]
  | n + 1, K, c, l, h, hK, hn, hl, hs => by
    obtain ⟨s, c1, q1, q2, q3⟩ := line_ok h (by omega)
    obtain ⟨c', l', p1, p2, p3, p4⟩ := text_loop n (c := c1) (l := l ++ [s ++ [10]]) q3 (by omega) (by omega) (by simp; omega) (hs.snoc (by simp) (by simp; omega))
    refine ⟨c', l', ?_, by rw [p2]; simp; omega, p3, p4.up (by omega)⟩
    rw [← p1]
    refine fix_go (B := fun d => b_S_l1Cur_text_3 d.1 d.2.1 d.2.2.1) ?_
    show b_S_l1Cur_text_3 c l ((n + 1 : Nat) : Int) = _
    unfold b_S_l1Cur_text_3
    rw [decide_eq_true (by omega : ((n + 1 : Nat) : Int) > 0), cond_true, q1, Option.bind_some]
    dsimp only
    rw [decide_eq_true (by rw [List.length_cons, List.length_nil]; omega), cond_true, roomB_ok (by rw [List.length_cons, List.length_nil]; omega), cond_true, show IntKind.wrap .i64 (((n + 1 : Nat) : Int) - 1) = (n : Int) from by rw [wrap64 (by omega) (by omega)]; omega]

theorem text_ok {K : Int} {c : Cur} (h : CurOk K c) (hK : K ≤ 4611686018427370000) : ∃ (l : TX) (c' : Cur), f_S_l1Cur_text c = some ((l, ()), (c', ())) ∧ l.length ≤ 9 ∧ SmN 9 l ∧ CurOk (K + 30) c' := by
  obtain ⟨r, c1, q1, q2, q3, _, q4⟩ := pick_ok (n := 9) h (by omega) (by omega)
  obtain ⟨n, rfl⟩ : ∃ n : Nat, r = (n : Int) := ⟨r.toNat, (Int.toNat_of_nonneg q2).symm⟩
  have hn : n < 9 := by have := q3 (by omega); omega
  obtain ⟨c2, l, p1, p2, p3, p4⟩ := text_loop n (l := []) q4 (by omega) (by omega) (by simp; omega) (fun s hs => by cases hs)
  obtain ⟨b, c3, o1, o2⟩ := one_ok (n := 5) p4 (by omega) (by omega)
  have hl : l.length ≤ 8 := by rw [p2]; simp; omega
  unfold f_S_l1Cur_text
  rw [q1, Option.bind_some]
  dsimp only
  rw [p1, Option.bind_some]
  dsimp only
  rw [o1, Option.bind_some]
  dsimp only
  cases b
  · rw [cond_false, Option.bind_some]
    exact ⟨_, _, rfl, by show List.length l ≤ 9; omega, p3, o2.up (by omega)⟩
  · obtain ⟨r4, c4, s1, s2, s3, _, s4⟩ := pick_ok (n := 3) o2 (by omega) (by omega)
    obtain ⟨i, rfl⟩ : ∃ i : Nat, r4 = (i : Int) := ⟨r4.toNat, (Int.toNat_of_nonneg s2).symm⟩
    have hi : i < 3 := by have := s3 (by omega); omega
    rw [cond_true, show ([[97], [101, 110, 100], [46]].length : Int) = 3 from rfl, s1, Option.bind_some]
    dsimp only
    rw [show inB (i : Int) [[97], [101, 110, 100], [46]].length = true from inB_lt hi, cond_true, roomB_ok (by rw [List.length_cons, List.length_nil]; omega), cond_true, Option.bind_some, toNat_cast]
    have hw := wl3_sm i hi
    exact ⟨_, _, rfl, by rw [List.length_append, List.length_cons, List.length_nil]; omega, p3.snoc hw.1 (by have := hw.2; show List.length (wl3.getD i []) ≤ 9; omega), s4.up (by omega)⟩

theorem whole_S {l : TX} (hl : l.length ≤ 100) {m : Nat} (hm : m ≤ 1000) (hs : SmN m l) : ∃ b : Bool, f_S_l1Whole l = some ((b, ()), ()) := by
  unfold f_S_l1Whole
  by_cases h : l.length = 0
  · rw [show ((l.length : Int) == 0) = true from by rw [h]; rfl]
    exact ⟨_, rfl⟩
  · have hi : l.length - 1 < l.length := by omega
    obtain ⟨h1, h2⟩ := hs _ (List.getElem_mem hi)
    rw [show ((l.length : Int) == 0) = false from by rw [beq_eq_false_iff_ne]; omega, cond_false, show IntKind.wrap .i64 ((l.length : Int) - 1) = ((l.length - 1 : Nat) : Int) from by rw [wrap64 (by omega) (by omega)]; omega, inB_lt hi, cond_true, toNat_cast, getD_of hi, ends_S _ h1 (by omega), Option.bind_some]
    exact ⟨_, rfl⟩


theorem plain_S {s : List UInt8} (h1 : 1 ≤ s.length) (h2 : s.length ≤ 1000) : ∃ r : List UInt8, f_S_l1Plain s = some ((r, ()), ()) ∧ r.length ≤ s.length := by
  unfold f_S_l1Plain
  rw [ends_S s h1 (by omega), Option.bind_some]
  dsimp only
  cases endP s
  · exact ⟨_, rfl, Nat.le_refl _⟩
  · have hw : IntKind.wrap .i64 ((s.length : Int) - 1) = ((s.length - 1 : Nat) : Int) := by rw [wrap64 (by omega) (by omega)]; omega
    rw [cond_true, hw, cutG_ok (by omega) (by omega) (by omega), cond_true]
    refine ⟨_, rfl, ?_⟩
    have := cutG_len (l := s) (a := 0) (b := ((s.length - 1 : Nat) : Int))
    rw [toNat_cast] at this
    omega

theorem other_step {m : Nat} (hm9 : 9 ≤ m) (hm : m ≤ 100) (n : Nat) (hn : n ≤ 10) {K : Int} {c : Cur} {l : TX} (h : CurOk K c) (hK : K ≤ 4611686018427380000) (hl : l.length ≤ 60) (hs : SmN m l) :
    ∃ (c' : Cur) (l' : TX), b_S_l1Cur_other_3 c l ((n + 1 : Nat) : Int) = some (.inl (c', l', (n : Int), ())) ∧ l'.length ≤ l.length + 1 ∧ SmN m l' ∧ CurOk (K + 6) c' := by
  obtain ⟨r1, c1, a1, a2, a3, a4, a5⟩ := pick_ok (n := (l.length : Int) + 1) h (by omega) (by omega)
  have a3 := a3 (by omega)
  obtain ⟨r2, c2, b1, b2, b3, b4, b5⟩ := pick_ok (n := 3) a5 (by omega) (by omega)
  obtain ⟨k, rfl⟩ : ∃ k : Nat, r1 = (k : Int) := ⟨r1.toNat, (Int.toNat_of_nonneg a2).symm⟩
  obtain ⟨s, c3, e1, e2, e3⟩ := line_ok b5 (by omega)
  obtain ⟨wb, hw⟩ := whole_S (l := l) (by omega) (by omega) hs
  have w1 : IntKind.wrap .i64 (((n + 1 : Nat) : Int) - 1) = (n : Int) := by rw [wrap64 (by omega) (by omega)]; omega
  have hsl : 1 ≤ (s ++ [10]).length ∧ (s ++ [10]).length ≤ m := by simp; omega
  unfold b_S_l1Cur_other_3
  rw [decide_eq_true (by omega : ((n + 1 : Nat) : Int) > 0), cond_true, wrap64 (x := (l.length : Int) + 1) (by omega) (by omega), a1, Option.bind_some]
  dsimp only
  rw [b1, Option.bind_some]
  dsimp only
  cases hr0 : (r2 == 0)
  · rw [cond_false]
    cases hr1 : (r2 == 1)
    · rw [cond_false]
      have tail : ∀ q : Bool, ∃ (c' : Cur) (l' : TX), (((some (c2, l, ((n + 1 : Nat) : Int), (k : Int), q, ()) : Option ((PV Y_spec_l1Cur × PV S_string × PV (.int .i64) × PV (.int .i64) × PV .bool × Unit))).bind fun j14 =>
                  bif j14.2.2.2.2.1 then
                    bif cutB 0 j14.2.2.2.1 j14.2.1.length then
                      (f_S_l1OwnT (cutL 0 j14.2.2.2.1 j14.2.1)).bind fun r15 =>
                        (f_S_l1Cur_line j14.1).bind fun r16 =>
                          bif decide (r16.1.1.length + [10].length ≤ 1099511627776) then
                            bif roomB (r15.1.1.length + [(r16.1.1 ++ [10])].length) then
                              bif cutB j14.2.2.2.1 (j14.2.1.length : Int) j14.2.1.length then
                                bif roomB ((r15.1.1 ++ [(r16.1.1 ++ [10])]).length + (cutL j14.2.2.2.1 (j14.2.1.length : Int) j14.2.1).length) then
                                  some (r16.2.1, ((r15.1.1 ++ [(r16.1.1 ++ [10])]) ++ (cutL j14.2.2.2.1 (j14.2.1.length : Int) j14.2.1)), j14.2.2.1, ())
                                else
                                  none
                              else
                                none
                            else
                              none
                          else
                            none
                    else
                      none
                  else
                    some (j14.1, j14.2.1, j14.2.2.1, ()) : Option ((PV Y_spec_l1Cur × PV S_string × PV (.int .i64) × Unit))).bind fun j17 => some (.inl (j17.1, j17.2.1, (IntKind.wrap .i64 (j17.2.2.1 - 1)), ())) : Option ((PV Y_spec_l1Cur × PV S_string × PV (.int .i64) × Unit) ⊕ ((PV Y_spec_l1Cur × PV S_string × Unit)))) = some (.inl (c', l', (n : Int), ())) ∧ l'.length ≤ l.length + 1 ∧ SmN m l' ∧ CurOk (K + 6) c' := by
        intro q
        rw [Option.bind_some]
        dsimp only
        cases q
        · rw [cond_false, Option.bind_some]
          dsimp only
          rw [w1]
          exact ⟨_, _, rfl, by omega, hs, b5.up (by omega)⟩
        · have l1 := cutG_len (l := l) (a := 0) (b := (k : Int))
          have l2 := cutG_len (l := l) (a := (k : Int)) (b := (l.length : Int))
          rw [toNat_cast] at l1 l2
          rw [toNat_cast] at l2
          rw [cond_true, cutG_ok (by omega) (by omega) (by omega), cond_true, own_Sx _ (by omega), Option.bind_some]
          dsimp only
          rw [e1, Option.bind_some]
          dsimp only
          rw [decide_eq_true (by rw [List.length_cons, List.length_nil]; omega), cond_true, roomB_ok (by rw [List.length_cons, List.length_nil]; omega), cond_true, cutG_ok (by omega) (by omega) (by omega), cond_true, roomB_ok (by rw [List.length_append, List.length_cons, List.length_nil]; omega), cond_true, Option.bind_some]
          dsimp only
          rw [w1]
          exact ⟨_, _, rfl, by rw [List.length_append, List.length_append, List.length_cons, List.length_nil]; omega, (hs.cut.snoc hsl.1 hsl.2).app hs.cut, e3.up (by omega)⟩
      cases decide ((k : Int) < (l.length : Int))
      · rw [cond_false, hw, Option.bind_some]
        exact tail wb
      · exact tail true
    · rw [cond_true]
      have tail : ∀ q : Bool, k < l.length ∨ q = false → ∃ (c' : Cur) (l' : TX), (((some (c2, l, ((n + 1 : Nat) : Int), (k : Int), q, ()) : Option ((PV Y_spec_l1Cur × PV S_string × PV (.int .i64) × PV (.int .i64) × PV .bool × Unit))).bind fun j11 =>
                  bif j11.2.2.2.2.1 then
                    (f_S_l1Cur_line j11.1).bind fun r12 =>
                      bif decide (r12.1.1.length + [10].length ≤ 1099511627776) then
                        bif inB j11.2.2.2.1 j11.2.1.length then
                          some (r12.2.1, (j11.2.1.set j11.2.2.2.1.toNat (r12.1.1 ++ [10])), j11.2.2.1, ())
                        else
                          none
                      else
                        none
                  else
                    some (j11.1, j11.2.1, j11.2.2.1, ()) : Option ((PV Y_spec_l1Cur × PV S_string × PV (.int .i64) × Unit))).bind fun j17 => some (.inl (j17.1, j17.2.1, (IntKind.wrap .i64 (j17.2.2.1 - 1)), ())) : Option ((PV Y_spec_l1Cur × PV S_string × PV (.int .i64) × Unit) ⊕ ((PV Y_spec_l1Cur × PV S_string × Unit)))) = some (.inl (c', l', (n : Int), ())) ∧ l'.length ≤ l.length + 1 ∧ SmN m l' ∧ CurOk (K + 6) c' := by
        intro q hq
        rw [Option.bind_some]
        dsimp only
        cases q
        · rw [cond_false, Option.bind_some]
          dsimp only
          rw [w1]
          exact ⟨_, _, rfl, by omega, hs, b5.up (by omega)⟩
        · have hk : k < l.length := by rcases hq with hq | hq; exact hq; cases hq
          rw [cond_true, e1, Option.bind_some]
          dsimp only
          rw [decide_eq_true (by rw [List.length_cons, List.length_nil]; omega), cond_true, inB_lt hk, cond_true, Option.bind_some]
          dsimp only
          rw [w1]
          exact ⟨_, _, rfl, by rw [List.length_set]; omega, hs.set hsl.1 hsl.2, e3.up (by omega)⟩
      by_cases hk : k < l.length
      · obtain ⟨h1, h2⟩ := hs _ (List.getElem_mem hk)
        rw [decide_eq_true (by omega : (k : Int) < (l.length : Int)), cond_true, inB_lt hk, cond_true, toNat_cast, getD_of hk, ends_S _ h1 (by omega), Option.bind_some]
        exact tail _ (.inl hk)
      · rw [decide_eq_false (by omega : ¬ (k : Int) < (l.length : Int)), cond_false]
        exact tail false (.inr rfl)
  · rw [cond_true]
    by_cases hk : k < l.length
    · have l1 := cutG_len (l := l) (a := 0) (b := (k : Int))
      have l2 := cutG_len (l := l) (a := ((k + 1 : Nat) : Int)) (b := (l.length : Int))
      rw [toNat_cast] at l1 l2
      rw [toNat_cast] at l2
      rw [decide_eq_true (by omega : (k : Int) < (l.length : Int)), cond_true, cutG_ok (by omega) (by omega) (by omega), cond_true, own_Sx _ (by omega), Option.bind_some]
      dsimp only
      rw [show IntKind.wrap .i64 ((k : Int) + 1) = ((k + 1 : Nat) : Int) from by rw [wrap64 (by omega) (by omega)]; omega, cutG_ok (by omega) (by omega) (by omega), cond_true, roomB_ok (by omega), cond_true, Option.bind_some]
      dsimp only
      rw [w1]
      exact ⟨_, _, rfl, by rw [List.length_append]; omega, hs.cut.app hs.cut, b5.up (by omega)⟩
    · rw [decide_eq_false (by omega : ¬ (k : Int) < (l.length : Int)), cond_false, Option.bind_some]
      dsimp only
      rw [w1]
      exact ⟨_, _, rfl, by omega, hs, b5.up (by omega)⟩

theorem other_loop {m : Nat} (hm9 : 9 ≤ m) (hm : m ≤ 100) : ∀ (n : Nat) {K : Int} {c : Cur} {l : TX}, CurOk K c → K + 6 * (n : Int) ≤ 4611686018427370000 → n ≤ 10 → l.length + n ≤ 60 → SmN m l →
    ∃ (c' : Cur) (l' : TX), w_S_l1Cur_other_3 (c, l, (n : Int), ()) = some (c', l', ()) ∧ l'.length ≤ l.length + n ∧ SmN m l' ∧ CurOk (K + 6 * n) c'
  | 0, K, c, l, h, hK, hn, hl, hs => by
    refine ⟨c, l, fix_end (B := fun d => b_S_l1Cur_other_3 d.1 d.2.1 d.2.2.1) ?_, by omega, hs, h.up (by omega)⟩
    show b_S_l1Cur_other_3 c l 0 = _
    unfold b_S_l1Cur_other_3
    rw [decide_eq_false (by omega : ¬ ((0 : Int) > 0)), cond_false]
  | n + 1, K, c, l, h, hK, hn, hl, hs => by
    obtain ⟨c1, l1, q1, q2, q3, q4⟩ := other_step hm9 hm n (by omega) h (by omega) (by omega) hs
    obtain ⟨c', l', p1, p2, p3, p4⟩ := other_loop hm9 hm n q4 (by omega) (by omega) (by omega) q3
    refine ⟨c', l', ?_, by omega, p3, p4.up (by omega)⟩
    rw [← p1]
    exact fix_go (B := fun d => b_S_l1Cur_other_3 d.1 d.2.1 d.2.2.1) q1

theorem other_ok {m : Nat} (hm9 : 9 ≤ m) (hm : m ≤ 50) {K : Int} {c : Cur} {l : TX} (h : CurOk K c) (hK : K ≤ 4611686018427300000) (hl : l.length ≤ 50) (hs : SmN m l) :
    ∃ (l' : TX) (c' : Cur), f_S_l1Cur_other c l = some ((l', ()), (c', ())) ∧ l'.length ≤ l.length + 3 ∧ SmN (m + 1) l' ∧ CurOk (K + 30) c' := by
  obtain ⟨r, c1, q1, q2, q3, _, q4⟩ := pick_ok (n := 4) h (by omega) (by omega)
  have q3 := q3 (by omega)
  obtain ⟨n, rfl⟩ : ∃ n : Nat, r = (n : Int) := ⟨r.toNat, (Int.toNat_of_nonneg q2).symm⟩
  obtain ⟨c2, l2, p1, p2, p3, p4⟩ := other_loop hm9 (by omega) n q4 (by omega) (by omega) (by omega) hs
  unfold f_S_l1Cur_other
  rw [own_Sx _ (by omega), Option.bind_some]
  dsimp only
  rw [q1, Option.bind_some]
  dsimp only
  rw [p1, Option.bind_some]
  dsimp only
  by_cases hl0 : (l2.length : Int) > 0
  · obtain ⟨o, c3, o1, o2⟩ := one_ok (n := 6) p4 (by omega) (by omega)
    rw [decide_eq_true hl0, cond_true, o1, Option.bind_some, Option.bind_some]
    dsimp only
    cases o
    · rw [cond_false, Option.bind_some]
      exact ⟨_, _, rfl, by show List.length l2 ≤ _; omega, p3.up (by omega), o2.up (by omega)⟩
    · have hi : l2.length - 1 < l2.length := by omega
      have hw : IntKind.wrap .i64 ((l2.length : Int) - 1) = ((l2.length - 1 : Nat) : Int) := by rw [wrap64 (by omega) (by omega)]; omega
      obtain ⟨h1, h2⟩ := p3 _ (List.getElem_mem hi)
      obtain ⟨pl, pe, pll⟩ := plain_S (s := l2[l2.length - 1]) h1 (by omega)
      rw [cond_true, hw, inB_lt hi, cond_true, toNat_cast, getD_of hi, pe, Option.bind_some]
      dsimp only
      rw [cond_true, ends_S _ h1 (by omega), Option.bind_some]
      dsimp only
      cases endP l2[l2.length - 1]
      · rw [Bool.not_false, cond_true, decide_eq_true (by rw [List.length_cons, List.length_nil]; omega), cond_true, cond_true, Option.bind_some]
        exact ⟨_, _, rfl, by show List.length (l2.set _ _) ≤ _; rw [List.length_set]; omega, (p3.up (by omega)).set (by simp) (by rw [List.length_append, List.length_cons, List.length_nil]; omega), o2.up (by omega)⟩
      · rw [Bool.not_true, cond_false]
        cases hpe : (pl == ([] : List UInt8))
        · rw [Bool.not_false, cond_true, cond_true, Option.bind_some]
          have hne : pl.length ≠ 0 := fun hz => by
            have : pl = [] := List.length_eq_zero_iff.1 hz
            rw [this] at hpe
            cases hpe
          exact ⟨_, _, rfl, by show List.length (l2.set _ _) ≤ _; rw [List.length_set]; omega, (p3.up (by omega)).set (by omega) (by omega), o2.up (by omega)⟩
        · rw [Bool.not_true, cond_false, Option.bind_some]
          exact ⟨_, _, rfl, by show List.length l2 ≤ _; omega, p3.up (by omega), o2.up (by omega)⟩
  · rw [decide_eq_false hl0, cond_false, Option.bind_some]
    dsimp only
    rw [cond_false, Option.bind_some]
    exact ⟨_, _, rfl, by show List.length l2 ≤ _; omega, p3.up (by omega), p4.up (by omega)⟩


theorem start_ok {t : PV S_uint8} (hw : WfV S_uint8 t) : CurOk 0 ((t, (0, (0, ()))) : Cur) := ⟨fun x hx => by have := hw.2 x hx; exact this, Int.le_refl _, Int.le_refl _⟩

/-- Lines of any kind, few and short. -/
def Few (l : TX) : Prop := l.length ≤ 20 ∧ ∀ s ∈ l, List.length s ≤ 20
theorem Few.sm {l : TX} (h : Few l) : Sm l := ⟨by have := h.1; omega, fun s hs => by have := h.2 s hs; omega⟩
theorem SmN.few {m : Nat} {l : TX} (h : SmN m l) (hm : m ≤ 20) (hl : l.length ≤ 20) : Few l := ⟨hl, fun s hs => Nat.le_trans (h s hs).2 hm⟩

theorem any_loop : ∀ (n : Nat) {K : Int} {c : Cur} {l : TX}, CurOk K c → K + 2 * (n : Int) ≤ 4611686018427380000 → n ≤ 100 → l.length + n ≤ 500 → SmN 9 l → ∃ (c' : Cur) (l' : TX), w_S_l1Cur_anyText_136_3 (c, [], l, (n : Int), ()) = some (c', [], l', ()) ∧ l'.length = l.length + n ∧ SmN 9 l' ∧ CurOk (K + 2 * n) c'
  | 0, K, c, l, h, hK, hn, hl, hs => by
    refine ⟨c, l, fix_end (B := fun d => b_S_l1Cur_anyText_136_3 d.1 d.2.1 d.2.2.1 d.2.2.2.1) ?_, rfl, hs, h.up (by omega)⟩
    show b_S_l1Cur_anyText_136_3 c [] l 0 = _
    unfold b_S_l1Cur_anyText_136_3
    rw [decide_eq_false (by omega : ¬ ((0 : Int) > 0)), cond_false]
  | n + 1, K, c, l, h, hK, hn, hl, hs => by
    obtain ⟨s, c1, q1, q2, q3⟩ := line_ok h (by omega)
    obtain ⟨c', l', p1, p2, p3, p4⟩ := any_loop n (c := c1) (l := l ++ [s ++ [10]]) q3 (by omega) (by omega) (by simp; omega) (hs.snoc (by simp) (by simp; omega))
    refine ⟨c', l', ?_, by rw [p2]; simp; omega, p3, p4.up (by omega)⟩
    rw [← p1]
    refine fix_go (B := fun d => b_S_l1Cur_anyText_136_3 d.1 d.2.1 d.2.2.1 d.2.2.2.1) ?_
    show b_S_l1Cur_anyText_136_3 c [] l ((n + 1 : Nat) : Int) = _
    unfold b_S_l1Cur_anyText_136_3
    rw [decide_eq_true (by omega : ((n + 1 : Nat) : Int) > 0), cond_true, q1, Option.bind_some]
    dsimp only
    rw [decide_eq_true (by rw [List.length_cons, List.length_nil]; omega), cond_true, roomB_ok (by rw [List.length_cons, List.length_nil]; omega), cond_true, show IntKind.wrap .i64 (((n + 1 : Nat) : Int) - 1) = (n : Int) from by rw [wrap64 (by omega) (by omega)]; omega]

theorem few_set {l : TX} {s : List UInt8} (h : Few l) (hs : s.length ≤ 20) (i : Nat) : Few (l.set i s) := by
  refine ⟨by rw [List.length_set]; exact h.1, fun x hx => ?_⟩
  rcases List.mem_or_eq_of_mem_set hx with hx | rfl
  · exact h.2 x hx
  · exact hs

theorem anyText_ok {K : Int} {c : Cur} (h : CurOk K c) (hK : K ≤ 4611686018427360000) : ∃ (l : TX) (c' : Cur), f_S_l1Cur_anyText c = some ((l, ()), (c', ())) ∧ Few l ∧ CurOk (K + 50) c' := by
  obtain ⟨r, c1, q1, q2, q3, _, q4⟩ := pick_ok (n := 9) h (by omega) (by omega)
  obtain ⟨n, rfl⟩ : ∃ n : Nat, r = (n : Int) := ⟨r.toNat, (Int.toNat_of_nonneg q2).symm⟩
  have hn : n < 9 := by have := q3 (by omega); omega
  obtain ⟨c2, l, p1, p2, p3, p4⟩ := any_loop n (l := []) q4 (by omega) (by omega) (by simp; omega) (fun s hs => by cases hs)
  obtain ⟨b, c3, o1, o2⟩ := one_ok (n := 5) p4 (by omega) (by omega)
  have hl : l.length ≤ 8 := by rw [p2]; simp; omega
  -- what comes behind the text
  have tail : ∀ (l : TX) (c : Cur), Few l → CurOk (K + 30) c → ∃ (l' : TX) (c' : Cur), (((
          bif (decide ((l.length : Int) > 1)) then
              (f_S_l1Cur_pick c 25).bind fun r29 =>
                bif (r29.1.1 == 0) then
                  bif inB 0 l.length then
                    some (r29.2.1, (l.set ((0 : Int).toNat) [120]), ())
                  else
                    none
                else
                  bif (r29.1.1 == 1) then
                    bif inB 0 l.length then
                      some (r29.2.1, (l.set ((0 : Int).toNat) []), ())
                    else
                      none
                  else
                    bif (r29.1.1 == 2) then
                      bif inB 0 l.length then
                        some (r29.2.1, (l.set ((0 : Int).toNat) [97, 10, 98, 10]), ())
                      else
                        none
                    else
                      some (r29.2.1, l, ())
            else
              some (c, l, ()) : Option ((PV Y_spec_l1Cur × PV S_string × Unit)))).bind fun j30 =>
          some (((j30.2.1, ()), (j30.1, ())) : (PVs [S_string] × PVs [Y_spec_l1Cur]))) = some ((l', ()), (c', ())) ∧ Few l' ∧ CurOk (K + 50) c' := by
    intro l c hf hc
    by_cases h1 : (l.length : Int) > 1
    · obtain ⟨r, c', a1, a2, a3, _, a4⟩ := pick_ok (n := 25) hc (by omega) (by omega)
      have h0 : inB 0 l.length = true := inB_lt (i := 0) (by omega)
      rw [decide_eq_true h1, cond_true, a1, Option.bind_some]
      dsimp only
      rw [h0]
      simp only [cond_true]
      cases (r == 0)
      · simp only [cond_false]
        cases (r == 1)
        · simp only [cond_false]
          cases (r == 2)
          · exact ⟨_, _, rfl, hf, a4.up (by omega)⟩
          · exact ⟨_, _, rfl, few_set hf (by decide) _, a4.up (by omega)⟩
        · exact ⟨_, _, rfl, few_set hf (by decide) _, a4.up (by omega)⟩
      · exact ⟨_, _, rfl, few_set hf (by decide) _, a4.up (by omega)⟩
    · rw [decide_eq_false h1, cond_false]
      exact ⟨_, _, rfl, hf, hc.up (by omega)⟩
  unfold f_S_l1Cur_anyText
  rw [q1, Option.bind_some]
  dsimp only
  rw [p1, Option.bind_some]
  dsimp only
  rw [o1, Option.bind_some]
  dsimp only
  cases b
  · rw [cond_false, Option.bind_some]
    exact tail l c3 (p3.few (by omega) (by omega)) (o2.up (by omega))
  · obtain ⟨r4, c4, s1, s2, s3, _, s4⟩ := pick_ok (n := 3) o2 (by omega) (by omega)
    obtain ⟨i, rfl⟩ : ∃ i : Nat, r4 = (i : Int) := ⟨r4.toNat, (Int.toNat_of_nonneg s2).symm⟩
    have hi : i < 3 := by have := s3 (by omega); omega
    rw [cond_true, show ([[97], [101, 110, 100], [46]].length : Int) = 3 from rfl, s1, Option.bind_some]
    dsimp only
    rw [show inB (i : Int) [[97], [101, 110, 100], [46]].length = true from inB_lt hi, cond_true, roomB_ok (by rw [List.length_cons, List.length_nil]; omega), cond_true, Option.bind_some, toNat_cast]
    have hw := wl3_sm i hi
    exact tail _ c4 ((p3.snoc hw.1 (by have := hw.2; show List.length (wl3.getD i []) ≤ 9; omega)).few (by omega) (by rw [List.length_append, List.length_cons, List.length_nil]; omega)) (s4.up (by omega))

theorem three_ok {K : Int} {c : Cur} (h : CurOk K c) (hK : K ≤ 4611686018427200000) : ∃ (l a b : TX) (c' : Cur), f_S_l1Cur_three c = some ((l, a, b, ()), (c', ())) ∧ Few l ∧ Few a ∧ Few b ∧ CurOk (K + 200) c' := by
  obtain ⟨l, c1, a1, a2, a3, a4⟩ := text_ok h (by omega)
  obtain ⟨a, c2, b1, b2, b3, b4⟩ := other_ok (m := 9) (by omega) (by omega) a4 (by omega) (by omega) a3
  obtain ⟨b, c3, d1, d2, d3, d4⟩ := other_ok (m := 9) (by omega) (by omega) b4 (by omega) (by omega) a3
  obtain ⟨r, c4, e1, e2, e3, _, e4⟩ := pick_ok (n := 12) d4 (by omega) (by omega)
  have fl : Few l := a3.few (by omega) (by omega)
  have fa : Few a := b3.few (by omega) (by omega)
  have fb : Few b := d3.few (by omega) (by omega)
  unfold f_S_l1Cur_three
  rw [a1, Option.bind_some]
  dsimp only
  rw [b1, Option.bind_some]
  dsimp only
  rw [d1, Option.bind_some]
  dsimp only
  rw [e1, Option.bind_some]
  dsimp only
  cases (r == 0)
  · rw [cond_false]
    cases (r == 1)
    · rw [cond_false]
      cases (r == 2)
      · exact ⟨_, _, _, _, rfl, fl, fa, fb, e4.up (by omega)⟩
      · obtain ⟨x, c5, g1, g2, g3⟩ := anyText_ok e4 (by omega)
        rw [cond_true, g1]
        exact ⟨_, _, _, _, rfl, fl, fa, g2, g3.up (by omega)⟩
    · exact ⟨_, _, _, _, rfl, fl, fl, fb, e4.up (by omega)⟩
  · exact ⟨_, _, _, _, rfl, fl, fa, fa, e4.up (by omega)⟩
end R
end

section
/- Parts that are made: what they have, and turned for one another. -/
open Go Go.Dn
namespace R
set_option linter.unusedVariables false

abbrev PT := PV Y_impl_Part
def badPt (x : PV Y_impl_Part) : Bool := !(decide (x.1 ≥ 1) && decide (x.1 ≤ 5))
def fewP (t0 : List (PV Y_impl_Part)) : Bool := decide (t0.length ≤ 120) && !(t0.any badPt)

theorem few_I (t0 : List (PV Y_impl_Part)) : f_I_areParts t0 = some ((fewP t0, ()), ()) := by
  unfold f_I_areParts fewP
  by_cases hl : t0.length ≤ 120
  · rw [decide_eq_true (by omega : (t0.length : Int) ≤ 120), cond_true, decide_eq_true hl, Bool.true_and]
    rw [show w_I_areParts_205_2 (t0, false, t0, (t0.length : Int), true, true, t0, t0, false, t0, t0, (t0.length : Int), 0, ()) = _ from
      fix_any (B := fun d => b_I_areParts_205_2 d.1 d.2.1 d.2.2.1 d.2.2.2.1 d.2.2.2.2.1 d.2.2.2.2.2.1 d.2.2.2.2.2.2.1 d.2.2.2.2.2.2.2.1 d.2.2.2.2.2.2.2.2.1 d.2.2.2.2.2.2.2.2.2.1 d.2.2.2.2.2.2.2.2.2.2.1 d.2.2.2.2.2.2.2.2.2.2.2.1 d.2.2.2.2.2.2.2.2.2.2.2.2.1) t0 badPt
      (fun i => (t0, false, t0, (t0.length : Int), true, true, t0, t0, false, t0, t0, (t0.length : Int), (i : Int), ())) (fun i => .inr (t0, false, t0, (t0.length : Int), true, true, t0, t0, false, t0, (i : Int), ())) (.inl (t0, false, t0, (t0.length : Int), true, true, t0, t0, false, t0, ()))
      (fun i hi hq => by
        show b_I_areParts_205_2 _ _ _ _ _ _ _ _ _ _ t0 t0.length i = _
        unfold b_I_areParts_205_2 f_I_areParts_1
        rw [decide_eq_true (by omega : (i : Int) < (t0.length : Int)), cond_true, inB_lt hi, cond_true, toNat_cast, getD_of hi, in_I, Option.bind_some, Option.bind_some]
        unfold badPt at hq
        rw [hq, cond_false, wrap64 (by omega) (by omega)]; rfl)
      (fun i hi hq => by
        show b_I_areParts_205_2 _ _ _ _ _ _ _ _ _ _ t0 t0.length i = _
        unfold b_I_areParts_205_2 f_I_areParts_1
        rw [decide_eq_true (by omega : (i : Int) < (t0.length : Int)), cond_true, inB_lt hi, cond_true, toNat_cast, getD_of hi, in_I, Option.bind_some, Option.bind_some]
        unfold badPt at hq
        rw [hq, cond_true])
      (by
        show b_I_areParts_205_2 _ _ _ _ _ _ _ _ _ _ t0 t0.length t0.length = _
        unfold b_I_areParts_205_2
        rw [decide_eq_false (Int.lt_irrefl _), cond_false])]
    cases h : t0.any badPt
    · rfl
    · simp
  · rw [decide_eq_false (by omega : ¬ (t0.length : Int) ≤ 120), cond_false, decide_eq_false hl]; rfl

def kindX (k : Int) : Int := bif k == 2 then 3 else bif k == 3 then 2 else k
def swapX (x : PV Y_impl_Part) : PV Y_impl_Part := (kindX x.1, x.2.1, x.2.2.1, x.2.2.2.2.1, x.2.2.2.1, ())
theorem cut_le {l : TX} {a b : Int} : (cutL a b l).length ≤ l.length := by
  unfold cutL
  rw [List.length_drop, List.length_take]
  omega
theorem next_eq {a b : TX} {i j : Nat} (hi : i < a.length) (hj : j < b.length) (h : a[i] = b[j]) : nextPr a b i j = (i, j) := by
  have hT : T a b i j = T a b (i + 1) (j + 1) + 1 := by rw [T_step hi hj, if_pos h]
  obtain ⟨s1, s2, s3, s4, s5, s6, s7⟩ := next_spec (a := a) (b := b) (i := i) (j := j) (by omega) (by omega) (by omega)
  have hc : cand a b i j i j = true := (cand_of hi hj).2 ⟨h, hT.symm⟩
  have e1 : (nextPr a b i j).1 = i := by
    rcases Nat.eq_or_lt_of_le s1 with e | e
    · exact e.symm
    · have := s7 i j (Nat.le_refl _) e (Nat.le_refl _) hj
      rw [hc] at this
      cases this
  have e2 : (nextPr a b i j).2 = j := by
    rcases Nat.eq_or_lt_of_le s3 with e | e
    · exact e.symm
    · have := s6 j (Nat.le_refl _) e
      rw [e1, hc] at this
      cases this
  exact Prod.ext e1 e2
theorem pairs_head {a b : TX} {i j : Nat} (hi : i < a.length) (hj : j < b.length) (h : a[i] = b[j]) : pairsF a b (T a b i j) i j = (i, j) :: pairsF a b (T a b (i + 1) (j + 1)) (i + 1) (j + 1) := by
  have hT : T a b i j = T a b (i + 1) (j + 1) + 1 := by rw [T_step hi hj, if_pos h]
  rw [hT]
  show nextPr a b i j :: _ = _
  rw [next_eq hi hj h]

theorem pairs_line {a b : TX} : ∀ (n i j : Nat), i ≤ a.length → j ≤ b.length → T a b i j = n → ∀ p ∈ pairsF a b n i j, ∃ (h1 : p.1 < a.length) (h2 : p.2 < b.length), a[p.1] = b[p.2]
  | 0, i, j, hi, hj, hT, p, hp => by simp [pairsF] at hp
  | n + 1, i, j, hi, hj, hT, p, hp => by
    obtain ⟨s1, s2, s3, s4, s5, s6, s7⟩ := next_spec hi hj (by omega : 0 < T a b i j)
    simp only [pairsF, List.mem_cons] at hp
    rcases hp with rfl | hp
    · exact ⟨s2, s4, ((cand_of s2 s4).1 s5).1⟩
    · exact pairs_line n _ _ (by omega) (by omega) (next_T hi hj hT) p hp
theorem pairs_tail {a b : TX} : ∀ (n i j : Nat), i ≤ a.length → j ≤ b.length → T a b i j = n → ∀ p ∈ pairsF a b n i j, ∀ q ∈ pairsF a b (T a b p.1 p.2) p.1 p.2, q ∈ pairsF a b n i j
  | 0, i, j, hi, hj, hT, p, hp, q, hq => by simp [pairsF] at hp
  | n + 1, i, j, hi, hj, hT, p, hp, q, hq => by
    obtain ⟨s1, s2, s3, s4, s5, s6, s7⟩ := next_spec hi hj (by omega : 0 < T a b i j)
    have hT' := next_T hi hj hT
    simp only [pairsF, List.mem_cons] at hp ⊢
    rcases hp with rfl | hp
    · rw [pairs_head s2 s4 ((cand_of s2 s4).1 s5).1, hT'] at hq
      simpa using hq
    · exact .inr (pairs_tail n _ _ (by omega) (by omega) hT' p hp q hq)
theorem pairs_one {a b : TX} : ∀ (n i j : Nat), i ≤ a.length → j ≤ b.length → T a b i j = n → ∀ p ∈ pairsF a b n i j, ∀ q ∈ pairsF a b n i j, p.1 = q.1 → p = q
  | 0, i, j, hi, hj, hT, p, hp => by simp [pairsF] at hp
  | n + 1, i, j, hi, hj, hT, p, hp => by
    intro q hq he
    obtain ⟨s1, s2, s3, s4, s5, s6, s7⟩ := next_spec hi hj (by omega : 0 < T a b i j)
    have hT' := next_T hi hj hT
    simp only [pairsF, List.mem_cons] at hp hq
    rcases hp with rfl | hp
    · rcases hq with rfl | hq
      · rfl
      · have := pairs_ge n _ _ (by omega) (by omega) hT' q hq
        omega
    · rcases hq with rfl | hq
      · have := pairs_ge n _ _ (by omega) (by omega) hT' p hp
        omega
      · exact pairs_one n _ _ (by omega) (by omega) hT' p hp q hq he
theorem fold_hit : ∀ (xs : List (Nat × Nat)) (o : List Int) (k : Nat), k < o.length → (∃ p ∈ xs, p.1 = k) → ∃ p ∈ xs, p.1 = k ∧ (xs.foldl setP o).getD k 0 = (p.2 : Int)
  | [], o, k, hk, h => by obtain ⟨p, hp, _⟩ := h; cases hp
  | x :: xs, o, k, hk, h => by
    rw [List.foldl_cons]
    by_cases ht : ∃ p ∈ xs, p.1 = k
    · obtain ⟨p, hp, h1, h2⟩ := fold_hit xs (setP o x) k (by unfold setP; rw [List.length_set]; exact hk) ht
      exact ⟨p, List.mem_cons_of_mem _ hp, h1, h2⟩
    · obtain ⟨p, hp, h1⟩ := h
      rcases List.mem_cons.1 hp with rfl | hp
      · refine ⟨p, List.mem_cons_self .., h1, ?_⟩
        rcases fold_set xs (setP o p) k with h2 | ⟨q, hq, h2, h3⟩
        · rw [h2]
          unfold setP
          rw [List.getD_eq_getElem?_getD, ← h1, List.getElem?_set_self (by rw [h1]; exact hk)]
          rfl
        · exact absurd ⟨q, hq, h2⟩ ht
      · exact absurd ⟨p, hp, h1⟩ ht
theorem mate_of {a b : TX} {p : Nat × Nat} (h : p ∈ pairsP a b) : (matesP a b).getD p.1 0 = (p.2 : Int) := by
  obtain ⟨q, hq, h1, h2⟩ := fold_hit (pairsP a b) (List.replicate a.length (-1)) p.1 (by rw [List.length_replicate]; exact (pairsP_in h).1) ⟨p, h, rfl⟩
  have := pairs_one _ 0 0 (Nat.zero_le _) (Nat.zero_le _) rfl q hq p h h1
  subst this
  exact h2

/-- From these places on the pairs are the next ones. -/
def Ali (a b : TX) (i j : Nat) : Prop := ∀ q ∈ pairsF a b (T a b i j) i j, q ∈ pairsP a b
theorem Ali.zero (a b : TX) : Ali a b 0 0 := fun q hq => hq
theorem Ali.end_ (a b : TX) : Ali a b a.length b.length := fun q hq => by
  rw [T_end_l (Nat.le_refl _)] at hq
  cases hq
theorem Ali.step {a b : TX} {i j : Nat} (h : Ali a b i j) (hi : i < a.length) (hj : j < b.length) (e : a[i] = b[j]) : Ali a b (i + 1) (j + 1) ∧ (matesP a b).getD i 0 = (j : Int) := by
  unfold Ali at h
  rw [pairs_head hi hj e] at h
  exact ⟨fun q hq => h q (List.mem_cons_of_mem _ hq), mate_of (p := (i, j)) (h _ (List.mem_cons_self ..))⟩
theorem mate_mem {a b : TX} {k p : Nat} (hk : k < a.length) (h : (matesP a b).getD k 0 = (p : Int)) : (k, p) ∈ pairsP a b := by
  obtain ⟨q, hq, h1, h2⟩ := mate_pair (a := a) (b := b) hk (by omega)
  have : q = (k, p) := Prod.ext h1 (by show q.2 = p; omega)
  rw [← this]
  exact hq
theorem mate_line {a b : TX} {k p : Nat} (hk : k < a.length) (h : (matesP a b).getD k 0 = (p : Int)) : ∃ hp : p < b.length, a[k] = b[p] := by
  obtain ⟨_, h2, h3⟩ := pairs_line _ 0 0 (Nat.zero_le _) (Nat.zero_le _) rfl _ (mate_mem hk h)
  exact ⟨h2, h3⟩
theorem Ali.mate {a b : TX} {k p : Nat} (hk : k < a.length) (h : (matesP a b).getD k 0 = (p : Int)) : Ali a b k p := fun q hq =>
  pairs_tail _ 0 0 (Nat.zero_le _) (Nat.zero_le _) rfl _ (mate_mem hk h) q hq
theorem Ali.run {a b : TX} {i x : Nat} (h : Ali a b i x) : ∀ m, (∀ t, t < m → i + t < a.length ∧ (matesP a b).getD (i + t) 0 = ((x + t : Nat) : Int)) → Ali a b (i + m) (x + m)
  | 0, _ => h
  | m + 1, hm => by
    obtain ⟨h1, h2⟩ := hm m (by omega)
    obtain ⟨h3, h4⟩ := mate_line h1 h2
    exact ((Ali.run h m fun t ht => hm t (by omega)).step h1 h3 h4).1

/-! ### parts, each by itself -/
theorem cut_drop {l : TX} {i k : Nat} (hik : i ≤ k) (hk : k ≤ l.length) : cutL (i : Int) (k : Int) l ++ l.drop k = l.drop i := by
  unfold cutL
  rw [toNat_cast, toNat_cast, List.drop_take]
  conv => rhs; rw [← List.take_append_drop (k - i) (l.drop i), List.drop_drop]
  rw [show i + (k - i) = k from by omega]
theorem cut_head {l : TX} {i k : Nat} (hik : i < k) (hk : k ≤ l.length) : ∃ t, cutL (i : Int) (k : Int) l = l[i] :: t := by
  unfold cutL
  rw [toNat_cast, toNat_cast, List.drop_take, List.drop_eq_getElem_cons (by omega : i < l.length), show k - i = (k - i - 1) + 1 from by omega, List.take_succ_cons]
  exact ⟨_, rfl⟩
theorem kind_one {b l r : TX} (h : kindP b l r = 1) : b = l ∧ b = r := by
  unfold kindP at h
  cases h1 : decide (b = l)
  · rw [h1] at h
    cases h2 : decide (b = r)
    · rw [h2] at h
      cases h3 : decide (l = r) <;> rw [h3] at h <;> cases h
    · rw [h2] at h
      cases h
  · cases h2 : decide (b = r)
    · rw [h1, h2] at h
      cases h
    · exact ⟨of_decide_eq_true h1, of_decide_eq_true h2⟩

/-- What changes is no part of lines that stay. -/
theorem jump_kind {a b c : TX} {i k x p y q : Nat} (hik : i ≤ k) (hk : k ≤ a.length) (hn : ∀ t, i ≤ t → t < k → ¬ Bo (matesP a b) (matesP a c) t) (hne : i < k ∨ x < p ∨ y < q) (hxp : x ≤ p) (hyq : y ≤ q) (hp : p ≤ b.length) (hq : q ≤ c.length)
    (h1 : Ali a b i x) (h2 : Ali a c i y) : kindP (cutL (i : Int) (k : Int) a) (cutL (x : Int) (p : Int) b) (cutL (y : Int) (q : Int) c) ≠ 1 := by
  intro hk1
  obtain ⟨e1, e2⟩ := kind_one hk1
  have l1 := congrArg List.length e1
  have l2 := congrArg List.length e2
  rw [cutx_len hik hk, cutx_len hxp hp] at l1
  rw [cutx_len hik hk, cutx_len hyq hq] at l2
  have hlt : i < k := by omega
  obtain ⟨t0, g0⟩ := cut_head hlt hk
  obtain ⟨t1, g1⟩ := cut_head (l := b) (i := x) (k := p) (by omega) hp
  obtain ⟨t2, g2⟩ := cut_head (l := c) (i := y) (k := q) (by omega) hq
  rw [g0, g1] at e1
  rw [g0, g2] at e2
  have m1 := (h1.step (by omega) (by omega) (List.cons.inj e1).1).2
  have m2 := (h2.step (by omega) (by omega) (List.cons.inj e2).1).2
  exact hn i (Nat.le_refl _) hlt ⟨by omega, by omega⟩

theorem swap_kind (b l r : TX) : kindX (kindP b l r) = kindP b r l := by
  unfold kindP
  rw [show decide (r = l) = decide (l = r) from by rw [Bool.eq_iff_iff, decide_eq_true_eq, decide_eq_true_eq]; exact eq_comm]
  cases h1 : decide (b = l) <;> cases h2 : decide (b = r) <;> cases h3 : decide (l = r) <;> try rfl
theorem go_swap {a b c : TX} {l r : List Int} {i x y : Nat} {ps : List PT} (g : GoP a b c l r i x y ps) : GoP a c b r l i y x (ps.map swapX) := by
  have hsw : ∀ (i k x p y q : Nat), swapX (prt a b c i k x p y q) = prt a c b i k y q x p := fun i k x p y q => by
    unfold swapX prt partP
    dsimp only
    rw [swap_kind]
  have hru : ∀ i x y, Ru a l r i x y ↔ Ru a r l i y x := fun i x y => ⟨fun h => ⟨h.1, h.2.2, h.2.1⟩, fun h => ⟨h.1, h.2.2, h.2.1⟩⟩
  have hbo : ∀ k, Bo l r k ↔ Bo r l k := fun k => ⟨fun h => ⟨h.2, h.1⟩, fun h => ⟨h.2, h.1⟩⟩
  induction g with
  | stop => exact .stop
  | run hm h hs hbm hcm him g ih =>
    rw [List.map_cons, hsw]
    exact .run hm (fun t ht => (hru _ _ _).1 (h t ht)) (fun q => hs ((hru _ _ _).2 q)) hcm hbm him ih
  | jump hik hk hn h1 h2 hne hx hy hp hq g ih =>
    rw [List.map_cons, hsw]
    exact .jump hik hk (fun t a1 a2 q => hn t a1 a2 ((hbo _).2 q)) (fun q => ⟨(hbo _).1 (h1 q).1, (h1 q).2.2, (h1 q).2.1⟩) (fun q => ⟨(h2 q).2, (h2 q).1⟩) (by rcases hne with e | e | e; exact .inl e; exact .inr (.inr e); exact .inr (.inl e)) hy hx hq hp ih
end R
end

section
/- Merged: the law answers true. -/
open Go Go.Dn
namespace R
set_option linter.unusedVariables false

theorem sameTexts_self (a : PV S_string) (ha : List.length a ≤ 4611686018427387904) : f_L_sameTexts a a = some ((true, ()), ()) := by
  have hF := fix_all (B := fun d => b_L_sameTexts_4 d.1 d.2.1 d.2.2.1 d.2.2.2.1) (fun i => (a, a, (List.length a : Int), (i : Int), ())) (List.length a) (r := (.inl ()))
    (fun i hi => by
      show b_L_sameTexts_4 a a (List.length a) i = _
      unfold b_L_sameTexts_4
      rw [decide_eq_true (by omega : (i : Int) < (List.length a : Int)), cond_true, inB_lt hi, cond_true, cond_true, toNat_cast]
      rw [beq_self_eq_true, Bool.not_true, cond_false, wrap64 (x := (i : Int) + 1) (by omega) (by omega)]
      rfl)
    (by
      show b_L_sameTexts_4 a a (List.length a) (List.length a) = _
      unfold b_L_sameTexts_4
      rw [decide_eq_false (Int.lt_irrefl _), cond_false])
  unfold f_L_sameTexts
  rw [beq_self_eq_true, Bool.not_true, cond_false, show w_L_sameTexts_4 (a, a, (List.length a : Int), 0, ()) = _ from hF, Option.bind_some]

theorem big_L {t0 t1 : PV S_uint8} : ∃ b : Bool, f_L_big t0 t1 = some ((b, ()), ()) := by
  unfold f_L_big
  cases decide ((List.length t0 : Int) > 1048576)
  · exact ⟨_, rfl⟩
  · exact ⟨_, rfl⟩

theorem partsI_of {a b c : TX} (ha : Sm a) (hb : Sm b) (hc : Sm c) (hk : ok3 a b c = true) {ps : List PT} (g : GoP a b c (matesP a b) (matesP a c) 0 0 0 ps) (hl : ps.length ≤ 1000) : f_I_PartsOf a b c = some ((ps, true, ()), ()) := by
  obtain ⟨k1, k2, k3⟩ := ok3_at hk
  unfold f_I_PartsOf
  unfold ok3 at hk
  simp only [Bool.and_eq_true] at hk
  rw [goodLines_I a ha, Option.bind_some]
  dsimp only
  rw [hk.1, Bool.not_true, cond_false, goodLines_I b hb, Option.bind_some]
  dsimp only
  rw [hk.2.1, Bool.not_true, cond_false, goodLines_I c hc, Option.bind_some, Option.bind_some]
  dsimp only
  rw [hk.2.2, Bool.not_true, cond_false, parts_I k1 k2 k3 hl g, Option.bind_some]
theorem parts_no {a b c : TX} (ha : Sm a) (hb : Sm b) (hc : Sm c) (hk : ok3 a b c = false) : f_I_PartsOf a b c = some (([], false, ()), ()) := by
  unfold ok3 at hk
  unfold f_I_PartsOf
  rw [goodLines_I a ha, Option.bind_some]
  dsimp only
  cases hA : goodP a
  · rfl
  · rw [Bool.not_true, cond_false, goodLines_I b hb, Option.bind_some]
    dsimp only
    cases hB : goodP b
    · rfl
    · rw [Bool.not_true, cond_false, goodLines_I c hc, Option.bind_some, Option.bind_some]
      dsimp only
      cases hC : goodP c
      · rfl
      · rw [hA, hB, hC] at hk; cases hk

/-! ### what is merged -/
def mgB (ps : List PT) : Bool := !(ps.any isCl) && goodP (ps.flatMap takenP)
def mgR (ps : List PT) : TX := bif mgB ps then ps.flatMap takenP else []

theorem merge_eq {a b c : TX} (ha : Sm a) (hb : Sm b) (hc : Sm c) : f_S_Merge a b c = f_I_Merge a b c := by
  obtain ⟨o, k, h1, h2, _⟩ := merge_both ha hb hc
  rw [h1, h2]
theorem marked_eq {a b c : TX} (ha : Sm a) (hb : Sm b) (hc : Sm c) : f_S_MarkedText a b c = f_I_MarkedText a b c := by
  obtain ⟨o, k, h1, h2⟩ := marked_both ha hb hc
  rw [h1, h2]
theorem merge_no {a b c : TX} (ha : Sm a) (hb : Sm b) (hc : Sm c) (hk : ok3 a b c = false) : f_I_Merge a b c = some (([], false, ()), ()) := by
  unfold f_I_Merge
  rw [parts_no ha hb hc hk]
  rfl

theorem mergeI_of {a b c : TX} (ha : Sm a) (hb : Sm b) (hc : Sm c) (hk : ok3 a b c = true) {ps : List PT} (g : GoP a b c (matesP a b) (matesP a c) 0 0 0 ps) (hl : ps.length ≤ 120) : f_I_Merge a b c = some ((mgR ps, mgB ps, ()), ()) := by
  obtain ⟨k1, k2, k3⟩ := ok3_at hk
  have ht := go_tot (ok3_lines hk).1 (ok3_lines hk).2 k2 k3 g
  unfold f_I_Merge mgR mgB
  rw [partsI_of ha hb hc hk g (by omega), Option.bind_some]
  dsimp only
  rw [clashes_I ps (by omega)]
  simp only [Bool.not_true, cond_false, Option.bind_some]
  cases hany : ps.any isCl
  · have h0 : ps.countP isCl = 0 := List.countP_eq_zero.2 fun x hx => by simpa using List.any_eq_false.1 hany x hx
    rw [h0, decide_eq_false (by omega : ¬ (((0 : Nat) : Int) > 0)), cond_false, take_I ps false (by omega) ht hany, Option.bind_some]
    dsimp only
    have hto : tot S_string (ps.flatMap takenP) ≤ 3000 * ps.length := flat_tot takenP fun x hx => taken_tot (ht x hx)
    have hsm : Sm (ps.flatMap takenP) := Sm.of hto (by omega)
    rw [goodLines_I _ hsm]
    simp only [Option.bind_some]
    cases goodP (ps.flatMap takenP) <;> rfl
  · have h0 : 0 < ps.countP isCl := List.countP_pos_iff.2 (by
      obtain ⟨x, hx, h⟩ := List.any_eq_true.1 hany
      exact ⟨x, hx, h⟩)
    rw [decide_eq_true (by omega : (((ps.countP isCl : Nat) : Int) > 0)), cond_true]
    rfl

theorem markedI_of {a b c : TX} (ha : Sm a) (hb : Sm b) (hc : Sm c) (hk : ok3 a b c = true) {ps : List PT} (g : GoP a b c (matesP a b) (matesP a c) 0 0 0 ps) (hl : ps.length ≤ 120) : f_I_MarkedText a b c = some ((ps.flatMap mS, true, ()), ()) := by
  obtain ⟨k1, k2, k3⟩ := ok3_at hk
  have ht := go_tot (ok3_lines hk).1 (ok3_lines hk).2 k2 k3 g
  have hI := partsI_of ha hb hc hk g (by omega)
  unfold f_I_MarkedText
  rw [hI, Option.bind_some]
  dsimp only
  simp only [Bool.not_true, cond_false]
  rw [mark_loop a b c ps (by omega) ht, Option.bind_some]
  dsimp only
  have hgl := parts_gl ha hb hc hk hI
  have he : (ps.flatMap mI).flatten = ps.flatMap mS := by
    rw [flat_flat]
    exact flatMap_congr' fun x hx => m_eq (hgl x hx).1 (hgl x hx).2
  have h1 : (ps.flatMap mS).length ≤ 3020 * ps.length := flatMap_len fun x hx => mS_len (ht x hx)
  have h2 : (ps.flatMap mI).length ≤ 3003 * ps.length := flatMap_len fun x hx => markI_len (ht x hx)
  unfold f_strings_Join joinF
  rw [join_empty, he, decide_eq_true (by omega : (ps.flatMap mS).length ≤ 1099511627776), decide_eq_true (by omega : (ps.flatMap mI).length ≤ 1099511627776), Bool.and_self, cond_true, Option.bind_some]

/-! ### kinds -/
theorem kind_in (b l r : TX) : 1 ≤ kindP b l r ∧ kindP b l r ≤ 5 := by
  unfold kindP
  cases decide (b = l) <;> cases decide (b = r) <;> cases decide (l = r) <;> decide
theorem kind_lr {b l r : TX} (h : kindP b l r = 1 ∨ kindP b l r = 4) : l = r := by
  unfold kindP at h
  cases h1 : decide (b = l)
  · rw [h1] at h
    cases h2 : decide (b = r)
    · rw [h2] at h
      cases h3 : decide (l = r)
      · rw [h3] at h; rcases h with h | h <;> cases h
      · exact of_decide_eq_true h3
    · rw [h2] at h; rcases h with h | h <;> cases h
  · have e1 := of_decide_eq_true h1
    cases h2 : decide (b = r)
    · rw [h1, h2] at h; rcases h with h | h <;> cases h
    · exact e1.symm.trans (of_decide_eq_true h2)
theorem go_kind {a b c : TX} {l r : List Int} {i x y : Nat} {ps : List PT} (g : GoP a b c l r i x y ps) : ∀ z ∈ ps, ∃ B : TX, z.1 = kindP B (lf z) (rt z) := by
  induction g with
  | stop => intro z hz; cases hz
  | run hm h hs hbm hcm him g ih =>
    intro z hz
    rcases List.mem_cons.1 hz with rfl | hz
    · exact ⟨_, rfl⟩
    · exact ih z hz
  | jump hik hk hn h1 h2 hne hx hy hp hq g ih =>
    intro z hz
    rcases List.mem_cons.1 hz with rfl | hz
    · exact ⟨_, rfl⟩
    · exact ih z hz
theorem few_go {a b c : TX} {l r : List Int} {ps : List PT} {i x y : Nat} (g : GoP a b c l r i x y ps) (hl : ps.length ≤ 120) : fewP ps = true := by
  unfold fewP
  rw [decide_eq_true hl, Bool.true_and, Bool.not_eq_true', List.any_eq_false]
  intro z hz
  obtain ⟨B, e⟩ := go_kind g z hz
  unfold badPt
  have := kind_in B (lf z) (rt z)
  rw [e]
  simp only [Bool.not_eq_true', Bool.and_eq_true, decide_eq_true_eq, Bool.not_eq_false]
  exact this

theorem swap_taken {z : PT} {B : TX} (e : z.1 = kindP B (lf z) (rt z)) (hc : isCl z = false) : takenP (swapX z) = takenP z := by
  have hk := kind_in B (lf z) (rt z)
  have hcl : z.1 ≠ 5 := by unfold isCl at hc; exact beq_eq_false_iff_ne.1 hc
  have hlr : z.1 = 1 ∨ z.1 = 4 → lf z = rt z := fun h => kind_lr (b := B) (by rw [← e]; exact h)
  obtain ⟨k, rest⟩ := z
  have four : ∀ (m n : Int), m = n → 1 ≤ n → n ≤ 5 → m ≠ 5 → m = 1 ∨ m = 2 ∨ m = 3 ∨ m = 4 := by omega
  have hcases : (k : Int) = 1 ∨ (k : Int) = 2 ∨ (k : Int) = 3 ∨ (k : Int) = 4 := four k _ e hk.1 hk.2 hcl
  rcases hcases with h | h | h | h
  · have h : k = 1 := h
    subst h
    exact (hlr (.inl rfl)).symm
  · have h : k = 2 := h
    subst h
    rfl
  · have h : k = 3 := h
    subst h
    rfl
  · have h : k = 4 := h
    subst h
    exact (hlr (.inr rfl)).symm
theorem swap_cl (z : PT) : isCl (swapX z) = isCl z := by
  unfold isCl swapX kindX
  dsimp only
  cases h2 : (z.1 == 2)
  · cases h3 : (z.1 == 3)
    · rfl
    · rw [beq_iff_eq.1 h3]; rfl
  · rw [beq_iff_eq.1 h2]; rfl
theorem swap_mg {a b c : TX} {l r : List Int} {i x y : Nat} {ps : List PT} (g : GoP a b c l r i x y ps) : mgB (ps.map swapX) = mgB ps ∧ mgR (ps.map swapX) = mgR ps := by
  have h1 : (ps.map swapX).any isCl = ps.any isCl := by
    rw [List.any_map]
    congr 1
    funext z
    exact swap_cl z
  have hk := go_kind g
  cases hany : ps.any isCl
  · have h2 : (ps.map swapX).flatMap takenP = ps.flatMap takenP := by
      rw [List.flatMap_map]
      exact flatMap_congr' fun z hz => by
        obtain ⟨B, e⟩ := hk z hz
        exact swap_taken e (by simpa using List.any_eq_false.1 hany z hz)
    unfold mgR mgB
    rw [h1, h2]
    exact ⟨rfl, rfl⟩
  · unfold mgR mgB
    rw [h1, hany]
    exact ⟨rfl, rfl⟩

/-! ### with what is unchanged -/
theorem ali_self (a : TX) : ∀ k, k ≤ a.length → Ali a a k k
  | 0, _ => Ali.zero a a
  | k + 1, h => ((ali_self a k (by omega)).step (by omega) (by omega) rfl).1
theorem mates_self {a : TX} {k : Nat} (h : k < a.length) : (matesP a a).getD k 0 = (k : Int) := ((ali_self a k (by omega)).step h h rfl).2
theorem kind_bb (B L : TX) : kindP B L B = 1 ∨ kindP B L B = 2 := by
  unfold kindP
  rw [decide_eq_true (rfl : B = B)]
  cases decide (B = L)
  · exact .inr rfl
  · exact .inl rfl
theorem kind_ll (B L : TX) : kindP B L L = 1 ∨ kindP B L L = 4 := by
  unfold kindP
  rw [decide_eq_true (rfl : L = L)]
  cases decide (B = L)
  · exact .inr rfl
  · exact .inl rfl
theorem not_cl {z : PT} (h : z.1 = 1 ∨ z.1 = 2 ∨ z.1 = 4) : isCl z = false ∧ takenP z = lf z := by
  unfold isCl takenP
  rcases h with h | h | h <;> rw [h] <;> exact ⟨rfl, rfl⟩
theorem go_base {a b : TX} {l : List Int} {i x y : Nat} {ps : List PT} (g : GoP a b a l (matesP a a) i x y ps) : y = i → x ≤ b.length → ps.any isCl = false ∧ ps.flatMap takenP = b.drop x := by
  have key : ∀ (i k x p : Nat) (ps : List PT), x ≤ p → p ≤ b.length → ps.any isCl = false ∧ ps.flatMap takenP = b.drop p → (prt a b a i k x p i k :: ps).any isCl = false ∧ (prt a b a i k x p i k :: ps).flatMap takenP = b.drop x := by
    intro i k x p ps hxp hp hr
    have hk : (prt a b a i k x p i k).1 = 1 ∨ (prt a b a i k x p i k).1 = 2 ∨ (prt a b a i k x p i k).1 = 4 := by
      rcases kind_bb (cutL (i : Int) (k : Int) a) (cutL (x : Int) (p : Int) b) with h | h
      · exact .inl h
      · exact .inr (.inl h)
    obtain ⟨h1, h2⟩ := not_cl hk
    rw [List.any_cons, h1, List.flatMap_cons, h2, hr.1, hr.2]
    exact ⟨rfl, cut_drop hxp hp⟩
  induction g with
  | stop => intro _ _; exact ⟨rfl, by simp⟩
  | @run i x y m ps hm h hs hbm hcm him g ih =>
    intro e hx
    subst e
    exact key _ _ _ _ _ (by omega) hbm (ih rfl hbm)
  | @jump i x y k p q ps hik hk hn h1 h2 hne hx hy hp hq g ih =>
    intro e hx'
    subst e
    have hqk : q = k := by
      rcases Nat.lt_or_ge k a.length with hlt | hge
      · have := (h1 hlt).2.2
        rw [mates_self hlt] at this
        omega
      · have hka : k = a.length := by omega
        rw [(h2 hka).2, hka]
    subst hqk
    exact key _ _ _ _ _ hx hp (ih rfl hp)
theorem go_both {a b : TX} {l : List Int} {i x y : Nat} {ps : List PT} (g : GoP a b b l l i x y ps) : y = x → x ≤ b.length → ps.any isCl = false ∧ ps.flatMap takenP = b.drop x := by
  have key : ∀ (i k x p : Nat) (ps : List PT), x ≤ p → p ≤ b.length → ps.any isCl = false ∧ ps.flatMap takenP = b.drop p → (prt a b b i k x p x p :: ps).any isCl = false ∧ (prt a b b i k x p x p :: ps).flatMap takenP = b.drop x := by
    intro i k x p ps hxp hp hr
    have hk : (prt a b b i k x p x p).1 = 1 ∨ (prt a b b i k x p x p).1 = 2 ∨ (prt a b b i k x p x p).1 = 4 := by
      rcases kind_ll (cutL (i : Int) (k : Int) a) (cutL (x : Int) (p : Int) b) with h | h
      · exact .inl h
      · exact .inr (.inr h)
    obtain ⟨h1, h2⟩ := not_cl hk
    rw [List.any_cons, h1, List.flatMap_cons, h2, hr.1, hr.2]
    exact ⟨rfl, cut_drop hxp hp⟩
  induction g with
  | stop => intro _ _; exact ⟨rfl, by simp⟩
  | @run i x y m ps hm h hs hbm hcm him g ih =>
    intro e hx
    subst e
    exact key _ _ _ _ _ (by omega) hbm (ih rfl hbm)
  | @jump i x y k p q ps hik hk hn h1 h2 hne hx hy hp hq g ih =>
    intro e hx'
    subst e
    have hqk : q = p := by
      rcases Nat.lt_or_ge k a.length with hlt | hge
      · have := (h1 hlt).2
        omega
      · have hka : k = a.length := by omega
        rw [(h2 hka).2, (h2 hka).1]
    subst hqk
    exact key _ _ _ _ _ hx hp (ih rfl hp)

theorem merge_base {a b : TX} (ha : Sm a) (hb : Sm b) (hk : ok3 a b a = true) (hg : goodP b = true) : f_I_Merge a b a = some ((b, true, ()), ()) := by
  obtain ⟨ps, g, gl⟩ := go_ex (a := a) (b := b) (c := a) 120 0 0 0 (by have := ok3_at hk; omega) (Nat.zero_le _) (Nat.zero_le _) (Nat.zero_le _) (fun u _ _ h => ⟨h.1, h.2⟩)
  obtain ⟨h1, h2⟩ := go_base g rfl (Nat.zero_le _)
  rw [List.drop_zero] at h2
  rw [mergeI_of ha hb ha hk g gl]
  unfold mgR mgB
  rw [h1, h2, hg]
  rfl
theorem merge_same {a b : TX} (ha : Sm a) (hb : Sm b) (hk : ok3 a b b = true) (hg : goodP b = true) : f_I_Merge a b b = some ((b, true, ()), ()) := by
  obtain ⟨ps, g, gl⟩ := go_ex (a := a) (b := b) (c := b) 120 0 0 0 (by have := ok3_at hk; omega) (Nat.zero_le _) (Nat.zero_le _) (Nat.zero_le _) (fun u _ _ h => ⟨h.1, h.2⟩)
  obtain ⟨h1, h2⟩ := go_both g rfl (Nat.zero_le _)
  rw [List.drop_zero] at h2
  rw [mergeI_of ha hb hb hk g gl]
  unfold mgR mgB
  rw [h1, h2, hg]
  rfl

theorem no_cl {ps : List PT} (h : ps.any isCl = false) : ps.flatMap mS = (ps.flatMap takenP).flatten := by
  rw [flat_flat]
  refine flatMap_congr' fun x hx => ?_
  have : isCl x = false := by simpa using List.any_eq_false.1 h x hx
  unfold mS
  rw [this]
  rfl
theorem textOf_I {l : TX} (hs : Sm l) (hg : goodP l = true) : f_I_TextOf l = some ((l.flatten, true, ()), ()) := by
  have hl : l.length ≤ 40 := by
    unfold goodP linesP at hg
    simp only [Bool.and_eq_true, decide_eq_true_eq] at hg
    exact hg.1.1
  have hx : ∀ s ∈ l, s.length ≤ 30 := fun s hs => by
    unfold goodP linesP at hg
    simp only [Bool.and_eq_true, Bool.not_eq_true'] at hg
    have := List.any_eq_false.1 hg.1.2 s hs
    exact (line_len (by simpa using this)).2
  have h2 := sum_le hx
  have h1 := flat_len (l := l)
  rw [show tot S_string l = l.length + (l.map (tot .str)).sum from tot_slice] at h1
  unfold f_I_TextOf
  rw [goodLines_I l hs, Option.bind_some]
  dsimp only
  rw [hg, Bool.not_true, cond_false]
  unfold f_strings_Join joinF
  rw [join_empty, decide_eq_true (by omega), decide_eq_true (by omega)]
  rfl

theorem law_Merged (t0 t1 : PV S_uint8) (hw : WfV S_uint8 t0) (hw1 : WfV S_uint8 t1) : f_L_FnMerged t0 t1 = some ((true, ()), ()) := by
  obtain ⟨bb, hb⟩ := big_L (t0 := t0) (t1 := t1)
  obtain ⟨a, b, c, c1, hD, fa, fb, fc, _⟩ := three_ok (start_ok hw) (by omega)
  have hD : f_S_DrawMerge t0 = some ((a, b, c, ()), ()) := by unfold f_S_DrawMerge f_S_DrawPartsOf; rw [hD]; rfl
  obtain ⟨a2, b2, c2, c3, hE, fa2, fb2, fc2, _⟩ := three_ok (start_ok hw1) (by omega)
  have hE : f_S_DrawMarkedText t1 = some ((a2, b2, c2, ()), ()) := by unfold f_S_DrawMarkedText f_S_DrawPartsOf; rw [hE]; rfl
  obtain ⟨o, k, g1, g2⟩ := marked_both fa2.sm fb2.sm fc2.sm
  have q1 := merge_eq fa.sm fb.sm fc.sm
  unfold f_L_FnMerged
  rw [hb, Option.bind_some]
  dsimp only
  cases bb
  · rw [cond_false, hD, Option.bind_some]
    dsimp only
    rw [q1]
    cases hk : ok3 a b c
    · have hk2 : ok3 a c b = false := by unfold ok3 at hk ⊢; rw [Bool.and_comm (goodP c)]; exact hk
      have n1 := merge_no fa.sm fb.sm fc.sm hk
      have n2 := merge_no fa.sm fc.sm fb.sm hk2
      have n3 := parts_no fa.sm fb.sm fc.sm hk
      have n4 := sameTexts_self [] (by simp)
      simp only [n1, n2, n3, n4, hE, g1, g2, Option.bind_some, beq_self_eq_true, Bool.not_true, cond_false, cond_true]
    · obtain ⟨k1, k2, k3⟩ := ok3_at hk
      have hk' := hk
      unfold ok3 at hk'
      simp only [Bool.and_eq_true] at hk'
      have hk2 : ok3 a c b = true := by unfold ok3; simp only [hk'.1, hk'.2.1, hk'.2.2, Bool.and_self]
      have hk3 : ok3 a b a = true := by unfold ok3; simp only [hk'.1, hk'.2.1, Bool.and_self]
      have hk4 : ok3 a b b = true := by unfold ok3; simp only [hk'.1, hk'.2.1, Bool.and_self]
      obtain ⟨ps, g, gl⟩ := go_ex (a := a) (b := b) (c := c) 120 0 0 0 (by omega) (Nat.zero_le _) (Nat.zero_le _) (Nat.zero_le _) (fun u _ _ h => ⟨h.1, h.2⟩)
      have n1 := mergeI_of fa.sm fb.sm fc.sm hk g gl
      have n2 := mergeI_of fa.sm fc.sm fb.sm hk2 (go_swap g) (by rw [List.length_map]; exact gl)
      rw [(swap_mg g).1, (swap_mg g).2] at n2
      have n3 := partsI_of fa.sm fb.sm fc.sm hk g (by omega)
      have n4 := merge_base fa.sm fb.sm hk3 hk'.2.1
      have n5 := merge_same fa.sm fb.sm hk4 hk'.2.1
      have n6 := markedI_of fa.sm fb.sm fc.sm hk g gl
      have n7 : f_I_ClashesIn ps = some ((((ps.countP isCl : Nat) : Int), true, ()), ()) := by
        unfold f_I_ClashesIn
        rw [few_I, Option.bind_some]
        dsimp only
        rw [few_go g gl, Bool.not_true, cond_false, clashes_I ps (by omega)]
        rfl
      have s1 := sameTexts_self b fb.sm.1
      have hto : tot S_string (ps.flatMap takenP) ≤ 3000 * ps.length := flat_tot takenP fun x hx => taken_tot (go_tot (ok3_lines hk).1 (ok3_lines hk).2 k2 k3 g x hx)
      have hsm : Sm (ps.flatMap takenP) := Sm.of hto (by omega)
      have s2 : f_L_sameTexts (mgR ps) (mgR ps) = some ((true, ()), ()) := sameTexts_self _ (by
        unfold mgR
        cases mgB ps
        · show (0 : Nat) ≤ _; omega
        · exact hsm.1)
      cases hm : mgB ps
      · rw [hm] at n1 n2
        simp only [n1, n2, n3, n4, n5, n6, n7, s1, s2, hE, g1, g2, Option.bind_some, beq_self_eq_true, Bool.not_true, cond_false, cond_true]
      · rw [hm] at n1 n2
        have hm' := hm
        unfold mgB at hm'
        simp only [Bool.and_eq_true, Bool.not_eq_true'] at hm'
        have h0 : ps.countP isCl = 0 := List.countP_eq_zero.2 fun x hx => by simpa using List.any_eq_false.1 hm'.1 x hx
        have e : mgR ps = ps.flatMap takenP := by unfold mgR; rw [hm]; rfl
        have n8 := textOf_I hsm hm'.2
        rw [← no_cl hm'.1, ← e] at n8
        have n9 : decide ((((0 : Nat) : Int)) > 0) = false := by decide
        rw [h0] at n7
        simp only [n1, n2, n3, n4, n5, n6, n7, n8, n9, s1, s2, hE, g1, g2, Option.bind_some, beq_self_eq_true, Bool.not_true, cond_false, cond_true]
  · rfl
end R
end
