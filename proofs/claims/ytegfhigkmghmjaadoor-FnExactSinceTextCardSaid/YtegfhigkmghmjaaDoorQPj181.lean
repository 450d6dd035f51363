/- Parts of the proof: PbE Pj1 Pj8 Pj9 Pj10 Pj11 Pj12 Pj13 Pj2 Pj16 Pj17. -/
import Derived.Test.YtegfhigkmghmjaaDoorPaE
import Derived.Test.YtegfhigkmghmjaaDoorL3
import Derived.Lib.ItoaLen
section
/- Plain laws of the law's helpers. -/
open Go Go.Dn
namespace R
set_option linter.unusedVariables false
theorem p_L_szStringS (t0 : PV S_string) (L : Int) (h0 : 0 ≤ L) (h1 : L ≤ 1048576) (hw : WfV S_string t0) : f_L_szStringS t0 L = some ((szR (tot S_string t0) L, ()), ()) := by
  have hl : List.length t0 ≤ 9223372036854775807 := hw.1
  unfold f_L_szStringS
  rw [wrap64 (by omega) (by omega)]
  by_cases hc : (t0.length : Int) ≤ L
  · rw [decide_eq_false (by omega : ¬ (L - (t0.length : Int) < 0)), cond_false, show w_L_szStringS_5 (t0, L - (t0.length : Int), 0, ()) = _ from sz_loop (T := .str) (xs := t0) (B := fun d => b_L_szStringS_5 d.1 d.2.1 d.2.2.1) (fun i hi l g0 g1 => by
      show b_L_szStringS_5 t0 l i = _
      generalize hxs : t0 = xs at *
      have hi' : (i : Int) < (xs.length : Int) := by omega
      unfold b_L_szStringS_5
      rw [decide_eq_true hi', cond_true, inB_lt hi, cond_true, toNat_cast, getD_of hi]
      have hx : (xs[i]).length ≤ 9223372036854775807 := hw.2 _ (List.getElem_mem hi)
      rw [wrap64 (by omega) (by omega), wrap64 (x := (i : Int) + 1) (by omega) (by omega)]
      by_cases hq : ((tot .str xs[i] : Nat) : Int) ≤ l
      · rw [if_pos hq]; rw [tot_str] at hq ⊢; rw [decide_eq_false (by omega : ¬ (l - (xs[i].length : Int) < 0)), cond_false]
      · rw [if_neg hq]; rw [tot_str] at hq; rw [decide_eq_true (by omega : l - (xs[i].length : Int) < 0), cond_true]) (fun l => by
      show b_L_szStringS_5 t0 l t0.length = _
      unfold b_L_szStringS_5
      rw [decide_eq_false (Int.lt_irrefl _), cond_false]) (by omega) (by omega)]
    exact sz_out hc tot_slice
  · rw [decide_eq_true (by omega : L - (t0.length : Int) < 0), cond_true, szR_neg (by rw [tot_slice]; omega)]

theorem p_L_szStringSS (t0 : PV S_S_string) (L : Int) (h0 : 0 ≤ L) (h1 : L ≤ 1048576) (hw : WfV S_S_string t0) : f_L_szStringSS t0 L = some ((szR (tot S_S_string t0) L, ()), ()) := by
  have hl : List.length t0 ≤ 9223372036854775807 := hw.1
  unfold f_L_szStringSS
  rw [wrap64 (by omega) (by omega)]
  by_cases hc : (t0.length : Int) ≤ L
  · rw [decide_eq_false (by omega : ¬ (L - (t0.length : Int) < 0)), cond_false, show w_L_szStringSS_5 (t0, L - (t0.length : Int), 0, ()) = _ from sz_loop (T := S_string) (xs := t0) (B := fun d => b_L_szStringSS_5 d.1 d.2.1 d.2.2.1) (fun i hi l g0 g1 => by
      show b_L_szStringSS_5 t0 l i = _
      generalize hxs : t0 = xs at *
      have hi' : (i : Int) < (xs.length : Int) := by omega
      unfold b_L_szStringSS_5
      rw [decide_eq_true hi', cond_true, inB_lt hi, cond_true, toNat_cast, getD_of hi]
      rw [p_L_szStringS _ l g0 g1 (hw.2 _ (List.getElem_mem hi)), Option.bind_some, wrap64 (x := (i : Int) + 1) (by omega) (by omega)]
      by_cases hq : ((tot S_string xs[i] : Nat) : Int) ≤ l
      · rw [if_pos hq, szR_pos hq]; dsimp only; rw [decide_eq_false (by omega : ¬ (l - ((tot S_string xs[i] : Nat) : Int) < 0)), cond_false]
      · rw [if_neg hq, szR_neg hq]; rfl) (fun l => by
      show b_L_szStringSS_5 t0 l t0.length = _
      unfold b_L_szStringSS_5
      rw [decide_eq_false (Int.lt_irrefl _), cond_false]) (by omega) (by omega)]
    exact sz_out hc tot_slice
  · rw [decide_eq_true (by omega : L - (t0.length : Int) < 0), cond_true, szR_neg (by rw [tot_slice]; omega)]

theorem p_L_toStringS (t0 : PV S_string) (hs : tot S_string t0 ≤ 1048576) : f_L_toStringS t0 = some ((t0, ()), ()) := by
  unfold f_L_toStringS
  have hl : List.length t0 ≤ 1048576 := Nat.le_trans (Nat.le_add_right _ _) (tot_slice ▸ hs)
  rw [room_len (by omega), cond_true, toNat_cast]
  rw [show w_L_toStringS_3 (t0, List.replicate t0.length _, 0, ()) = _ from to_loop (xs := t0) t0 (B := lp_L_toStringS_3.B) rfl (fun i hi acc ha => by
      show b_L_toStringS_3 t0 acc i = _
      unfold b_L_toStringS_3
      have hi' : (i : Int) < (t0.length : Int) := by omega
      rw [decide_eq_true hi', cond_true, inB_lt hi, cond_true, toNat_cast, getD_of hi]
      rw [inB_lt (by omega), cond_true, wrap64 (by omega) (by omega)]) (fun acc => by
      show b_L_toStringS_3 t0 acc t0.length = _
      unfold b_L_toStringS_3
      rw [decide_eq_false (Int.lt_irrefl _), cond_false])]
  rfl

theorem p_L_toStringSS (t0 : PV S_S_string) (hs : tot S_S_string t0 ≤ 1048576) : f_L_toStringSS t0 = some ((t0, ()), ()) := by
  unfold f_L_toStringSS
  have hl : List.length t0 ≤ 1048576 := Nat.le_trans (Nat.le_add_right _ _) (tot_slice ▸ hs)
  rw [room_len (by omega), cond_true, toNat_cast]
  rw [show w_L_toStringSS_3 (t0, List.replicate t0.length _, 0, ()) = _ from to_loop (xs := t0) t0 (B := lp_L_toStringSS_3.B) rfl (fun i hi acc ha => by
      show b_L_toStringSS_3 t0 acc i = _
      unfold b_L_toStringSS_3
      have hi' : (i : Int) < (t0.length : Int) := by omega
      rw [decide_eq_true hi', cond_true, inB_lt hi, cond_true, toNat_cast, getD_of hi]
      rw [p_L_toStringS _ (Nat.le_trans (tot_mem hi) hs), Option.bind_some, inB_lt (by omega), cond_true, wrap64 (by omega) (by omega)]) (fun acc => by
      show b_L_toStringSS_3 t0 acc t0.length = _
      unfold b_L_toStringSS_3
      rw [decide_eq_false (Int.lt_irrefl _), cond_false])]
  rfl

theorem p_L_eqStringS (t0 : PV S_string) (hs : tot S_string t0 ≤ 4611686018427387904) : f_L_eqStringS t0 t0 = some ((true, ()), ()) := by
  unfold f_L_eqStringS
  have hl : List.length t0 ≤ 4611686018427387904 := Nat.le_trans (Nat.le_add_right _ _) (tot_slice ▸ hs)
  rw [beq_self_eq_true, Bool.not_true, cond_false]
  rw [show w_L_eqStringS_4 (t0, t0, 0, ()) = _ from eq_loop (xs := t0) (B := fun d => b_L_eqStringS_4 d.1 d.2.1 d.2.2.1) (fun i hi => by
      show b_L_eqStringS_4 t0 t0 i = _
      unfold b_L_eqStringS_4
      have hi' : (i : Int) < (t0.length : Int) := by omega
      rw [decide_eq_true hi', cond_true, inB_lt hi, cond_true, cond_true, toNat_cast, getD_of hi]
      rw [beq_self_eq_true, Bool.not_true, cond_false, wrap64 (by omega) (by omega)]) (by
      show b_L_eqStringS_4 t0 t0 t0.length = _
      unfold b_L_eqStringS_4
      rw [decide_eq_false (Int.lt_irrefl _), cond_false])]
  rfl

theorem p_L_eqStringSS (t0 : PV S_S_string) (hs : tot S_S_string t0 ≤ 4611686018427387904) : f_L_eqStringSS t0 t0 = some ((true, ()), ()) := by
  unfold f_L_eqStringSS
  have hl : List.length t0 ≤ 4611686018427387904 := Nat.le_trans (Nat.le_add_right _ _) (tot_slice ▸ hs)
  rw [beq_self_eq_true, Bool.not_true, cond_false]
  rw [show w_L_eqStringSS_4 (t0, t0, 0, ()) = _ from eq_loop (xs := t0) (B := fun d => b_L_eqStringSS_4 d.1 d.2.1 d.2.2.1) (fun i hi => by
      show b_L_eqStringSS_4 t0 t0 i = _
      unfold b_L_eqStringSS_4
      have hi' : (i : Int) < (t0.length : Int) := by omega
      rw [decide_eq_true hi', cond_true, inB_lt hi, cond_true, cond_true, toNat_cast, getD_of hi]
      rw [p_L_eqStringS _ (Nat.le_trans (tot_mem hi) hs), Option.bind_some, Bool.not_true, cond_false, wrap64 (by omega) (by omega)]) (by
      show b_L_eqStringSS_4 t0 t0 t0.length = _
      unfold b_L_eqStringSS_4
      rw [decide_eq_false (Int.lt_irrefl _), cond_false])]
  rfl
end R
end

section
/- Lines: both sides' tests of lines answer the same. -/
open Go Go.Dn
namespace R
set_option linter.unusedVariables false

theorem in_I (a b c : Int) : f_I_in a b c = some ((decide (a ≥ b) && decide (a ≤ c), ()), ()) := by
  unfold f_I_in
  cases decide (a ≥ b) <;> rfl
theorem in_S (a b c : Int) : f_S_l1In a b c = some ((decide (a ≥ b) && decide (a ≤ c), ()), ()) := by
  unfold f_S_l1In
  cases decide (a ≥ b) <;> rfl

def inI (a b c : Int) : Bool := decide (a ≥ b) && decide (a ≤ c)
def hasEnd (s : List UInt8) : Bool := (s.take (s.length - 1)).contains 10
def lineP (s : List UInt8) : Bool := inI (s.length : Int) 1 30 && !hasEnd s
def endP (s : List UInt8) : Bool := s.drop (s.length - 1) == [10]

theorem line_len {s : List UInt8} (h : lineP s = true) : 1 ≤ s.length ∧ s.length ≤ 30 := by
  unfold lineP inI at h
  simp only [Bool.and_eq_true, decide_eq_true_eq] at h
  omega

theorem line_S (s : List UInt8) (hs : s.length ≤ 4611686018427387904) : f_S_l1Line s = some ((lineP s, ()), ()) := by
  unfold f_S_l1Line
  have hw : IntKind.wrap .i64 ((s.length : Int) - 1) = (s.length : Int) - 1 := wrap64 (by omega) (by omega)
  rw [show w_S_l1Line_2 (s, 0, ()) = _ from fix_anyN (B := fun d => b_S_l1Line_2 d.1 d.2.1) (s.length - 1) (fun i => s.getD i 0 == 10) (fun i => (s, (i : Int), ())) (fun _ => .inr (false, ())) (.inl (s, ()))
    (fun i hi hq => by
      show b_S_l1Line_2 s i = _
      unfold b_S_l1Line_2
      rw [hw, decide_eq_true (by omega : (i : Int) < (s.length : Int) - 1), cond_true, inB_lt (by omega), cond_true, toNat_cast]
      rw [show ((((s.getD i 0 : UInt8).toNat : Nat) : Int) == 10) = (s.getD i 0 == 10) from byte_eq (n := 10) (by omega), hq, cond_false, wrap64 (by omega) (by omega)]
      simp)
    (fun i hi hq => by
      show b_S_l1Line_2 s i = _
      unfold b_S_l1Line_2
      rw [hw, decide_eq_true (by omega : (i : Int) < (s.length : Int) - 1), cond_true, inB_lt (by omega), cond_true, toNat_cast]
      rw [show ((((s.getD i 0 : UInt8).toNat : Nat) : Int) == 10) = (s.getD i 0 == 10) from byte_eq (n := 10) (by omega), hq, cond_true])
    (by
      show b_S_l1Line_2 s ((s.length - 1 : Nat) : Int) = _
      unfold b_S_l1Line_2
      rw [hw, decide_eq_false (by omega : ¬ (((s.length - 1 : Nat) : Int) < (s.length : Int) - 1)), cond_false])]
  rw [contains_take (by omega)]
  unfold lineP hasEnd
  cases (s.take (s.length - 1)).contains 10
  · simp only [Bool.false_eq_true, if_false, Option.bind_some, in_S]; simp [inI]
  · simp

theorem ends_S (s : List UInt8) (h1 : 1 ≤ s.length) (hs : s.length ≤ 4611686018427387904) : f_S_l1Ends s = some ((endP s, ()), ()) := by
  unfold f_S_l1Ends
  have hw : IntKind.wrap .i64 ((s.length : Int) - 1) = ((s.length - 1 : Nat) : Int) := by rw [wrap64 (by omega) (by omega)]; omega
  rw [hw, inB_lt (by omega), cond_true, toNat_cast]
  rw [show ((((s.getD (s.length - 1) 0 : UInt8).toNat : Nat) : Int) == 10) = (s.getD (s.length - 1) 0 == 10) from byte_eq (n := 10) (by omega)]
  unfold endP
  rw [List.drop_eq_getElem_cons (by omega : s.length - 1 < s.length), List.drop_of_length_le (by omega), getD_of (by omega)]
  simp

theorem line_I (s : List UInt8) (hs : s.length ≤ 4611686018427387904) : f_I_isLine s = some ((lineP s, ()), ()) := by
  unfold f_I_isLine
  rw [in_I, Option.bind_some]
  dsimp only
  unfold lineP
  cases h : inI (s.length : Int) 1 30
  · unfold inI at h; rw [h]; rfl
  · have h' := h
    unfold inI at h'
    rw [h', cond_true]
    simp only [Bool.and_eq_true, decide_eq_true_eq] at h'
    rw [wrap64 (by omega) (by omega)]
    rw [show cutB 0 ((s.length : Int) - 1) s.length = true from by unfold cutB; simp; omega, cond_true]
    unfold f_strings_Contains containsF
    rw [Option.bind_some]
    unfold hasEnd cutL
    rw [show ((s.length : Int) - 1).toNat = s.length - 1 from by omega]
    simp

theorem ends_I (s : List UInt8) (hs : s.length ≤ 4611686018427387904) : f_I_isEnded s = some ((endP s, ()), ()) := by
  unfold f_I_isEnded f_strings_HasSuffix f_internal_stringslite_HasSuffix endP
  by_cases h : 1 ≤ s.length
  · rw [decide_eq_true (by simp; omega : (s.length : Int) ≥ (([10] : List UInt8).length : Int)), cond_true]
    have hw : IntKind.wrap .i64 ((s.length : Int) - (([10] : List UInt8).length : Int)) = ((s.length - 1 : Nat) : Int) := by
      rw [show ((([10] : List UInt8).length : Nat) : Int) = 1 from rfl, wrap64 (by omega) (by omega)]; omega
    rw [hw, show cutB ((s.length - 1 : Nat) : Int) (s.length : Int) s.length = true from by unfold cutB; simp, cond_true]
    unfold cutL
    simp
  · have : s = [] := List.eq_nil_of_length_eq_zero (by omega)
    subst this
    rfl

/-- Lines, each by itself, and not too many. -/
def linesP (l : List (List UInt8)) : Bool := decide (l.length ≤ 40) && !(l.any fun s => !lineP s)
def endsP (l : List (List UInt8)) : Bool := !(anyN l.length fun k => decide ((k : Int) < (l.length : Int) - 1) && !(endP (l.getD k [])))
def goodP (l : List (List UInt8)) : Bool := linesP l && endsP l

def Sm (l : List (List UInt8)) : Prop := l.length ≤ 4611686018427387904 ∧ ∀ s ∈ l, s.length ≤ 4611686018427387904

theorem Sm.len {l : List (List UInt8)} (h : Sm l) : l.length ≤ 4611686018427387904 := h.1
theorem Sm.mem {l : List (List UInt8)} (h : Sm l) {i : Nat} (hi : i < l.length) : (l[i]).length ≤ 4611686018427387904 := h.2 _ (List.getElem_mem hi)
theorem Sm.of {l : List (List UInt8)} {n : Nat} (h : tot (.slice 9 .str) l ≤ n) (hn : n ≤ 4611686018427387904) : Sm l := by
  refine ⟨?_, fun s hs => ?_⟩
  · have h' := h
    rw [tot_slice] at h'
    omega
  · obtain ⟨i, hi, rfl⟩ := List.mem_iff_getElem.1 hs
    have := Nat.le_trans (tot_mem (e := 9) (t := .str) (xs := l) hi) h
    rw [tot_str] at this
    omega

theorem areLines_I (t0 : List (List UInt8)) (hs : Sm t0) : f_I_areLines t0 = some ((linesP t0, ()), ()) := by
  unfold f_I_areLines linesP
  by_cases hl : t0.length ≤ 40
  · rw [decide_eq_true (by omega : (t0.length : Int) ≤ 40), cond_true, decide_eq_true hl, Bool.true_and]
    rw [show w_I_areLines_184_2 (t0, false, t0, (t0.length : Int), true, true, t0, t0, false, t0, t0, (t0.length : Int), 0, ()) = _ from
      fix_any (B := fun d => b_I_areLines_184_2 d.1 d.2.1 d.2.2.1 d.2.2.2.1 d.2.2.2.2.1 d.2.2.2.2.2.1 d.2.2.2.2.2.2.1 d.2.2.2.2.2.2.2.1 d.2.2.2.2.2.2.2.2.1 d.2.2.2.2.2.2.2.2.2.1 d.2.2.2.2.2.2.2.2.2.2.1 d.2.2.2.2.2.2.2.2.2.2.2.1 d.2.2.2.2.2.2.2.2.2.2.2.2.1) t0 (fun s => !lineP s)
      (fun i => (t0, false, t0, (t0.length : Int), true, true, t0, t0, false, t0, t0, (t0.length : Int), (i : Int), ())) (fun i => .inr (t0, false, t0, (t0.length : Int), true, true, t0, t0, false, t0, (i : Int), ())) (.inl (t0, false, t0, (t0.length : Int), true, true, t0, t0, false, t0, ()))
      (fun i hi hq => by
        show b_I_areLines_184_2 _ _ _ _ _ _ _ _ _ _ t0 t0.length i = _
        unfold b_I_areLines_184_2 f_I_areLines_1
        rw [decide_eq_true (by omega : (i : Int) < (t0.length : Int)), cond_true, inB_lt hi, cond_true, toNat_cast, getD_of hi, line_I _ (hs.mem hi), Option.bind_some, Option.bind_some]
        dsimp only
        rw [hq, cond_false, wrap64 (by omega) (by omega)]; rfl)
      (fun i hi hq => by
        show b_I_areLines_184_2 _ _ _ _ _ _ _ _ _ _ t0 t0.length i = _
        unfold b_I_areLines_184_2 f_I_areLines_1
        rw [decide_eq_true (by omega : (i : Int) < (t0.length : Int)), cond_true, inB_lt hi, cond_true, toNat_cast, getD_of hi, line_I _ (hs.mem hi), Option.bind_some, Option.bind_some]
        dsimp only
        rw [hq, cond_true])
      (by
        show b_I_areLines_184_2 _ _ _ _ _ _ _ _ _ _ t0 t0.length t0.length = _
        unfold b_I_areLines_184_2
        rw [decide_eq_false (Int.lt_irrefl _), cond_false])]
    cases h : t0.any fun s => !lineP s
    · rfl
    · simp
  · rw [decide_eq_false (by omega : ¬ (t0.length : Int) ≤ 40), cond_false, decide_eq_false hl]; rfl

theorem goodLines_I (t0 : List (List UInt8)) (hs : Sm t0) : f_I_goodLines t0 = some ((goodP t0, ()), ()) := by
  have hl := hs.len
  unfold f_I_goodLines goodP
  rw [areLines_I t0 hs, Option.bind_some]
  dsimp only
  cases linesP t0
  · rfl
  · rw [Bool.not_true, cond_false]
    have hw : IntKind.wrap .i64 ((t0.length : Int) - 1) = (t0.length : Int) - 1 := wrap64 (by omega) (by omega)
    have hr : ∀ i, i < t0.length → ((bif decide ((i : Int) < (t0.length : Int) - 1) then (f_I_isEnded (t0.getD i [])).bind fun r7 => some (t0, t0, (t0.length : Int), (i : Int), !r7.1.1, ()) else some (t0, t0, (t0.length : Int), (i : Int), false, ())) : Option (PV S_string × PV S_string × Int × Int × Bool × Unit)) =
        some (t0, t0, (t0.length : Int), (i : Int), decide ((i : Int) < (t0.length : Int) - 1) && !(endP (t0.getD i [])), ()) := by
      intro i hi
      cases decide ((i : Int) < (t0.length : Int) - 1)
      · rfl
      · rw [cond_true, getD_of hi, ends_I _ (hs.mem hi)]; rfl
    rw [show w_I_goodLines_4 (t0, t0, (t0.length : Int), 0, ()) = _ from fix_anyN (B := fun d => b_I_goodLines_4 d.1 d.2.1 d.2.2.1 d.2.2.2.1) t0.length (fun k => decide ((k : Int) < (t0.length : Int) - 1) && !(endP (t0.getD k [])))
      (fun i => (t0, t0, (t0.length : Int), (i : Int), ())) (fun _ => .inr (false, ())) (.inl ())
      (fun i hi hq => by
        show b_I_goodLines_4 t0 t0 t0.length i = _
        unfold b_I_goodLines_4
        rw [decide_eq_true (by omega : (i : Int) < (t0.length : Int)), cond_true, inB_lt hi, cond_true, toNat_cast, hw, hr i hi, hq, Option.bind_some]
        dsimp only
        rw [cond_false, wrap64 (by omega) (by omega)]; rfl)
      (fun i hi hq => by
        show b_I_goodLines_4 t0 t0 t0.length i = _
        unfold b_I_goodLines_4
        rw [decide_eq_true (by omega : (i : Int) < (t0.length : Int)), cond_true, inB_lt hi, cond_true, toNat_cast, hw, hr i hi, hq, Option.bind_some]
        rfl)
      (by
        show b_I_goodLines_4 t0 t0 t0.length t0.length = _
        unfold b_I_goodLines_4
        rw [decide_eq_false (Int.lt_irrefl _), cond_false])]
    unfold endsP
    cases anyN t0.length fun k => decide ((k : Int) < (t0.length : Int) - 1) && !(endP (t0.getD k [])) <;> rfl

theorem l1Good_S (t0 : List (List UInt8)) (hs : Sm t0) : f_S_l1Good t0 = some ((goodP t0, ()), ()) := by
  have hl := hs.len
  unfold f_S_l1Good
  have hw : IntKind.wrap .i64 ((t0.length : Int) - 1) = (t0.length : Int) - 1 := wrap64 (by omega) (by omega)
  have hr : ∀ i, i < t0.length → (((f_S_l1Line (t0.getD i [])).bind fun r4 => bif !r4.1.1 then some (t0, t0, (t0.length : Int), (i : Int), true, ()) else
      bif decide ((i : Int) < (t0.length : Int) - 1) then (f_S_l1Ends (t0.getD i [])).bind fun r5 => some (t0, t0, (t0.length : Int), (i : Int), !r5.1.1, ()) else some (t0, t0, (t0.length : Int), (i : Int), false, ())) : Option (PV S_string × PV S_string × Int × Int × Bool × Unit)) =
      some (t0, t0, (t0.length : Int), (i : Int), !(lineP (t0.getD i [])) || (decide ((i : Int) < (t0.length : Int) - 1) && !(endP (t0.getD i []))), ()) := by
    intro i hi
    rw [getD_of hi, line_S _ (hs.mem hi), Option.bind_some]
    dsimp only
    cases hL : lineP t0[i]
    · rfl
    · rw [Bool.not_true, cond_false, Bool.false_or]
      cases decide ((i : Int) < (t0.length : Int) - 1)
      · rfl
      · rw [cond_true, ends_S _ (line_len hL).1 (hs.mem hi)]; rfl
  rw [show w_S_l1Good_2 (t0, t0, (t0.length : Int), 0, ()) = _ from fix_anyN (B := fun d => b_S_l1Good_2 d.1 d.2.1 d.2.2.1 d.2.2.2.1) t0.length (fun k => !(lineP (t0.getD k [])) || (decide ((k : Int) < (t0.length : Int) - 1) && !(endP (t0.getD k []))))
      (fun i => (t0, t0, (t0.length : Int), (i : Int), ())) (fun _ => .inr (false, ())) (.inl (t0, ()))
      (fun i hi hq => by
        show b_S_l1Good_2 t0 t0 t0.length i = _
        unfold b_S_l1Good_2
        rw [decide_eq_true (by omega : (i : Int) < (t0.length : Int)), cond_true, inB_lt hi, cond_true, toNat_cast, hw, hr i hi, hq, Option.bind_some]
        dsimp only
        rw [cond_false, wrap64 (by omega) (by omega)]; rfl)
      (fun i hi hq => by
        show b_S_l1Good_2 t0 t0 t0.length i = _
        unfold b_S_l1Good_2
        rw [decide_eq_true (by omega : (i : Int) < (t0.length : Int)), cond_true, inB_lt hi, cond_true, toNat_cast, hw, hr i hi, hq, Option.bind_some]
        rfl)
      (by
        show b_S_l1Good_2 t0 t0 t0.length t0.length = _
        unfold b_S_l1Good_2
        rw [decide_eq_false (Int.lt_irrefl _), cond_false])]
  rw [anyN_or, show (anyN t0.length fun k => !(lineP (t0.getD k []))) = t0.any fun s => !lineP s from anyN_list (f := fun s => !lineP s)]
  unfold goodP linesP endsP
  cases t0.any fun s => !lineP s
  · cases anyN t0.length fun k => decide ((k : Int) < (t0.length : Int) - 1) && !(endP (t0.getD k []))
    · simp; omega
    · simp
  · simp
end R
end

section
/- The table of what two texts share: both sides make the same. -/
open Go Go.Dn
namespace R
set_option linter.unusedVariables false

abbrev TXT := List (List UInt8)
def rowP (a b : TXT) (i m : Nat) : List Int := mkT (b.length + 1) fun j => if m ≤ j then (T a b i j : Int) else 0
def rowT (a b : TXT) (i : Nat) : List Int := mkT (b.length + 1) fun j => (T a b i j : Int)
def tabT (a b : TXT) : List (List Int) := mkT (a.length + 1) (rowT a b)
/-- Row i told from m on, the rows behind it all, the ones ahead as f says. -/
def tabP (f : Nat → List Int) (a b : TXT) (i m : Nat) : List (List Int) := mkT (a.length + 1) fun r => if r = i then rowP a b i m else if i < r then rowT a b r else f r

theorem rowP_0 (a b : TXT) (i : Nat) : rowP a b i 0 = rowT a b i := mkT_ext fun j _ => if_pos (Nat.zero_le j)
theorem rowP_end (a b : TXT) (i : Nat) : rowP a b i b.length = mkT (b.length + 1) fun _ => (0 : Int) := mkT_ext fun j hj => by
  split
  · rw [T_end_r (by omega)]; rfl
  · rfl
theorem rowP_set {a b : TXT} {i m : Nat} : (rowP a b i (m + 1)).set m (T a b i m : Int) = rowP a b i m := by
  unfold rowP
  rw [mkT_set]
  refine mkT_ext fun j hj => ?_
  by_cases h : j = m
  · subst h; rw [if_pos rfl, if_pos (Nat.le_refl _)]
  · rw [if_neg h]
    by_cases h2 : m ≤ j
    · rw [if_pos (by omega), if_pos h2]
    · rw [if_neg (by omega), if_neg h2]
theorem tabP_set {f : Nat → List Int} {a b : TXT} {i m : Nat} {v : List Int} (hv : v = rowP a b i m) {m' : Nat} : (tabP f a b i m').set i v = tabP f a b i m := by
  subst hv
  unfold tabP
  rw [mkT_set]
  refine mkT_ext fun r hr => ?_
  by_cases h : r = i
  · rw [if_pos h, if_pos h]
  · rw [if_neg h, if_neg h, if_neg h]
theorem tabP_len {f : Nat → List Int} {a b : TXT} {i m : Nat} : (tabP f a b i m).length = a.length + 1 := mkT_len
theorem tabP_at {f : Nat → List Int} {a b : TXT} {i m : Nat} (hi : i ≤ a.length) {d : List Int} : (tabP f a b i m).getD i d = rowP a b i m := by
  unfold tabP
  rw [mkT_get (by omega), if_pos rfl]
theorem tabP_next {f : Nat → List Int} {a b : TXT} {i m : Nat} (hi : i < a.length) {d : List Int} : (tabP f a b i m).getD (i + 1) d = rowT a b (i + 1) := by
  unfold tabP
  rw [mkT_get (by omega), if_neg (by omega), if_pos (by omega)]
theorem rowP_len {a b : TXT} {i m : Nat} : (rowP a b i m).length = b.length + 1 := mkT_len
theorem rowT_len {a b : TXT} {i : Nat} : (rowT a b i).length = b.length + 1 := mkT_len
theorem rowT_get {a b : TXT} {i j : Nat} (hj : j ≤ b.length) {d : Int} : (rowT a b i).getD j d = (T a b i j : Int) := mkT_get (by omega)
theorem rowP_get {a b : TXT} {i m j : Nat} (hj : j ≤ b.length) (hm : m ≤ j) {d : Int} : (rowP a b i m).getD j d = (T a b i j : Int) := by
  unfold rowP
  rw [mkT_get (by omega), if_pos hm]

theorem T_small {a b : TXT} (h : a.length ≤ 1048576) (i j : Nat) : T a b i j ≤ 1048576 := Nat.le_trans T_le (by omega)

theorem inner_I {a b : TXT} {f : Nat → List Int} (ha : a.length ≤ 1048576) (hb : b.length ≤ 1048576) {i : Nat} (hi : i < a.length) :
    w_I_common_8 (a, b, tabP f a b i b.length, (i : Int), IntKind.wrap .i64 ((b.length : Int) - 1), ()) = some (a, b, tabP f a b i 0, (i : Int), ()) := by
  have := fix_down (B := fun d => b_I_common_8 d.1 d.2.1 d.2.2.1 d.2.2.2.1 d.2.2.2.2.1) (fun m => (a, b, tabP f a b i m, (i : Int), (m : Int) - 1, ())) (r := (a, b, tabP f a b i 0, (i : Int), ()))
    (by
      show b_I_common_8 a b (tabP f a b i 0) i (((0 : Nat) : Int) - 1) = _
      unfold b_I_common_8
      rw [decide_eq_false (by omega : ¬ ((((0 : Nat) : Int) - 1) ≥ 0)), cond_false]) b.length
    (fun m hm => by
      show b_I_common_8 a b (tabP f a b i (m + 1)) i (((m + 1 : Nat) : Int) - 1) = _
      rw [show ((m + 1 : Nat) : Int) - 1 = (m : Int) from by omega]
      unfold b_I_common_8
      have w1 : IntKind.wrap .i64 ((i : Int) + 1) = ((i + 1 : Nat) : Int) := by rw [wrap64 (by omega) (by omega)]; omega
      have w2 : IntKind.wrap .i64 ((m : Int) + 1) = ((m + 1 : Nat) : Int) := by rw [wrap64 (by omega) (by omega)]; omega
      have t1 := T_small (b := b) ha (i + 1) (m + 1)
      have w3 : IntKind.wrap .i64 ((T a b (i + 1) (m + 1) : Int) + 1) = (T a b (i + 1) (m + 1) : Int) + 1 := wrap64 (by omega) (by omega)
      have w4 : IntKind.wrap .i64 ((m : Int) - 1) = (m : Int) - 1 := wrap64 (by omega) (by omega)
      rw [decide_eq_true (by omega : (m : Int) ≥ 0), cond_true, inB_lt hi, cond_true, inB_lt hm, cond_true]
      simp only [toNat_cast, w1, w2, w4, tabP_len, tabP_at (Nat.le_of_lt hi), tabP_next hi, rowT_len, rowP_len, inB_lt (by omega : i < a.length + 1), inB_lt (by omega : i + 1 < a.length + 1), inB_lt (by omega : m + 1 < b.length + 1), inB_lt (by omega : m < b.length + 1), cond_true,
        rowT_get (by omega : m + 1 ≤ b.length), rowT_get (by omega : m ≤ b.length), rowP_get (by omega : m + 1 ≤ b.length) (Nat.le_refl (m + 1)), w3, getD_of hi, getD_of hm]
      have hs := T_step hi hm
      by_cases hc : a[i] = b[m]
      · rw [if_pos hc] at hs
        rw [beq_iff_eq.2 hc, cond_true, Option.bind_some]
        dsimp only
        rw [w4, show ((T a b (i + 1) (m + 1) : Nat) : Int) + 1 = (T a b i m : Int) from by omega, rowP_set, tabP_set rfl]
      · rw [if_neg hc] at hs
        rw [beq_eq_false_iff_ne.2 hc, cond_false, Option.bind_some]
        dsimp only
        rw [w4]
        have e : (bif decide ((T a b i (m + 1) : Int) > (T a b (i + 1) m : Int)) then (T a b i (m + 1) : Int) else (T a b (i + 1) m : Int)) = (T a b i m : Int) := by
          by_cases h : (T a b i (m + 1) : Int) > (T a b (i + 1) m : Int)
          · rw [decide_eq_true h, cond_true]; omega
          · rw [decide_eq_false h, cond_false]; omega
        rw [e, rowP_set, tabP_set rfl])
  rw [show IntKind.wrap .i64 ((b.length : Int) - 1) = (b.length : Int) - 1 from wrap64 (by omega) (by omega)]
  exact this

def noRow (b : TXT) : Nat → List Int := fun _ => []
def tabE (f : Nat → List Int) (a b : TXT) (n : Nat) : List (List Int) := mkT (a.length + 1) fun r => if n ≤ r then rowT a b r else f r

theorem tabE_of {f : Nat → List Int} {a b : TXT} {i : Nat} : tabP f a b i 0 = tabE f a b i := mkT_ext fun r hr => by
  rw [rowP_0]
  by_cases h : r = i
  · subst h; rw [if_pos rfl, if_pos (Nat.le_refl _)]
  · rw [if_neg h]
    by_cases h2 : i < r
    · rw [if_pos h2, if_pos (by omega)]
    · rw [if_neg h2, if_neg (by omega)]
theorem tabE_set {f : Nat → List Int} {a b : TXT} {i : Nat} : (tabE f a b (i + 1)).set i (rowP a b i b.length) = tabP f a b i b.length := by
  unfold tabE tabP
  rw [mkT_set]
  exact mkT_ext fun r hr => by
    by_cases h : r = i
    · rw [if_pos h, if_pos h]
    · rw [if_neg h, if_neg h]
      rfl
theorem tabE_0 {f : Nat → List Int} {a b : TXT} : tabE f a b 0 = tabT a b := mkT_ext fun r hr => if_pos (Nat.zero_le r)

theorem room1 {n : Nat} (h : n ≤ 1048576) : (decide (0 ≤ (IntKind.wrap .i64 ((n : Int) + 1))) && (decide ((IntKind.wrap .i64 ((n : Int) + 1)) ≤ (IntKind.wrap .i64 ((n : Int) + 1))) && roomB (IntKind.wrap .i64 ((n : Int) + 1)).toNat)) = true ∧ (IntKind.wrap .i64 ((n : Int) + 1)).toNat = n + 1 := by
  have w : IntKind.wrap .i64 ((n : Int) + 1) = ((n + 1 : Nat) : Int) := by rw [wrap64 (by omega) (by omega)]; omega
  rw [w]
  exact ⟨room_len (by omega), by simp⟩

theorem common_I {a b : TXT} (ha : a.length ≤ 1048576) (hb : b.length ≤ 1048576) : f_I_common a b = some ((tabT a b, ()), ()) := by
  obtain ⟨ra, na⟩ := room1 ha
  obtain ⟨rb, nb⟩ := room1 hb
  unfold f_I_common
  rw [ra, cond_true, rb, cond_true, na, nb, inB_lt (by simp), cond_true, toNat_cast]
  have e0 : (List.replicate (a.length + 1) ([] : List Int)).set a.length (List.replicate (b.length + 1) (0 : Int)) = tabE (noRow b) a b a.length := by
    rw [mkT_rep, mkT_set, mkT_rep]
    refine mkT_ext fun r hr => ?_
    by_cases h : r = a.length
    · subst h
      rw [if_pos rfl, if_pos (Nat.le_refl _), ← rowP_end a b a.length, ← rowP_0]
      exact mkT_ext fun j hj => by
        rw [T_end_l (Nat.le_refl _)]
        split <;> split <;> rfl
    · rw [if_neg h, if_neg (by omega)]
      rfl
  rw [show (List.replicate (a.length + 1) ([] : PV S_int)).set a.length (List.replicate (b.length + 1) (0 : Int)) = tabE (noRow b) a b a.length from e0]
  have := fix_down (B := fun d => b_I_common_4 d.1 d.2.1 d.2.2.1 d.2.2.2.1) (fun n => (a, b, tabE (noRow b) a b n, (n : Int) - 1, ())) (r := (tabT a b, ()))
    (by
      show b_I_common_4 a b (tabE (noRow b) a b 0) (((0 : Nat) : Int) - 1) = _
      unfold b_I_common_4
      rw [decide_eq_false (by omega : ¬ ((((0 : Nat) : Int) - 1) ≥ 0)), cond_false, tabE_0]) a.length
    (fun i hi => by
      show b_I_common_4 a b (tabE (noRow b) a b (i + 1)) (((i + 1 : Nat) : Int) - 1) = _
      rw [show ((i + 1 : Nat) : Int) - 1 = (i : Int) from by omega]
      unfold b_I_common_4
      rw [decide_eq_true (by omega : (i : Int) ≥ 0), cond_true, rb, cond_true, nb, toNat_cast, inB_lt (by unfold tabE; rw [mkT_len]; omega), cond_true]
      rw [show (List.replicate (b.length + 1) (0 : Int)) = rowP a b i b.length from by rw [rowP_end, mkT_rep], tabE_set, inner_I ha hb hi, Option.bind_some]
      dsimp only
      rw [tabE_of, show IntKind.wrap .i64 ((i : Int) - 1) = (i : Int) - 1 from wrap64 (by omega) (by omega)])
  rw [show IntKind.wrap .i64 ((a.length : Int) - 1) = (a.length : Int) - 1 from wrap64 (by omega) (by omega), show w_I_common_4 (a, b, tabE (noRow b) a b a.length, (a.length : Int) - 1, ()) = _ from this]
  rfl
end R
end

section
/- The reference's table, and its pairs. -/
open Go Go.Dn
namespace R
set_option linter.unusedVariables false

theorem most_S (x y : Int) : f_S_l1Most x y = some ((max x y, ()), ()) := by
  unfold f_S_l1Most
  by_cases h : x > y
  · rw [decide_eq_true h, cond_true, show max x y = x from by omega]
  · rw [decide_eq_false h, cond_false, show max x y = y from by omega]

theorem getD_set_other {α : Type} {ys : List α} {i j : Nat} {a d : α} (h : i ≠ j) : (ys.set i a).getD j d = ys.getD j d := by
  simp [List.getD, List.getElem?_set, h]

theorem inner_S {a b : TXT} {f : Nat → List Int} (ha : a.length ≤ 1048576) (hb : b.length ≤ 1048576) {i : Nat} (hi : i < a.length) :
    w_S_l3Table_11 (a, b, tabP f a b i b.length, (i : Int), IntKind.wrap .i64 ((b.length : Int) - 1), ()) = some (a, b, tabP f a b i 0, (i : Int), ()) := by
  have := fix_down (B := fun d => b_S_l3Table_11 d.1 d.2.1 d.2.2.1 d.2.2.2.1 d.2.2.2.2.1) (fun m => (a, b, tabP f a b i m, (i : Int), (m : Int) - 1, ())) (r := (a, b, tabP f a b i 0, (i : Int), ()))
    (by
      show b_S_l3Table_11 a b (tabP f a b i 0) i (((0 : Nat) : Int) - 1) = _
      unfold b_S_l3Table_11
      rw [decide_eq_false (by omega : ¬ ((((0 : Nat) : Int) - 1) ≥ 0)), cond_false]) b.length
    (fun m hm => by
      show b_S_l3Table_11 a b (tabP f a b i (m + 1)) i (((m + 1 : Nat) : Int) - 1) = _
      rw [show ((m + 1 : Nat) : Int) - 1 = (m : Int) from by omega]
      unfold b_S_l3Table_11
      have w1 : IntKind.wrap .i64 ((i : Int) + 1) = ((i + 1 : Nat) : Int) := by rw [wrap64 (by omega) (by omega)]; omega
      have w2 : IntKind.wrap .i64 ((m : Int) + 1) = ((m + 1 : Nat) : Int) := by rw [wrap64 (by omega) (by omega)]; omega
      have t1 := T_small (b := b) ha (i + 1) (m + 1)
      have w3 : IntKind.wrap .i64 ((T a b (i + 1) (m + 1) : Int) + 1) = (T a b (i + 1) (m + 1) : Int) + 1 := wrap64 (by omega) (by omega)
      have w4 : IntKind.wrap .i64 ((m : Int) - 1) = (m : Int) - 1 := wrap64 (by omega) (by omega)
      have hn : i ≠ i + 1 := by omega
      have hs := T_max hi hm
      rw [decide_eq_true (by omega : (m : Int) ≥ 0), cond_true]
      simp only [toNat_cast, w1, w2, tabP_len, tabP_at (Nat.le_of_lt hi), tabP_next hi, rowT_len, rowP_len, inB_lt hi, inB_lt hm, inB_lt (by omega : i < a.length + 1), inB_lt (by omega : i + 1 < a.length + 1), inB_lt (by omega : m + 1 < b.length + 1), inB_lt (by omega : m < b.length + 1), cond_true,
        rowT_get (by omega : m + 1 ≤ b.length), rowT_get (by omega : m ≤ b.length), rowP_get (by omega : m + 1 ≤ b.length) (Nat.le_refl (m + 1)), most_S, Option.bind_some, getD_of hi, getD_of hm, List.length_set,
        getD_set_self (by rw [tabP_len]; omega : i < (tabP f a b i (m + 1)).length), getD_set_self (by rw [rowP_len]; omega : m < (rowP a b i (m + 1)).length), getD_set_other hn, w3, List.set_set]
      by_cases hc : a[i] = b[m]
      · rw [if_pos hc] at hs
        rw [beq_iff_eq.2 hc, cond_true, Option.bind_some]
        dsimp only
        rw [w4, show max (max (T a b (i + 1) m : Int) (T a b i (m + 1) : Int)) ((T a b (i + 1) (m + 1) : Int) + 1) = (T a b i m : Int) from by omega, rowP_set, tabP_set rfl]
      · rw [if_neg hc] at hs
        rw [beq_eq_false_iff_ne.2 hc, cond_false, Option.bind_some]
        dsimp only
        rw [w4, show max (T a b (i + 1) m : Int) (T a b i (m + 1) : Int) = (T a b i m : Int) from by omega, rowP_set, tabP_set rfl])
  rw [show IntKind.wrap .i64 ((b.length : Int) - 1) = (b.length : Int) - 1 from wrap64 (by omega) (by omega)]
  exact this

def zeroRow (b : TXT) : Nat → List Int := fun _ => mkT (b.length + 1) fun _ => (0 : Int)

theorem table_S {a b : TXT} (ha : a.length ≤ 1048576) (hb : b.length ≤ 1048576) : f_S_l3Table a b = some ((tabT a b, ()), ()) := by
  obtain ⟨ra, na⟩ := room1 ha
  obtain ⟨rb, nb⟩ := room1 hb
  unfold f_S_l3Table
  rw [ra, cond_true, na, List.length_replicate]
  -- the rows
  have h1 := fix_all (B := fun d => b_S_l3Table_3 d.1 d.2.1 d.2.2.1 d.2.2.2.1 d.2.2.2.2.1) (fun n => (a, b, mkT (a.length + 1) (fun r => if r < n then zeroRow b r else ([] : List Int)), ((a.length + 1 : Nat) : Int), (n : Int), ())) (a.length + 1) (r := (a, b, mkT (a.length + 1) (zeroRow b), ()))
    (fun i hi => by
      show b_S_l3Table_3 a b (mkT (a.length + 1) _) ((a.length + 1 : Nat) : Int) i = _
      unfold b_S_l3Table_3
      rw [decide_eq_true (by omega : (i : Int) < ((a.length + 1 : Nat) : Int)), cond_true, rb, cond_true, inB_lt (by rw [mkT_len]; omega), cond_true, nb, toNat_cast, mkT_set, wrap64 (by omega) (by omega)]
      have e : (mkT (a.length + 1) fun r => if r = i then List.replicate (b.length + 1) (0 : Int) else if r < i then zeroRow b r else []) = mkT (a.length + 1) fun r => if r < i + 1 then zeroRow b r else [] := mkT_ext fun r hr => by
        by_cases h : r = i
        · rw [if_pos h, if_pos (by omega), mkT_rep]; rfl
        · rw [if_neg h]
          by_cases h2 : r < i
          · rw [if_pos h2, if_pos (by omega)]
          · rw [if_neg h2, if_neg (by omega)]
      rw [e]
      rfl)
    (by
      show b_S_l3Table_3 a b (mkT (a.length + 1) _) ((a.length + 1 : Nat) : Int) ((a.length + 1 : Nat) : Int) = _
      unfold b_S_l3Table_3
      rw [decide_eq_false (Int.lt_irrefl _), cond_false]
      have e : (mkT (a.length + 1) fun r => if r < a.length + 1 then zeroRow b r else []) = mkT (a.length + 1) (zeroRow b) := mkT_ext fun r hr => if_pos hr
      rw [e])
  have e0 : List.replicate (a.length + 1) ([] : List Int) = mkT (a.length + 1) (fun r => if r < 0 then zeroRow b r else ([] : List Int)) := by
    rw [mkT_rep]
    exact mkT_ext fun r hr => by rw [if_neg (by omega)]
  rw [show w_S_l3Table_3 (a, b, List.replicate (a.length + 1) ([] : PV S_int), ((a.length + 1 : Nat) : Int), 0, ()) = _ from e0 ▸ h1, Option.bind_some]
  dsimp only
  have e1 : mkT (a.length + 1) (zeroRow b) = tabE (zeroRow b) a b a.length := mkT_ext fun r hr => by
    by_cases h : a.length ≤ r
    · rw [if_pos h]
      exact mkT_ext fun j hj => by rw [T_end_l h]; rfl
    · rw [if_neg h]
  rw [e1]
  have := fix_down (B := fun d => b_S_l3Table_8 d.1 d.2.1 d.2.2.1 d.2.2.2.1) (fun n => (a, b, tabE (zeroRow b) a b n, (n : Int) - 1, ())) (r := (tabT a b, ()))
    (by
      show b_S_l3Table_8 a b (tabE (zeroRow b) a b 0) (((0 : Nat) : Int) - 1) = _
      unfold b_S_l3Table_8
      rw [decide_eq_false (by omega : ¬ ((((0 : Nat) : Int) - 1) ≥ 0)), cond_false, tabE_0]) a.length
    (fun i hi => by
      show b_S_l3Table_8 a b (tabE (zeroRow b) a b (i + 1)) (((i + 1 : Nat) : Int) - 1) = _
      rw [show ((i + 1 : Nat) : Int) - 1 = (i : Int) from by omega]
      unfold b_S_l3Table_8
      have e2 : tabE (zeroRow b) a b (i + 1) = tabP (zeroRow b) a b i b.length := by
        rw [← tabE_set]
        unfold tabE
        rw [mkT_set]
        refine mkT_ext fun r hr => ?_
        by_cases h : r = i
        · rw [if_pos h, if_neg (by omega), rowP_end]; rfl
        · rw [if_neg h]
      rw [decide_eq_true (by omega : (i : Int) ≥ 0), cond_true, e2, inner_S ha hb hi, Option.bind_some]
      dsimp only
      rw [tabE_of, show IntKind.wrap .i64 ((i : Int) - 1) = (i : Int) - 1 from wrap64 (by omega) (by omega)])
  rw [show IntKind.wrap .i64 ((a.length : Int) - 1) = (a.length : Int) - 1 from wrap64 (by omega) (by omega), show w_S_l3Table_8 (a, b, tabE (zeroRow b) a b a.length, (a.length : Int) - 1, ()) = _ from this]
  rfl
end R
end

section
/- The pairs that the reference tells. -/
open Go Go.Dn
namespace R
set_option linter.unusedVariables false

/-- A pair that may be the next one. -/
def cand (a b : TXT) (i j p q : Nat) : Bool := (a.getD p [] == b.getD q []) && decide (T a b (p + 1) (q + 1) + 1 = T a b i j)
def scanQ (c : Nat → Bool) (p j : Nat) : Nat → Nat × Nat → Nat × Nat
  | 0, acc => acc
  | k + 1, acc => scanQ c p j k (if c (j + k) then (p, j + k) else acc)
def scanR (c : Nat → Nat → Bool) (i j n : Nat) : Nat → Nat × Nat → Nat × Nat
  | 0, acc => acc
  | k + 1, acc => scanR c i j n k (scanQ (c (i + k)) (i + k) j n acc)
def nextPr (a b : TXT) (i j : Nat) : Nat × Nat := scanR (cand a b i j) i j (b.length - j) (a.length - i) (a.length, b.length)
def pairsF (a b : TXT) : Nat → Nat → Nat → List (Nat × Nat)
  | 0, _, _ => []
  | n + 1, i, j => nextPr a b i j :: pairsF a b n ((nextPr a b i j).1 + 1) ((nextPr a b i j).2 + 1)

theorem scanQ_spec (c : Nat → Bool) (p j : Nat) : ∀ (k : Nat) (acc : Nat × Nat),
    (scanQ c p j k acc = acc ∧ ∀ q, j ≤ q → q < j + k → c q = false) ∨ (∃ q, scanQ c p j k acc = (p, q) ∧ j ≤ q ∧ q < j + k ∧ c q = true ∧ ∀ q', j ≤ q' → q' < q → c q' = false)
  | 0, acc => .inl ⟨rfl, fun q h1 h2 => by omega⟩
  | k + 1, acc => by
    simp only [scanQ]
    cases hc : c (j + k) with
    | true =>
      simp only [if_true]
      rcases scanQ_spec c p j k (p, j + k) with ⟨h1, h2⟩ | ⟨q, h1, h2, h3, h4, h5⟩
      · exact .inr ⟨j + k, h1, by omega, by omega, hc, fun q' a1 a2 => h2 q' a1 a2⟩
      · exact .inr ⟨q, h1, h2, by omega, h4, h5⟩
    | false =>
      simp only [Bool.false_eq_true, if_false]
      rcases scanQ_spec c p j k acc with ⟨h1, h2⟩ | ⟨q, h1, h2, h3, h4, h5⟩
      · refine .inl ⟨h1, fun q a1 a2 => ?_⟩
        by_cases h : q = j + k
        · subst h; exact hc
        · exact h2 q a1 (by omega)
      · exact .inr ⟨q, h1, h2, by omega, h4, h5⟩

theorem scanR_spec (c : Nat → Nat → Bool) (i j n : Nat) : ∀ (k : Nat) (acc : Nat × Nat),
    (scanR c i j n k acc = acc ∧ ∀ p q, i ≤ p → p < i + k → j ≤ q → q < j + n → c p q = false) ∨
      (∃ p q, scanR c i j n k acc = (p, q) ∧ i ≤ p ∧ p < i + k ∧ j ≤ q ∧ q < j + n ∧ c p q = true ∧ (∀ q', j ≤ q' → q' < q → c p q' = false) ∧ ∀ p' q', i ≤ p' → p' < p → j ≤ q' → q' < j + n → c p' q' = false)
  | 0, acc => .inl ⟨rfl, fun p q h1 h2 => by omega⟩
  | k + 1, acc => by
    simp only [scanR]
    rcases scanR_spec c i j n k (scanQ (c (i + k)) (i + k) j n acc) with ⟨h1, h2⟩ | ⟨p, q, h1, h2, h3, h4, h5, h6, h7, h8⟩
    · rcases scanQ_spec (c (i + k)) (i + k) j n acc with ⟨g1, g2⟩ | ⟨q, g1, g2, g3, g4, g5⟩
      · refine .inl ⟨h1.trans g1, fun p q a1 a2 a3 a4 => ?_⟩
        by_cases h : p = i + k
        · subst h; exact g2 q a3 a4
        · exact h2 p q a1 (by omega) a3 a4
      · exact .inr ⟨i + k, q, h1.trans g1, by omega, by omega, g2, g3, g4, g5, fun p' q' a1 a2 a3 a4 => h2 p' q' a1 a2 a3 a4⟩
    · exact .inr ⟨p, q, h1, h2, by omega, h4, h5, h6, h7, h8⟩

theorem cand_of {a b : TXT} {i j p q : Nat} (hp : p < a.length) (hq : q < b.length) : cand a b i j p q = true ↔ a[p] = b[q] ∧ T a b (p + 1) (q + 1) + 1 = T a b i j := by
  unfold cand
  rw [getD_of hp, getD_of hq, Bool.and_eq_true, beq_iff_eq, decide_eq_true_eq]

/-- The next pair is there, and is the least. -/
theorem next_spec {a b : TXT} {i j : Nat} (hi : i ≤ a.length) (hj : j ≤ b.length) (h : 0 < T a b i j) :
    i ≤ (nextPr a b i j).1 ∧ (nextPr a b i j).1 < a.length ∧ j ≤ (nextPr a b i j).2 ∧ (nextPr a b i j).2 < b.length ∧ cand a b i j (nextPr a b i j).1 (nextPr a b i j).2 = true ∧
      (∀ q', j ≤ q' → q' < (nextPr a b i j).2 → cand a b i j (nextPr a b i j).1 q' = false) ∧ ∀ p' q', i ≤ p' → p' < (nextPr a b i j).1 → j ≤ q' → q' < b.length → cand a b i j p' q' = false := by
  obtain ⟨p0, q0, a1, a2, hp, hq, a3, a4⟩ := T_pair _ i j (Nat.le_refl _) h
  rcases scanR_spec (cand a b i j) i j (b.length - j) (a.length - i) (a.length, b.length) with ⟨h1, h2⟩ | ⟨p, q, h1, h2, h3, h4, h5, h6, h7, h8⟩
  · have := h2 p0 q0 a1 (by omega) a2 (by omega)
    rw [(cand_of hp hq).2 ⟨a3, a4⟩] at this
    cases this
  · unfold nextPr
    rw [h1]
    exact ⟨h2, by dsimp only; omega, h4, by dsimp only; omega, h6, h7, fun p' q' b1 b2 b3 b4 => h8 p' q' b1 b2 b3 (by omega)⟩

theorem next_T {a b : TXT} {i j n : Nat} (hi : i ≤ a.length) (hj : j ≤ b.length) (h : T a b i j = n + 1) : T a b ((nextPr a b i j).1 + 1) ((nextPr a b i j).2 + 1) = n := by
  obtain ⟨_, h2, _, h4, h5, _⟩ := next_spec hi hj (by omega)
  have := ((cand_of h2 h4).1 h5).2
  omega

theorem pairs_len (a b : TXT) : ∀ n i j, (pairsF a b n i j).length = n
  | 0, _, _ => rfl
  | n + 1, i, j => by simp [pairsF, pairs_len a b n]

theorem tabT_at {a b : TXT} {i : Nat} (hi : i ≤ a.length) {d : List Int} : (tabT a b).getD i d = rowT a b i := mkT_get (by omega)
theorem tabT_len {a b : TXT} : (tabT a b).length = a.length + 1 := mkT_len

abbrev PRS := List (Int × Int × Unit)
theorem scanQ_loop {a b : TXT} {out : PRS} (ha : a.length ≤ 1048576) (hb : b.length ≤ 1048576) {i j p : Nat} (hi : i ≤ a.length) (hj : j ≤ b.length) (hp : p < a.length) : ∀ (k : Nat) (acc : Nat × Nat), j + k ≤ b.length →
    w_S_l3Pairs_10 (a, b, tabT a b, out, (i : Int), (j : Int), (acc.1 : Int), (acc.2 : Int), (p : Int), ((j + k : Nat) : Int) - 1, ()) =
      some (a, b, tabT a b, out, (i : Int), (j : Int), ((scanQ (cand a b i j p) p j k acc).1 : Int), ((scanQ (cand a b i j p) p j k acc).2 : Int), (p : Int), ())
  | 0, acc, hk => by
    refine fix_end (B := fun d => b_S_l3Pairs_10 d.1 d.2.1 d.2.2.1 d.2.2.2.1 d.2.2.2.2.1 d.2.2.2.2.2.1 d.2.2.2.2.2.2.1 d.2.2.2.2.2.2.2.1 d.2.2.2.2.2.2.2.2.1 d.2.2.2.2.2.2.2.2.2.1) ?_
    show b_S_l3Pairs_10 a b (tabT a b) out i j acc.1 acc.2 p (((j + 0 : Nat) : Int) - 1) = _
    unfold b_S_l3Pairs_10
    rw [decide_eq_false (by omega : ¬ (((j + 0 : Nat) : Int) - 1 ≥ (j : Int))), cond_false]
    rfl
  | k + 1, acc, hk => by
    have hq : j + k < b.length := by omega
    have hs : b_S_l3Pairs_10 a b (tabT a b) out i j acc.1 acc.2 p (((j + (k + 1) : Nat) : Int) - 1) = some (.inl (a, b, tabT a b, out, (i : Int), (j : Int), (((if cand a b i j p (j + k) then (p, j + k) else acc).1 : Nat) : Int), (((if cand a b i j p (j + k) then (p, j + k) else acc).2 : Nat) : Int), (p : Int), ((j + k : Nat) : Int) - 1, ())) := by
      rw [show ((j + (k + 1) : Nat) : Int) - 1 = ((j + k : Nat) : Int) from by omega]
      unfold b_S_l3Pairs_10
      have w1 : IntKind.wrap .i64 ((p : Int) + 1) = ((p + 1 : Nat) : Int) := by rw [wrap64 (by omega) (by omega)]; omega
      have w2 : IntKind.wrap .i64 (((j + k : Nat) : Int) + 1) = ((j + k + 1 : Nat) : Int) := by rw [wrap64 (by omega) (by omega)]; omega
      have t1 := T_small (b := b) ha (p + 1) (j + k + 1)
      have w3 : IntKind.wrap .i64 ((T a b (p + 1) (j + k + 1) : Int) + 1) = (T a b (p + 1) (j + k + 1) : Int) + 1 := wrap64 (by omega) (by omega)
      have w4 : IntKind.wrap .i64 (((j + k : Nat) : Int) - 1) = ((j + k : Nat) : Int) - 1 := wrap64 (by omega) (by omega)
      have hc : cand a b i j p (j + k) = ((a.getD p [] == b.getD (j + k) []) && ((T a b (p + 1) (j + k + 1) : Int) + 1 == (T a b i j : Int))) := by
        unfold cand
        congr 1
        rw [Bool.eq_iff_iff, decide_eq_true_eq, beq_iff_eq]
        omega
      rw [decide_eq_true (by omega : ((j + k : Nat) : Int) ≥ (j : Int)), cond_true, hc]
      simp only [toNat_cast, w1, w2, inB_lt hp, inB_lt hq, tabT_len, inB_lt (by omega : p + 1 < a.length + 1), inB_lt (by omega : i < a.length + 1), tabT_at (by omega : p + 1 ≤ a.length), tabT_at hi, rowT_len, inB_lt (by omega : j + k + 1 < b.length + 1), inB_lt (by omega : j < b.length + 1), cond_true,
        rowT_get (by omega : j + k + 1 ≤ b.length), rowT_get hj, w3]
      cases (a.getD p [] == b.getD (j + k) [])
      · simp only [cond_false, Option.bind_some, Bool.false_and, Bool.false_eq_true, if_false, w4]
      · simp only [cond_true, Option.bind_some, Bool.true_and]
        cases ((T a b (p + 1) (j + k + 1) : Int) + 1 == (T a b i j : Int))
        · simp only [cond_false, Option.bind_some, Bool.false_eq_true, if_false, w4]
        · simp only [cond_true, Option.bind_some, if_true, w4]
    refine Eq.trans (fix_go (B := fun d => b_S_l3Pairs_10 d.1 d.2.1 d.2.2.1 d.2.2.2.1 d.2.2.2.2.1 d.2.2.2.2.2.1 d.2.2.2.2.2.2.1 d.2.2.2.2.2.2.2.1 d.2.2.2.2.2.2.2.2.1 d.2.2.2.2.2.2.2.2.2.1) hs) ?_
    exact scanQ_loop ha hb hi hj hp k _ (by omega)

theorem scanR_loop {a b : TXT} {out : PRS} (ha : a.length ≤ 1048576) (hb : b.length ≤ 1048576) {i j : Nat} (hi : i ≤ a.length) (hj : j ≤ b.length) : ∀ (k : Nat) (acc : Nat × Nat), i + k ≤ a.length →
    w_S_l3Pairs_7 (a, b, tabT a b, out, (i : Int), (j : Int), (acc.1 : Int), (acc.2 : Int), ((i + k : Nat) : Int) - 1, ()) =
      some (a, b, tabT a b, out, ((scanR (cand a b i j) i j (b.length - j) k acc).1 : Int), ((scanR (cand a b i j) i j (b.length - j) k acc).2 : Int), ())
  | 0, acc, hk => by
    refine fix_end (B := fun d => b_S_l3Pairs_7 d.1 d.2.1 d.2.2.1 d.2.2.2.1 d.2.2.2.2.1 d.2.2.2.2.2.1 d.2.2.2.2.2.2.1 d.2.2.2.2.2.2.2.1 d.2.2.2.2.2.2.2.2.1) ?_
    show b_S_l3Pairs_7 a b (tabT a b) out i j acc.1 acc.2 (((i + 0 : Nat) : Int) - 1) = _
    unfold b_S_l3Pairs_7
    rw [decide_eq_false (by omega : ¬ (((i + 0 : Nat) : Int) - 1 ≥ (i : Int))), cond_false]
    rfl
  | k + 1, acc, hk => by
    have hs : b_S_l3Pairs_7 a b (tabT a b) out i j acc.1 acc.2 (((i + (k + 1) : Nat) : Int) - 1) = some (.inl (a, b, tabT a b, out, (i : Int), (j : Int), ((scanQ (cand a b i j (i + k)) (i + k) j (b.length - j) acc).1 : Int), ((scanQ (cand a b i j (i + k)) (i + k) j (b.length - j) acc).2 : Int), ((i + k : Nat) : Int) - 1, ())) := by
      rw [show ((i + (k + 1) : Nat) : Int) - 1 = ((i + k : Nat) : Int) from by omega]
      unfold b_S_l3Pairs_7
      rw [decide_eq_true (by omega : ((i + k : Nat) : Int) ≥ (i : Int)), cond_true]
      have := scanQ_loop (out := out) ha hb hi hj (by omega : i + k < a.length) (b.length - j) acc (by omega)
      rw [show ((j + (b.length - j) : Nat) : Int) - 1 = IntKind.wrap .i64 ((b.length : Int) - 1) from by rw [wrap64 (by omega) (by omega)]; omega] at this
      rw [this, Option.bind_some]
      dsimp only
      rw [wrap64 (by omega) (by omega)]
    refine Eq.trans (fix_go (B := fun d => b_S_l3Pairs_7 d.1 d.2.1 d.2.2.1 d.2.2.2.1 d.2.2.2.2.1 d.2.2.2.2.2.1 d.2.2.2.2.2.2.1 d.2.2.2.2.2.2.2.1 d.2.2.2.2.2.2.2.2.1) hs) ?_
    exact scanR_loop ha hb hi hj k _ (by omega)

def encP (x : Nat × Nat) : Int × Int × Unit := ((x.1 : Int), (x.2 : Int), ())

theorem pairs_loop {a b : TXT} (ha : a.length ≤ 1048576) (hb : b.length ≤ 1048576) : ∀ (n i j : Nat) (out : PRS), i ≤ a.length → j ≤ b.length → T a b i j = n → out.length + n ≤ 1099511627776 →
    w_S_l3Pairs_4 (a, b, tabT a b, out, (i : Int), (j : Int), ()) = some (out ++ (pairsF a b n i j).map encP, ())
  | 0, i, j, out, hi, hj, hT, ho => by
    refine fix_end (B := fun d => b_S_l3Pairs_4 d.1 d.2.1 d.2.2.1 d.2.2.2.1 d.2.2.2.2.1 d.2.2.2.2.2.1) ?_
    show b_S_l3Pairs_4 a b (tabT a b) out i j = _
    unfold b_S_l3Pairs_4
    rw [inB_lt (by rw [tabT_len]; omega), cond_true, toNat_cast, toNat_cast, tabT_at hi, inB_lt (by rw [rowT_len]; omega), cond_true, rowT_get hj, hT, decide_eq_false (by omega : ¬ (((0 : Nat) : Int) > 0)), cond_false]
    simp [pairsF]
  | n + 1, i, j, out, hi, hj, hT, ho => by
    obtain ⟨s1, s2, s3, s4, s5, s6, s7⟩ := next_spec hi hj (by omega : 0 < T a b i j)
    have hs : b_S_l3Pairs_4 a b (tabT a b) out i j = some (.inl (a, b, tabT a b, out ++ [encP (nextPr a b i j)], (((nextPr a b i j).1 + 1 : Nat) : Int), (((nextPr a b i j).2 + 1 : Nat) : Int), ())) := by
      unfold b_S_l3Pairs_4
      rw [inB_lt (by rw [tabT_len]; omega), cond_true, toNat_cast, toNat_cast, tabT_at hi, inB_lt (by rw [rowT_len]; omega), cond_true, rowT_get hj, hT, decide_eq_true (by omega : (((n + 1 : Nat) : Int) > 0)), cond_true]
      have := scanR_loop (out := out) ha hb hi hj (a.length - i) (a.length, b.length) (by omega)
      rw [show ((i + (a.length - i) : Nat) : Int) - 1 = IntKind.wrap .i64 ((a.length : Int) - 1) from by rw [wrap64 (by omega) (by omega)]; omega] at this
      rw [this, Option.bind_some]
      dsimp only
      rw [roomB_ok (by simp; omega), cond_true]
      have e : scanR (cand a b i j) i j (b.length - j) (a.length - i) (a.length, b.length) = nextPr a b i j := rfl
      rw [e, wrap64 (by omega) (by omega), wrap64 (by omega) (by omega)]
      simp [encP]
    refine Eq.trans (fix_go (B := fun d => b_S_l3Pairs_4 d.1 d.2.1 d.2.2.1 d.2.2.2.1 d.2.2.2.2.1 d.2.2.2.2.2.1) hs) ?_
    refine Eq.trans (pairs_loop ha hb n ((nextPr a b i j).1 + 1) ((nextPr a b i j).2 + 1) (out ++ [encP (nextPr a b i j)]) (by omega) (by omega) (next_T hi hj hT) (by simp; omega)) ?_
    simp [pairsF]

/-- The pairs of two texts. -/
def pairsP (a b : TXT) : List (Nat × Nat) := pairsF a b (T a b 0 0) 0 0

theorem pairs_S {a b : TXT} (ha : a.length ≤ 1048576) (hb : b.length ≤ 1048576) : f_S_l3Pairs a b = some (((pairsP a b).map encP, ()), ()) := by
  have h := T_small (b := b) ha 0 0
  have := pairs_loop ha hb (T a b 0 0) 0 0 [] (by omega) (by omega) rfl (by simp; omega)
  unfold f_S_l3Pairs
  rw [table_S ha hb, Option.bind_some]
  dsimp only
  rw [show w_S_l3Pairs_4 (a, b, tabT a b, [], 0, 0, ()) = _ from this]
  rfl
end R
end

section
/- Versions, and how much turns from each to the next: both sides answer the same. -/
open Go Go.Dn
namespace R
set_option linter.unusedVariables false

theorem sum_const {α : Type} {f : α → Nat} {c : Nat} : ∀ {l : List α}, (∀ x ∈ l, f x ≤ c) → (l.map f).sum ≤ c * l.length
  | [], _ => by simp
  | x :: l, h => by
    simp only [List.map_cons, List.sum_cons, List.length_cons]
    have h1 := h x (List.mem_cons_self ..)
    have h2 := sum_const (l := l) fun y hy => h y (List.mem_cons_of_mem _ hy)
    rw [Nat.mul_add]
    omega

def versP (v : List TXT) : Bool := inI (v.length : Int) 1 8 && !(v.any fun l => !goodP l)
def SmV (v : List TXT) : Prop := v.length ≤ 4611686018427387904 ∧ ∀ l ∈ v, Sm l

theorem SmV.of {e : TypeId} {v : List TXT} {n : Nat} (h : tot (.slice e S_string) v ≤ n) (hn : n ≤ 4611686018427387904) : SmV v := by
  refine ⟨?_, fun l hl => Sm.of (n := n) (tot_all h l hl) hn⟩
  have h' := h
  rw [tot_slice] at h'
  omega

theorem vers_I {v : List TXT} (hs : SmV v) : f_I_areVersions v = some ((versP v, ()), ()) := by
  unfold f_I_areVersions versP
  rw [in_I, Option.bind_some]
  dsimp only
  unfold inI
  generalize hb : (decide ((v.length : Int) ≥ 1) && decide ((v.length : Int) ≤ 8)) = b
  cases b
  · rfl
  · have hl := hs.1
    rw [cond_true, show w_I_areVersions_172_2 (v, false, v, (v.length : Int), true, true, v, v, false, v, v, (v.length : Int), 0, ()) = _ from
      fix_any (B := fun d => b_I_areVersions_172_2 d.1 d.2.1 d.2.2.1 d.2.2.2.1 d.2.2.2.2.1 d.2.2.2.2.2.1 d.2.2.2.2.2.2.1 d.2.2.2.2.2.2.2.1 d.2.2.2.2.2.2.2.2.1 d.2.2.2.2.2.2.2.2.2.1 d.2.2.2.2.2.2.2.2.2.2.1 d.2.2.2.2.2.2.2.2.2.2.2.1 d.2.2.2.2.2.2.2.2.2.2.2.2.1) v (fun l => !goodP l)
      (fun i => (v, false, v, (v.length : Int), true, true, v, v, false, v, v, (v.length : Int), (i : Int), ())) (fun i => .inr (v, false, v, (v.length : Int), true, true, v, v, false, v, (i : Int), ())) (.inl (v, false, v, (v.length : Int), true, true, v, v, false, v, ()))
      (fun i hi hq => by
        show b_I_areVersions_172_2 _ _ _ _ _ _ _ _ _ _ v v.length i = _
        unfold b_I_areVersions_172_2 f_I_areVersions_1
        rw [decide_eq_true (by omega : (i : Int) < (v.length : Int)), cond_true, inB_lt hi, cond_true, toNat_cast, getD_of hi, goodLines_I _ (hs.2 _ (List.getElem_mem hi)), Option.bind_some, Option.bind_some]
        dsimp only
        rw [hq, cond_false, wrap64 (by omega) (by omega)]; rfl)
      (fun i hi hq => by
        show b_I_areVersions_172_2 _ _ _ _ _ _ _ _ _ _ v v.length i = _
        unfold b_I_areVersions_172_2 f_I_areVersions_1
        rw [decide_eq_true (by omega : (i : Int) < (v.length : Int)), cond_true, inB_lt hi, cond_true, toNat_cast, getD_of hi, goodLines_I _ (hs.2 _ (List.getElem_mem hi)), Option.bind_some, Option.bind_some]
        dsimp only
        rw [hq, cond_true])
      (by
        show b_I_areVersions_172_2 _ _ _ _ _ _ _ _ _ _ v v.length v.length = _
        unfold b_I_areVersions_172_2
        rw [decide_eq_false (Int.lt_irrefl _), cond_false])]
    cases v.any fun l => !goodP l
    · rfl
    · simp

theorem vers_S {v : List TXT} (hs : SmV v) : f_S_l12Good v = some ((versP v, ()), ()) := by
  have hl := hs.1
  unfold f_S_l12Good versP
  rw [show w_S_l12Good_2 (v, v, (v.length : Int), 0, ()) = _ from fix_any (B := fun d => b_S_l12Good_2 d.1 d.2.1 d.2.2.1 d.2.2.2.1) v (fun l => !goodP l) (fun i => (v, v, (v.length : Int), (i : Int), ())) (fun _ => .inr (false, ())) (.inl (v, ()))
    (fun i hi hq => by
      show b_S_l12Good_2 v v v.length i = _
      unfold b_S_l12Good_2
      rw [decide_eq_true (by omega : (i : Int) < (v.length : Int)), cond_true, inB_lt hi, cond_true, toNat_cast, getD_of hi, l1Good_S _ (hs.2 _ (List.getElem_mem hi)), Option.bind_some]
      dsimp only
      rw [hq, cond_false, wrap64 (by omega) (by omega)]; rfl)
    (fun i hi hq => by
      show b_S_l12Good_2 v v v.length i = _
      unfold b_S_l12Good_2
      rw [decide_eq_true (by omega : (i : Int) < (v.length : Int)), cond_true, inB_lt hi, cond_true, toNat_cast, getD_of hi, l1Good_S _ (hs.2 _ (List.getElem_mem hi)), Option.bind_some]
      dsimp only
      rw [hq, cond_true])
    (by
      show b_S_l12Good_2 v v v.length v.length = _
      unfold b_S_l12Good_2
      rw [decide_eq_false (Int.lt_irrefl _), cond_false])]
  unfold inI
  cases v.any fun l => !goodP l
  · rw [if_neg (by simp), Option.bind_some]
    dsimp only
    rw [in_S, Option.bind_some, Bool.not_false, Bool.and_true]
  · rw [if_pos rfl]
    simp

theorem goodP_small {l : TXT} (h : goodP l = true) : l.length ≤ 40 := by
  unfold goodP linesP at h
  simp only [Bool.and_eq_true, decide_eq_true_eq] at h
  exact h.1.1

theorem vers_at {v : List TXT} (h : versP v = true) : 1 ≤ v.length ∧ v.length ≤ 8 ∧ ∀ i, i < v.length → (v.getD i []).length ≤ 40 := by
  unfold versP inI at h
  simp only [Bool.and_eq_true, decide_eq_true_eq, Bool.not_eq_true'] at h
  refine ⟨by omega, by omega, fun i hi => ?_⟩
  have := List.any_eq_false.1 h.2 _ (List.getElem_mem hi)
  rw [getD_of hi]
  exact goodP_small (by simpa using this)
end R
end

section
/- The program's pairs and the places in the next version: as the reference's. -/
open Go Go.Dn
namespace R
set_option linter.unusedVariables false

abbrev LL := List (List Int)
def encL (x : Nat × Nat) : List Int := [(x.1 : Int), (x.2 : Int)]

set_option linter.unusedSectionVars false
section
variable {a b : TXT} (ha : a.length ≤ 1048576) (hb : b.length ≤ 1048576)
include ha hb

theorem cl_step {i q n : Nat} (hi : i < a.length) (hq : q < b.length) (j0 : Nat) (hn : n ≤ 1048576) (out : LL) (ho : out.length + 1 ≤ 1099511627776) :
    b_I_commonLines_7 a b (tabT a b) out (j0 : Int) ((n + 1 : Nat) : Int) (i : Int) (q : Int) (a.length : Int) (i : Int) =
      if a[i] = b[q] ∧ T a b (i + 1) (q + 1) = n then some (.inr (a, b, tabT a b, out ++ [encL (i, q)], ((q + 1 : Nat) : Int), (n : Int), (a.length : Int), (i : Int), ()))
      else some (.inl (a, b, tabT a b, out, (j0 : Int), ((n + 1 : Nat) : Int), (i : Int), ((q + 1 : Nat) : Int), (a.length : Int), (i : Int), ())) := by
  unfold b_I_commonLines_7
  have w1 : IntKind.wrap .i64 ((i : Int) + 1) = ((i + 1 : Nat) : Int) := by rw [wrap64 (by omega) (by omega)]; omega
  have w2 : IntKind.wrap .i64 ((q : Int) + 1) = ((q + 1 : Nat) : Int) := by rw [wrap64 (by omega) (by omega)]; omega
  have w3 : IntKind.wrap .i64 (((n + 1 : Nat) : Int) - 1) = (n : Int) := by rw [wrap64 (by omega) (by omega)]; omega
  have r1 : roomB (out.length + 1) = true := roomB_ok ho
  rw [decide_eq_true (by omega : (q : Int) < (b.length : Int)), cond_true, decide_eq_true (by omega : ((n + 1 : Nat) : Int) > 0), cond_true, inB_lt hi, cond_true, inB_lt hq, cond_true, w1, w2, w3,
    inB_lt (by rw [tabT_len]; omega : i + 1 < (tabT a b).length), cond_true, toNat_cast, toNat_cast, toNat_cast, toNat_cast, tabT_at (by omega : i + 1 ≤ a.length), inB_lt (by rw [rowT_len]; omega), cond_true, rowT_get (by omega), getD_of hi, getD_of hq]
  by_cases hc : a[i] = b[q]
  · rw [beq_iff_eq.2 hc, cond_true, Option.bind_some]
    dsimp only
    by_cases ht : T a b (i + 1) (q + 1) = n
    · rw [if_pos ⟨hc, ht⟩, ht, beq_self_eq_true, cond_true, List.length_singleton, r1, cond_true, w2, w3]; rfl
    · rw [if_neg (fun h => ht h.2), beq_eq_false_iff_ne.2 (fun h => ht (by have h' : ((T a b (i + 1) (q + 1) : Nat) : Int) = (n : Int) := h; omega)), cond_false, w2]
  · rw [beq_eq_false_iff_ne.2 hc, cond_false, Option.bind_some]
    dsimp only
    rw [cond_false, w2, if_neg (fun h => hc h.1)]

theorem cl_end {i n : Nat} (j0 : Nat) (out : LL) (x : Int) (hx : x = b.length ∨ n = 0) :
    b_I_commonLines_7 a b (tabT a b) out (j0 : Int) (n : Int) (i : Int) x (a.length : Int) (i : Int) = some (.inr (a, b, tabT a b, out, (j0 : Int), (n : Int), (a.length : Int), (i : Int), ())) := by
  unfold b_I_commonLines_7
  by_cases h : x < (b.length : Int)
  · rw [decide_eq_true h, cond_true, decide_eq_false (by omega : ¬ ((n : Int) > 0)), cond_false]
  · rw [decide_eq_false h, cond_false]

noncomputable abbrev B7 : List (List UInt8) × List (List UInt8) × LL × LL × Int × Int × Int × Int × Int × Int × Unit → Option ((List (List UInt8) × List (List UInt8) × LL × LL × Int × Int × Int × Int × Int × Int × Unit) ⊕ (List (List UInt8) × List (List UInt8) × LL × LL × Int × Int × Int × Int × Unit)) :=
  fun d => b_I_commonLines_7 d.1 d.2.1 d.2.2.1 d.2.2.2.1 d.2.2.2.2.1 d.2.2.2.2.2.1 d.2.2.2.2.2.2.1 d.2.2.2.2.2.2.2.1 d.2.2.2.2.2.2.2.2.1 d.2.2.2.2.2.2.2.2.2.1

/-- A round without a pair. -/
theorem cl_none {i n : Nat} (hi : i < a.length) {j0 : Nat} (hj : j0 ≤ b.length) (hn : n ≤ 1048576) (out : LL) (ho : out.length + n ≤ 1099511627776)
    (h : n = 0 ∨ ∀ q (hq : q < b.length), j0 ≤ q → ¬ (a[i] = b[q] ∧ T a b (i + 1) (q + 1) + 1 = n)) :
    w_I_commonLines_7 (a, b, tabT a b, out, (j0 : Int), (n : Int), (i : Int), (j0 : Int), (a.length : Int), (i : Int), ()) = some (a, b, tabT a b, out, (j0 : Int), (n : Int), (a.length : Int), (i : Int), ()) := by
  cases n with
  | zero => exact fix_end (B := B7) (cl_end ha hb j0 out _ (.inr rfl))
  | succ n =>
    have h := h.resolve_left (by omega)
    have := fix_iter (B := B7) (fun q => (a, b, tabT a b, out, (j0 : Int), ((n + 1 : Nat) : Int), (i : Int), (q : Int), (a.length : Int), (i : Int), ())) (b.length - j0) j0 (fun q h1 h2 => by
      show b_I_commonLines_7 a b (tabT a b) out (j0 : Int) ((n + 1 : Nat) : Int) (i : Int) (q : Int) (a.length : Int) (i : Int) = _
      rw [cl_step ha hb hi (by omega) j0 (by omega) out (by omega), if_neg (fun hc => h q (by omega) h1 ⟨hc.1, by omega⟩)])
    refine Eq.trans this ?_
    exact fix_end (B := B7) (cl_end ha hb j0 out _ (.inl (by simp only []; omega)))

/-- A round that finds one. -/
theorem cl_one {i n : Nat} (hi : i < a.length) {j0 q1 : Nat} (hj : j0 ≤ q1) (hq1 : q1 < b.length) (hn : n ≤ 1048576) (out : LL) (ho : out.length + 1 ≤ 1099511627776)
    (h : ∀ q (hq : q < b.length), j0 ≤ q → q < q1 → ¬ (a[i] = b[q] ∧ T a b (i + 1) (q + 1) = n)) (hc : a[i] = b[q1] ∧ T a b (i + 1) (q1 + 1) = n) :
    w_I_commonLines_7 (a, b, tabT a b, out, (j0 : Int), ((n + 1 : Nat) : Int), (i : Int), (j0 : Int), (a.length : Int), (i : Int), ()) = some (a, b, tabT a b, out ++ [encL (i, q1)], ((q1 + 1 : Nat) : Int), (n : Int), (a.length : Int), (i : Int), ()) := by
  have := fix_iter (B := B7) (fun q => (a, b, tabT a b, out, (j0 : Int), ((n + 1 : Nat) : Int), (i : Int), (q : Int), (a.length : Int), (i : Int), ())) (q1 - j0) j0 (fun q h1 h2 => by
    show b_I_commonLines_7 a b (tabT a b) out (j0 : Int) ((n + 1 : Nat) : Int) (i : Int) (q : Int) (a.length : Int) (i : Int) = _
    rw [cl_step ha hb hi (by omega) j0 hn out ho, if_neg (h q (by omega) h1 (by omega))])
  refine Eq.trans this ?_
  refine fix_end (B := B7) ?_
  show b_I_commonLines_7 a b (tabT a b) out (j0 : Int) ((n + 1 : Nat) : Int) (i : Int) ((j0 + (q1 - j0) : Nat) : Int) (a.length : Int) (i : Int) = _
  rw [show j0 + (q1 - j0) = q1 from by omega, cl_step ha hb hi hq1 j0 hn out ho, if_pos hc]

theorem cl_loop : ∀ (k i i0 j0 n : Nat) (out : LL), i + k = a.length → i0 ≤ i → j0 ≤ b.length → T a b i0 j0 = n → (n = 0 ∨ i ≤ (nextPr a b i0 j0).1) → out.length + n ≤ 1099511627776 →
    w_I_commonLines_4 (a, b, tabT a b, out, (j0 : Int), (n : Int), (a.length : Int), (i : Int), ()) = some (out ++ (pairsF a b n i0 j0).map encL, ())
  | 0, i, i0, j0, n, out, hk, h0, hj, hT, hnx, ho => by
    have hn0 : n = 0 := by
      rcases hnx with h | h
      · exact h
      · rcases Nat.eq_zero_or_pos n with h' | h'
        · exact h'
        · have := next_spec (by omega : i0 ≤ a.length) hj (by omega); omega
    subst hn0
    refine fix_end (B := fun d => b_I_commonLines_4 d.1 d.2.1 d.2.2.1 d.2.2.2.1 d.2.2.2.2.1 d.2.2.2.2.2.1 d.2.2.2.2.2.2.1 d.2.2.2.2.2.2.2.1) ?_
    show b_I_commonLines_4 a b (tabT a b) out (j0 : Int) ((0 : Nat) : Int) (a.length : Int) (i : Int) = _
    unfold b_I_commonLines_4
    rw [decide_eq_false (by omega : ¬ ((i : Int) < (a.length : Int))), cond_false]
    simp [pairsF]
  | k + 1, i, i0, j0, n, out, hk, h0, hj, hT, hnx, ho => by
    have hi : i < a.length := by omega
    have w1 : IntKind.wrap .i64 ((i : Int) + 1) = ((i + 1 : Nat) : Int) := by rw [wrap64 (by omega) (by omega)]; omega
    have hTs := T_small (b := b) ha i0 j0
    have go : ∀ {out' : LL} {j' n' : Nat}, w_I_commonLines_7 (a, b, tabT a b, out, (j0 : Int), (n : Int), (i : Int), (j0 : Int), (a.length : Int), (i : Int), ()) = some (a, b, tabT a b, out', (j' : Int), (n' : Int), (a.length : Int), (i : Int), ()) →
        w_I_commonLines_4 (a, b, tabT a b, out, (j0 : Int), (n : Int), (a.length : Int), (i : Int), ()) = w_I_commonLines_4 (a, b, tabT a b, out', (j' : Int), (n' : Int), (a.length : Int), ((i + 1 : Nat) : Int), ()) := by
      intro out' j' n' h
      refine fix_go (B := fun d => b_I_commonLines_4 d.1 d.2.1 d.2.2.1 d.2.2.2.1 d.2.2.2.2.1 d.2.2.2.2.2.1 d.2.2.2.2.2.2.1 d.2.2.2.2.2.2.2.1) ?_
      show b_I_commonLines_4 a b (tabT a b) out (j0 : Int) (n : Int) (a.length : Int) (i : Int) = _
      unfold b_I_commonLines_4
      rw [decide_eq_true (by omega : ((i : Int) < (a.length : Int))), cond_true, h, Option.bind_some]
      dsimp only
      rw [w1]
    cases n with
    | zero =>
      rw [go (cl_none ha hb hi hj (by omega) out ho (.inl rfl))]
      exact cl_loop k (i + 1) i0 j0 0 out (by omega) (by omega) hj hT (.inl rfl) ho
    | succ n =>
      obtain ⟨s1, s2, s3, s4, s5, s6, s7⟩ := next_spec (by omega : i0 ≤ a.length) hj (by omega : 0 < T a b i0 j0)
      have hle := hnx.resolve_left (by omega)
      have hcand : ∀ {p q : Nat} (hp : p < a.length) (hq : q < b.length), (a[p] = b[q] ∧ T a b (p + 1) (q + 1) = n) ↔ cand a b i0 j0 p q = true := fun hp hq => by
        rw [cand_of hp hq, hT]; exact ⟨fun h => ⟨h.1, by omega⟩, fun h => ⟨h.1, by omega⟩⟩
      rcases Nat.lt_or_ge i (nextPr a b i0 j0).1 with hlt | hge
      · rw [go (cl_none ha hb hi hj (by omega) out ho (.inr fun q hq hjq hc => by
          have := (hcand hi hq).1 ⟨hc.1, by omega⟩
          rw [s7 i q h0 hlt hjq hq] at this
          cases this))]
        exact cl_loop k (i + 1) i0 j0 (n + 1) out (by omega) (by omega) hj hT (.inr hlt) ho
      · have hip : i = (nextPr a b i0 j0).1 := by omega
        have hfound := (hcand s2 s4).2 s5
        have hfound' : a[i] = b[(nextPr a b i0 j0).2] ∧ T a b (i + 1) ((nextPr a b i0 j0).2 + 1) = n := by
          have e : ∀ {p : Nat} (hp : p < a.length) , i = p → (a[p] = b[(nextPr a b i0 j0).2] ∧ T a b (p + 1) ((nextPr a b i0 j0).2 + 1) = n) → (a[i] = b[(nextPr a b i0 j0).2] ∧ T a b (i + 1) ((nextPr a b i0 j0).2 + 1) = n) := by
            intro p hp h h'; subst h; exact h'
          exact e s2 hip hfound
        rw [go (cl_one ha hb hi s3 s4 (by omega) out (by omega) (fun q hq h1 h2 hc => by
          have h3 := (hcand hi hq).1 hc
          rw [hip, s6 q h1 h2] at h3
          cases h3) hfound')]
        have hT' := next_T (by omega : i0 ≤ a.length) hj hT
        rw [← hip] at hT'
        have := cl_loop k (i + 1) (i + 1) ((nextPr a b i0 j0).2 + 1) n (out ++ [encL (i, (nextPr a b i0 j0).2)]) (by omega) (Nat.le_refl _) (by omega) hT' (by
          rcases Nat.eq_zero_or_pos n with h' | h'
          · exact .inl h'
          · exact .inr (next_spec (by omega) (by omega) (by omega)).1) (by simp; omega)
        rw [this]
        have he : (nextPr a b i0 j0) = (i, (nextPr a b i0 j0).2) := by rw [hip]
        simp only [pairsF, List.map_cons, ← hip, List.append_assoc, List.singleton_append]
        rw [← he]

theorem clines_I : f_I_commonLines a b = some (((pairsP a b).map encL, ()), ()) := by
  unfold f_I_commonLines
  have h := T_small (b := b) ha 0 0
  rw [common_I ha hb, Option.bind_some]
  dsimp only
  rw [show inB 0 (tabT a b).length = true from inB_lt (i := 0) (by rw [tabT_len]; omega), cond_true, show ((0 : Int).toNat) = 0 from rfl, tabT_at (Nat.zero_le _), show inB 0 (rowT a b 0).length = true from inB_lt (i := 0) (by rw [rowT_len]; omega), cond_true, rowT_get (Nat.zero_le _)]
  have := cl_loop ha hb a.length 0 0 0 (T a b 0 0) [] (by omega) (Nat.le_refl _) (Nat.zero_le _) rfl (by
    rcases Nat.eq_zero_or_pos (T a b 0 0) with h' | h'
    · exact .inl h'
    · exact .inr (Nat.zero_le _)) (by simp; omega)
  rw [show w_I_commonLines_4 (a, b, tabT a b, [], 0, (T a b 0 0 : Int), (a.length : Int), 0, ()) = _ from this, Option.bind_some]
  rfl
end
end R
end

section
/- For each line its place in the next version: both sides. -/
open Go Go.Dn
namespace R
set_option linter.unusedVariables false
set_option linter.unusedSectionVars false

def setP (o : List Int) (p : Nat × Nat) : List Int := o.set p.1 (p.2 : Int)
def matesP (a b : TXT) : List Int := (pairsP a b).foldl setP (List.replicate a.length (-1))

theorem pairs_in {a b : TXT} : ∀ (n i j : Nat), i ≤ a.length → j ≤ b.length → T a b i j = n → ∀ p ∈ pairsF a b n i j, p.1 < a.length ∧ p.2 < b.length
  | 0, i, j, hi, hj, hT, p, hp => by simp [pairsF] at hp
  | n + 1, i, j, hi, hj, hT, p, hp => by
    obtain ⟨s1, s2, s3, s4, s5, s6, s7⟩ := next_spec hi hj (by omega : 0 < T a b i j)
    simp only [pairsF, List.mem_cons] at hp
    rcases hp with rfl | hp
    · exact ⟨s2, s4⟩
    · exact pairs_in n _ _ (by omega) (by omega) (next_T hi hj hT) p hp
theorem pairsP_in {a b : TXT} {p : Nat × Nat} (h : p ∈ pairsP a b) : p.1 < a.length ∧ p.2 < b.length := pairs_in _ 0 0 (Nat.zero_le _) (Nat.zero_le _) rfl p h
theorem pairsP_len (a b : TXT) : (pairsP a b).length = T a b 0 0 := pairs_len a b _ 0 0

theorem foldl_setP {xs : List (Nat × Nat)} : ∀ {o : List Int}, (xs.foldl setP o).length = o.length := by
  induction xs with
  | nil => intro o; rfl
  | cons x xs ih => intro o; rw [List.foldl_cons, ih]; simp [setP]
theorem matesP_len (a b : TXT) : (matesP a b).length = a.length := by unfold matesP; rw [foldl_setP, List.length_replicate]
theorem foldl_mem {n : Nat} : ∀ {xs : List (Nat × Nat)} {o : List Int}, (∀ p ∈ xs, p.2 < n) → (∀ x ∈ o, x = -1 ∨ (0 ≤ x ∧ x < n)) → ∀ x ∈ xs.foldl setP o, x = -1 ∨ (0 ≤ x ∧ x < (n : Int)) := by
  intro xs
  induction xs with
  | nil => intro o _ h; exact h
  | cons p xs ih =>
    intro o hp h
    rw [List.foldl_cons]
    refine ih (fun q hq => hp q (List.mem_cons_of_mem _ hq)) (fun x hx => ?_)
    rcases List.mem_or_eq_of_mem_set hx with hx | rfl
    · exact h x hx
    · exact .inr ⟨by omega, by have := hp p (List.mem_cons_self); omega⟩
theorem matesP_val {a b : TXT} {x : Int} (h : x ∈ matesP a b) : x = -1 ∨ (0 ≤ x ∧ x < (b.length : Int)) :=
  foldl_mem (n := b.length) (fun p hp => (pairsP_in hp).2) (fun y hy => .inl (List.eq_of_mem_replicate hy)) x h
theorem matesP_at {a b : TXT} {k : Nat} (hk : k < a.length) {d : Int} : (matesP a b).getD k d = -1 ∨ (0 ≤ (matesP a b).getD k d ∧ (matesP a b).getD k d < (b.length : Int)) := by
  rw [getD_of (by rw [matesP_len]; exact hk)]
  exact matesP_val (List.getElem_mem _)

section
variable {a b : TXT} (ha : a.length ≤ 1048576) (hb : b.length ≤ 1048576)
include ha hb

theorem mates_I : f_I_mates a b = some ((matesP a b, ()), ()) := by
  unfold f_I_mates
  have hrep : f_slices_Repeat_int [(-1)] (a.length : Int) = some ((List.replicate a.length (-1), ()), ()) := by
    unfold f_slices_Repeat_int repF
    dsimp only
    rw [decide_eq_true (by omega : (0 : Int) ≤ (a.length : Int)), decide_eq_true (show (a.length : Int) ≤ 1099511627776 by omega)]
    rfl
  rw [hrep, Option.bind_some, clines_I ha hb, Option.bind_some]
  dsimp only
  have hsm := T_small (b := b) ha 0 0
  have hl := pairsP_len a b
  have hloop := (fix_fold (B := fun d => b_I_mates_3 d.1 d.2.1 d.2.2.1 d.2.2.2.1) (pairsP a b) setP (fun o i => (o, (pairsP a b).map encL, (((pairsP a b).map encL).length : Int), (i : Int), ())) (fun o => (o, ())) (fun _ o => o.length = a.length)
    (fun i hi o ho => by
      refine ⟨by simp [setP, ho], ?_⟩
      show b_I_mates_3 o ((pairsP a b).map encL) (((pairsP a b).map encL).length : Int) i = _
      unfold b_I_mates_3
      have hin := pairsP_in (List.getElem_mem hi)
      have hget : ((pairsP a b).map encL).getD i [] = encL (pairsP a b)[i] := by rw [getD_of (by simpa using hi)]; simp
      rw [List.length_map, decide_eq_true (by omega : (i : Int) < ((pairsP a b).length : Int)), cond_true, inB_lt hi, cond_true, toNat_cast, hget]
      show (bif inB ((0 : Nat) : Int) 2 then (bif inB ((1 : Nat) : Int) 2 then (bif inB (((pairsP a b)[i].1 : Nat) : Int) o.length then _ else _) else _) else _) = _
      rw [inB_lt (by omega), cond_true, inB_lt (by omega), cond_true, inB_lt (by rw [ho]; exact hin.1), cond_true, wrap64 (by omega) (by omega)]
      rfl)
    (fun o ho => by
      show b_I_mates_3 o ((pairsP a b).map encL) (((pairsP a b).map encL).length : Int) ((pairsP a b).length : Int) = _
      unfold b_I_mates_3
      rw [List.length_map, decide_eq_false (by omega : ¬ (((pairsP a b).length : Int) < ((pairsP a b).length : Int))), cond_false]) (List.replicate a.length (-1)) (by simp)).1
  rw [show w_I_mates_3 (List.replicate a.length (-1), (pairsP a b).map encL, (((pairsP a b).map encL).length : Int), 0, ()) = _ from hloop, Option.bind_some]
  rfl

theorem next_S : f_S_l12Next a b = some ((matesP a b, ()), ()) := by
  unfold f_S_l12Next
  rw [room_len (by omega), cond_true, toNat_cast, List.length_replicate]
  have hsm := T_small (b := b) ha 0 0
  have hl := pairsP_len a b
  have hfill := fix_all (B := fun d => b_S_l12Next_3 d.1 d.2.1 d.2.2.1 d.2.2.2.1 d.2.2.2.2.1) (fun i => (a, b, (List.replicate a.length (-1 : Int)).take i ++ List.replicate ((List.replicate a.length (-1 : Int)).length - i) (0 : Int), (a.length : Int), (i : Int), ())) a.length
    (r := (a, b, List.replicate a.length (-1 : Int), ()))
    (fun i hi => by
      show b_S_l12Next_3 a b ((List.replicate a.length (-1 : Int)).take i ++ List.replicate ((List.replicate a.length (-1 : Int)).length - i) (0 : Int)) a.length i = _
      unfold b_S_l12Next_3
      have hi' : i < (List.replicate a.length (-1 : Int)).length := by rw [List.length_replicate]; exact hi
      have hs := set_fill (d := (0 : Int)) hi'
      rw [List.getElem_replicate] at hs
      rw [decide_eq_true (by omega : (i : Int) < (a.length : Int)), cond_true, inB_lt (by simp; omega), cond_true, toNat_cast, hs, wrap64 (by omega) (by omega)]
      rfl)
    (by
      show b_S_l12Next_3 a b _ a.length (a.length : Int) = _
      unfold b_S_l12Next_3
      rw [decide_eq_false (by omega : ¬ ((a.length : Int) < (a.length : Int))), cond_false]
      simp)
  rw [show w_S_l12Next_3 (a, b, List.replicate a.length (0 : Int), (a.length : Int), 0, ()) = _ from by
    refine Eq.trans ?_ hfill
    unfold w_S_l12Next_3
    congr 1
    simp, Option.bind_some]
  dsimp only
  rw [pairs_S ha hb, Option.bind_some]
  dsimp only
  have hloop := (fix_fold (B := fun d => b_S_l12Next_8 d.1 d.2.1 d.2.2.1 d.2.2.2.1) (pairsP a b) setP (fun o i => (o, (pairsP a b).map encP, (((pairsP a b).map encP).length : Int), (i : Int), ())) (fun o => (o, ())) (fun _ o => o.length = a.length)
    (fun i hi o ho => by
      refine ⟨by simp [setP, ho], ?_⟩
      show b_S_l12Next_8 o ((pairsP a b).map encP) (((pairsP a b).map encP).length : Int) i = _
      unfold b_S_l12Next_8
      have hin := pairsP_in (List.getElem_mem hi)
      have hget : ∀ d, ((pairsP a b).map encP).getD i d = encP (pairsP a b)[i] := fun d => by rw [getD_of (by simpa using hi)]; simp
      rw [List.length_map, decide_eq_true (by omega : (i : Int) < ((pairsP a b).length : Int)), cond_true, inB_lt hi, cond_true, toNat_cast]
      erw [hget]
      show (bif inB (((pairsP a b)[i].1 : Nat) : Int) o.length then _ else _) = _
      rw [inB_lt (by rw [ho]; exact hin.1), cond_true, wrap64 (by omega) (by omega)]
      rfl)
    (fun o ho => by
      show b_S_l12Next_8 o ((pairsP a b).map encP) (((pairsP a b).map encP).length : Int) ((pairsP a b).length : Int) = _
      unfold b_S_l12Next_8
      rw [List.length_map, decide_eq_false (by omega : ¬ (((pairsP a b).length : Int) < ((pairsP a b).length : Int))), cond_false]) (List.replicate a.length (-1)) (by simp)).1
  rw [show w_S_l12Next_8 (List.replicate a.length (-1), (pairsP a b).map encP, (((pairsP a b).map encP).length : Int), 0, ()) = _ from hloop, Option.bind_some]
  rfl
end
end R
end

section
/- Numbers as texts: both sides write the same. -/
open Go Go.Dn
namespace R
set_option linter.unusedVariables false

theorem wrap8 {x : Int} (h1 : 0 ≤ x) (h2 : x ≤ 255) : IntKind.wrap .u8 x = x := by
  simp [IntKind.wrap, IntKind.signed, IntKind.bits]
  omega

abbrev dec (n : Nat) : List UInt8 := Lib.decDigits n
theorem dec_len (n : Nat) (h : n ≤ 1000000) : (dec n).length ≤ 21 := by
  have := Lib.itoa_length_le (n : Int) (by omega) (by omega)
  rwa [Lib.itoa_nonneg] at this

theorem dig_one {n : Nat} (h : n < 10) : bytesOfInts [IntKind.wrap .u8 (IntKind.wrap .i64 (48 + (n : Int)))] = [UInt8.ofNat (48 + n)] := by
  rw [wrap64 (by omega) (by omega), wrap8 (by omega) (by omega)]
  show [UInt8.ofNat ((48 + (n : Int)).toNat)] = _
  congr 2

theorem num_n : ∀ (f n : Nat), n < f → n ≤ 1000000 → fn_S_l1Num f (n : Int) = some ((dec n, ()), ())
  | 0, n, h, _ => by omega
  | f + 1, n, h, hb => by
    show fr_S_l1Num (fn_S_l1Num f) (n : Int) = _
    unfold fr_S_l1Num
    by_cases hn : n < 10
    · rw [decide_eq_true (by omega : (n : Int) < 10), cond_true, dig_one hn, show dec n = _ from Lib.decDigits_one hn]
    · rw [decide_eq_false (by omega : ¬ (n : Int) < 10), cond_false, show ((10 : Nat) == 0) = false from rfl, cond_false]
      rw [show (n : Int).tdiv 10 = ((n / 10 : Nat) : Int) from by rw [Int.tdiv_eq_ediv_of_nonneg (by omega)]; omega, show (n : Int).tmod 10 = ((n % 10 : Nat) : Int) from by rw [Int.tmod_eq_emod_of_nonneg (by omega)]; omega]
      rw [wrap64 (x := ((n / 10 : Nat) : Int)) (by omega) (by omega), num_n f (n / 10) (by omega) (by omega), Option.bind_some, cond_false]
      have hl := dec_len (n / 10) (by omega)
      rw [dig_one (by omega)]
      dsimp only
      rw [decide_eq_true (by simp only [List.length_cons, List.length_nil]; omega), cond_true]
      rw [show dec n = dec (n / 10) ++ [UInt8.ofNat (48 + n % 10)] from by
        show Lib.decDigits n = _
        rw [Lib.decDigits, dif_neg hn]]

theorem num_S (n : Nat) (h : n ≤ 1000000) : f_S_l1Num (n : Int) = some ((dec n, ()), ()) := by
  unfold f_S_l1Num
  exact num_n _ n (by simp) h
theorem num_I (n : Nat) (h : n ≤ 1000000) : f_strconv_Itoa (n : Int) = some ((dec n, ()), ()) := by
  unfold f_strconv_Itoa itoaF
  rw [decide_eq_true (by omega), decide_eq_true (by omega : (n : Int) ≤ 9223372036854775807), Lib.itoa_nonneg]
  rfl
end R
end

section
/- Since when each line is there: both sides. -/
open Go Go.Dn
namespace R
set_option linter.unusedVariables false
set_option linter.unusedSectionVars false

def stay (prev m o : List Int) (k : Nat) : List Int := bif decide (m.getD k 0 ≥ 0) then o.set (m.getD k 0).toNat (prev.getD k 0) else o
theorem stay_len (prev m o : List Int) (k : Nat) : (stay prev m o k).length = o.length := by
  unfold stay
  cases decide (m.getD k 0 ≥ 0) <;> simp
def stayF (prev m base : List Int) : List Int := (List.range m.length).foldl (stay prev m) base
theorem stayF_len (prev m base : List Int) : (stayF prev m base).length = base.length := by
  unfold stayF
  generalize List.range m.length = l
  induction l generalizing base with
  | nil => rfl
  | cons x l ih => rw [List.foldl_cons, ih, stay_len]

def sinceP (v : List TXT) : Nat → List Int
  | 0 => List.replicate (v.getD 0 []).length 0
  | n + 1 => stayF (sinceP v n) (matesP (v.getD n []) (v.getD (n + 1) [])) (List.replicate (v.getD (n + 1) []).length ((n + 1 : Nat) : Int))
theorem sinceP_len (v : List TXT) (n : Nat) : (sinceP v n).length = (v.getD n []).length := by
  cases n with
  | zero => simp [sinceP]
  | succ n => simp [sinceP, stayF_len]
def sinceL (v : List TXT) (n : Nat) : List (List Int) := (List.range n).map (sinceP v)
theorem sinceL_len (v : List TXT) (n : Nat) : (sinceL v n).length = n := by simp [sinceL]
theorem sinceL_succ (v : List TXT) (n : Nat) : sinceL v (n + 1) = sinceL v n ++ [sinceP v n] := by simp [sinceL, List.range_succ]
theorem sinceL_at {v : List TXT} {n i : Nat} (h : i < n) {d : List Int} : (sinceL v n).getD i d = sinceP v i := by rw [getD_of (by rw [sinceL_len]; exact h)]; simp [sinceL]

section
variable {v : List TXT} (h : versP v = true)
include h

theorem stay_I {n : Nat} (hn : n + 1 < v.length) :
    w_I_since_8 (v, sinceL v (n + 1), ((n + 1 : Nat) : Int), List.replicate (v.getD (n + 1) []).length ((n + 1 : Nat) : Int), v, (v.length : Int), ((n + 1 : Nat) : Int), matesP (v.getD n []) (v.getD (n + 1) []), ((matesP (v.getD n []) (v.getD (n + 1) [])).length : Int), 0, ()) =
      some (v, sinceL v (n + 1), sinceP v (n + 1), v, (v.length : Int), ((n + 1 : Nat) : Int), ()) := by
  obtain ⟨v1, v2, v3⟩ := vers_at h
  have ha := v3 n (by omega)
  generalize hm : matesP (v.getD n []) (v.getD (n + 1) []) = m
  have hml : m.length = (v.getD n []).length := by rw [← hm, matesP_len]
  have hp := sinceP_len v n
  have hloop := (fix_fold (B := fun d => b_I_since_8 d.1 d.2.1 d.2.2.1 d.2.2.2.1 d.2.2.2.2.1 d.2.2.2.2.2.1 d.2.2.2.2.2.2.1 d.2.2.2.2.2.2.2.1 d.2.2.2.2.2.2.2.2.1 d.2.2.2.2.2.2.2.2.2.1) (List.range m.length) (stay (sinceP v n) m)
    (fun o i => (v, sinceL v (n + 1), ((n + 1 : Nat) : Int), o, v, (v.length : Int), ((n + 1 : Nat) : Int), m, (m.length : Int), (i : Int), ())) (fun o => (v, sinceL v (n + 1), o, v, (v.length : Int), ((n + 1 : Nat) : Int), ())) (fun _ o => o.length = (v.getD (n + 1) []).length)
    (fun i hi o ho => by
      rw [List.length_range] at hi
      refine ⟨by rw [stay_len]; exact ho, ?_⟩
      show b_I_since_8 v (sinceL v (n + 1)) ((n + 1 : Nat) : Int) o v (v.length : Int) ((n + 1 : Nat) : Int) m (m.length : Int) (i : Int) = _
      unfold b_I_since_8
      have w1 : IntKind.wrap .i64 (((n + 1 : Nat) : Int) - 1) = (n : Int) := by rw [wrap64 (by omega) (by omega)]; omega
      have w2 : IntKind.wrap .i64 ((i : Int) + 1) = ((i + 1 : Nat) : Int) := by rw [wrap64 (by omega) (by omega)]; omega
      have hat : m.getD i 0 = -1 ∨ (0 ≤ m.getD i 0 ∧ m.getD i 0 < ((v.getD (n + 1) []).length : Int)) := by rw [← hm]; exact matesP_at (by omega)
      have hst : stay (sinceP v n) m o (List.range m.length)[i] = bif decide (m.getD i 0 ≥ 0) then o.set (m.getD i 0).toNat ((sinceP v n).getD i 0) else o := by rw [List.getElem_range]; rfl
      rw [decide_eq_true (by omega : (i : Int) < (m.length : Int)), cond_true, inB_lt hi, cond_true, toNat_cast, w1, inB_lt (by rw [sinceL_len]; omega), toNat_cast, sinceL_at (by omega), inB_lt (by omega : i < (sinceP v n).length), hst]
      cases hd : decide (m.getD i 0 ≥ 0) with
      | false => simp only [cond_false, Option.bind_some, w2]
      | true =>
        have hd := of_decide_eq_true hd
        obtain ⟨q, hq⟩ := Int.eq_ofNat_of_zero_le hd
        rw [hq] at hat ⊢
        simp only [cond_true]
        rw [inB_lt (by omega)]
        simp only [cond_true, Option.bind_some, w2])
    (fun o ho => by
      rw [List.length_range]
      show b_I_since_8 v (sinceL v (n + 1)) ((n + 1 : Nat) : Int) o v (v.length : Int) ((n + 1 : Nat) : Int) m (m.length : Int) (m.length : Int) = _
      unfold b_I_since_8
      rw [decide_eq_false (by omega : ¬ ((m.length : Int) < (m.length : Int))), cond_false]) (List.replicate (v.getD (n + 1) []).length ((n + 1 : Nat) : Int)) (by simp)).1
  refine Eq.trans hloop ?_
  simp only [sinceP, stayF, hm]

theorem rep_I (x : Int) {n : Nat} (hn : n ≤ 1048576) : f_slices_Repeat_int [x] (n : Int) = some ((List.replicate n x, ()), ()) := by
  unfold f_slices_Repeat_int repF
  dsimp only
  rw [decide_eq_true (by omega : (0 : Int) ≤ (n : Int)), decide_eq_true (show (n : Int) ≤ 1099511627776 by omega)]
  rfl

theorem since_I : f_I_since v = some ((sinceL v v.length, ()), ()) := by
  obtain ⟨v1, v2, v3⟩ := vers_at h
  unfold f_I_since
  have hloop := fix_all (B := fun d => b_I_since_3 d.1 d.2.1 d.2.2.1 d.2.2.2.1 d.2.2.2.2.1) (fun i => (v, sinceL v i, v, (v.length : Int), (i : Int), ())) v.length (r := (sinceL v v.length, ()))
    (fun i hi => by
      show b_I_since_3 v (sinceL v i) v (v.length : Int) (i : Int) = _
      unfold b_I_since_3
      have ha := v3 i hi
      have w2 : IntKind.wrap .i64 ((i : Int) + 1) = ((i + 1 : Nat) : Int) := by rw [wrap64 (by omega) (by omega)]; omega
      rw [decide_eq_true (by omega : (i : Int) < (v.length : Int)), cond_true, inB_lt hi, cond_true, toNat_cast, rep_I h (i : Int) (by omega), Option.bind_some]
      dsimp only
      cases i with
      | zero =>
        rw [decide_eq_false (by omega : ¬ (((0 : Nat) : Int) > 0)), cond_false, Option.bind_some]
        dsimp only
        rw [roomB_ok (by rw [sinceL_len]; simp), cond_true, sinceL_succ, w2]
        rfl
      | succ n =>
        have hb := v3 n (by omega)
        have w1 : IntKind.wrap .i64 (((n + 1 : Nat) : Int) - 1) = (n : Int) := by rw [wrap64 (by omega) (by omega)]; omega
        rw [decide_eq_true (by omega : (((n + 1 : Nat) : Int) > 0)), cond_true, w1, inB_lt (by omega), cond_true, toNat_cast, mates_I (by omega) (by omega), Option.bind_some]
        dsimp only
        rw [stay_I h hi, Option.bind_some, Option.bind_some]
        dsimp only
        rw [roomB_ok (by rw [sinceL_len]; simp; omega), cond_true, sinceL_succ v (n + 1), w2])
    (by
      show b_I_since_3 v (sinceL v v.length) v (v.length : Int) (v.length : Int) = _
      unfold b_I_since_3
      rw [decide_eq_false (by omega : ¬ ((v.length : Int) < (v.length : Int))), cond_false])
  rw [show w_I_since_3 (v, [], v, (v.length : Int), 0, ()) = _ from hloop]
  rfl

theorem stay_S {n : Nat} (hn : n + 1 < v.length) (o0 : List Int) (ho0 : o0.length = (v.getD (n + 1) []).length) :
    w_S_l12Since_12 (v, sinceP v n, ((n + 1 : Nat) : Int), o0, matesP (v.getD n []) (v.getD (n + 1) []), ((matesP (v.getD n []) (v.getD (n + 1) [])).length : Int), 0, ()) =
      some (v, ((n + 1 : Nat) : Int), stayF (sinceP v n) (matesP (v.getD n []) (v.getD (n + 1) [])) o0, ()) := by
  obtain ⟨v1, v2, v3⟩ := vers_at h
  have ha := v3 n (by omega)
  generalize hm : matesP (v.getD n []) (v.getD (n + 1) []) = m
  have hml : m.length = (v.getD n []).length := by rw [← hm, matesP_len]
  have hp := sinceP_len v n
  have hloop := (fix_fold (B := fun d => b_S_l12Since_12 d.1 d.2.1 d.2.2.1 d.2.2.2.1 d.2.2.2.2.1 d.2.2.2.2.2.1 d.2.2.2.2.2.2.1) (List.range m.length) (stay (sinceP v n) m)
    (fun o i => (v, sinceP v n, ((n + 1 : Nat) : Int), o, m, (m.length : Int), (i : Int), ())) (fun o => (v, ((n + 1 : Nat) : Int), o, ())) (fun _ o => o.length = (v.getD (n + 1) []).length)
    (fun i hi o ho => by
      rw [List.length_range] at hi
      refine ⟨by rw [stay_len]; exact ho, ?_⟩
      show b_S_l12Since_12 v (sinceP v n) ((n + 1 : Nat) : Int) o m (m.length : Int) (i : Int) = _
      unfold b_S_l12Since_12
      have w2 : IntKind.wrap .i64 ((i : Int) + 1) = ((i + 1 : Nat) : Int) := by rw [wrap64 (by omega) (by omega)]; omega
      have hat : m.getD i 0 = -1 ∨ (0 ≤ m.getD i 0 ∧ m.getD i 0 < ((v.getD (n + 1) []).length : Int)) := by rw [← hm]; exact matesP_at (by omega)
      have hst : stay (sinceP v n) m o (List.range m.length)[i] = bif decide (m.getD i 0 ≥ 0) then o.set (m.getD i 0).toNat ((sinceP v n).getD i 0) else o := by rw [List.getElem_range]; rfl
      rw [decide_eq_true (by omega : (i : Int) < (m.length : Int)), cond_true, inB_lt hi, cond_true, toNat_cast, inB_lt (by omega : i < (sinceP v n).length), hst]
      cases hd : decide (m.getD i 0 ≥ 0) with
      | false => simp only [cond_false, Option.bind_some, w2]
      | true =>
        have hd := of_decide_eq_true hd
        obtain ⟨q, hq⟩ := Int.eq_ofNat_of_zero_le hd
        rw [hq] at hat ⊢
        simp only [cond_true]
        rw [inB_lt (by omega)]
        simp only [cond_true, Option.bind_some, w2])
    (fun o ho => by
      rw [List.length_range]
      show b_S_l12Since_12 v (sinceP v n) ((n + 1 : Nat) : Int) o m (m.length : Int) (m.length : Int) = _
      unfold b_S_l12Since_12
      rw [decide_eq_false (by omega : ¬ ((m.length : Int) < (m.length : Int))), cond_false]) o0 ho0).1
  exact hloop

theorem fill_S {n : Nat} (hn : n + 1 < v.length) :
    w_S_l12Since_7 (v, sinceP v n, ((n + 1 : Nat) : Int), List.replicate (v.getD (n + 1) []).length (0 : Int), ((v.getD (n + 1) []).length : Int), 0, ()) = some (v, sinceP v n, ((n + 1 : Nat) : Int), List.replicate (v.getD (n + 1) []).length ((n + 1 : Nat) : Int), ()) := by
  obtain ⟨v1, v2, v3⟩ := vers_at h
  have ha := v3 (n + 1) hn
  generalize (v.getD (n + 1) []).length = c at ha ⊢
  have hfill := fix_all (B := fun d => b_S_l12Since_7 d.1 d.2.1 d.2.2.1 d.2.2.2.1 d.2.2.2.2.1 d.2.2.2.2.2.1) (fun i => (v, sinceP v n, ((n + 1 : Nat) : Int), (List.replicate c ((n + 1 : Nat) : Int)).take i ++ List.replicate ((List.replicate c ((n + 1 : Nat) : Int)).length - i) (0 : Int), (c : Int), (i : Int), ())) c
    (r := (v, sinceP v n, ((n + 1 : Nat) : Int), List.replicate c ((n + 1 : Nat) : Int), ()))
    (fun i hi => by
      show b_S_l12Since_7 v (sinceP v n) ((n + 1 : Nat) : Int) ((List.replicate c ((n + 1 : Nat) : Int)).take i ++ List.replicate ((List.replicate c ((n + 1 : Nat) : Int)).length - i) (0 : Int)) c i = _
      unfold b_S_l12Since_7
      have hi' : i < (List.replicate c ((n + 1 : Nat) : Int)).length := by rw [List.length_replicate]; exact hi
      have hs := set_fill (d := (0 : Int)) hi'
      rw [List.getElem_replicate] at hs
      rw [decide_eq_true (by omega : (i : Int) < (c : Int)), cond_true, inB_lt (by simp; omega), cond_true, toNat_cast, hs, wrap64 (by omega) (by omega)]
      rfl)
    (by
      show b_S_l12Since_7 v (sinceP v n) ((n + 1 : Nat) : Int) _ c (c : Int) = _
      unfold b_S_l12Since_7
      rw [decide_eq_false (by omega : ¬ ((c : Int) < (c : Int))), cond_false]
      simp)
  refine Eq.trans ?_ hfill
  unfold w_S_l12Since_7
  congr 1
  simp

theorem since_S : f_S_l12Since v = some ((sinceP v (v.length - 1), ()), ()) := by
  obtain ⟨v1, v2, v3⟩ := vers_at h
  unfold f_S_l12Since
  have h0 := v3 0 (by omega)
  rw [show inB 0 v.length = true from inB_lt (i := 0) (by omega), cond_true, show ((0 : Int).toNat) = 0 from rfl, room_len (by omega), cond_true, toNat_cast]
  have hloop := fix_all (B := fun d => b_S_l12Since_3 d.1 d.2.1 d.2.2.1) (fun i => (v, sinceP v i, ((i + 1 : Nat) : Int), ())) (v.length - 1) (r := (sinceP v (v.length - 1), ()))
    (fun n hi => by
      show b_S_l12Since_3 v (sinceP v n) ((n + 1 : Nat) : Int) = _
      unfold b_S_l12Since_3
      have ha := v3 (n + 1) (by omega)
      have hb := v3 n (by omega)
      have w2 : IntKind.wrap .i64 (((n + 1 : Nat) : Int) + 1) = ((n + 1 + 1 : Nat) : Int) := by rw [wrap64 (by omega) (by omega)]; omega
      have w1 : IntKind.wrap .i64 (((n + 1 : Nat) : Int) - 1) = (n : Int) := by rw [wrap64 (by omega) (by omega)]; omega
      rw [decide_eq_true (by omega : ((n + 1 : Nat) : Int) < (v.length : Int)), cond_true, inB_lt (by omega), cond_true, toNat_cast, room_len (by omega), cond_true, toNat_cast, List.length_replicate, fill_S h (by omega), Option.bind_some]
      dsimp only
      rw [w1, inB_lt (by omega), cond_true, inB_lt (by omega), cond_true, toNat_cast, toNat_cast, next_S (by omega) (by omega), Option.bind_some]
      dsimp only
      rw [stay_S h (by omega) _ (by simp), Option.bind_some]
      dsimp only
      rw [w2]
      rfl)
    (by
      show b_S_l12Since_3 v (sinceP v (v.length - 1)) ((v.length - 1 + 1 : Nat) : Int) = _
      unfold b_S_l12Since_3
      rw [decide_eq_false (by omega : ¬ (((v.length - 1 + 1 : Nat) : Int) < (v.length : Int))), cond_false])
  rw [show w_S_l12Since_3 (v, List.replicate (v.getD 0 []).length (0 : Int), 1, ()) = _ from hloop]
  rfl
end

def sinceR (v : List TXT) : List Int := bif versP v then sinceP v (v.length - 1) else []

theorem sinceOf_I {v : List TXT} (hs : SmV v) : f_I_SinceOf v = some ((sinceR v, versP v, ()), ()) := by
  unfold f_I_SinceOf sinceR
  rw [vers_I hs, Option.bind_some]
  dsimp only
  cases hv : versP v with
  | false => rfl
  | true =>
    obtain ⟨v1, v2, v3⟩ := vers_at hv
    simp only [Bool.not_true, cond_false, cond_true]
    rw [since_I hv, Option.bind_some]
    dsimp only
    rw [show IntKind.wrap .i64 ((v.length : Int) - 1) = ((v.length - 1 : Nat) : Int) from by rw [wrap64 (by omega) (by omega)]; omega, inB_lt (by rw [sinceL_len]; omega), cond_true, toNat_cast, sinceL_at (by omega)]

theorem tot_ints (l : List Int) : tot S_int l = l.length := by
  rw [show tot S_int l = l.length + (l.map (tot (.int .i64))).sum from tot_slice]
  have : (l.map (tot (.int .i64))).sum = 0 := sum_zero (fun x => by simp only [tot])
  omega

theorem since_tot (v : List TXT) : tot S_int (sinceR v) ≤ 100 := by
  rw [tot_ints]
  unfold sinceR
  cases h : versP v with
  | false => exact Nat.zero_le _
  | true =>
    obtain ⟨v1, v2, v3⟩ := vers_at h
    rw [cond_true, sinceP_len]
    have := v3 (v.length - 1) (by omega)
    omega
end R
end

section
/- The last version with the age of each line, as a text: both sides write the same. -/
open Go Go.Dn
namespace R
set_option linter.unusedVariables false

def plainT (s : List UInt8) : List UInt8 := bif endP s then s.take (s.length - 1) else s
theorem plainT_len (s : List UInt8) : (plainT s).length ≤ s.length := by
  unfold plainT
  cases endP s
  · exact Nat.le_refl _
  · simp
theorem plain_S (s : List UInt8) (h1 : 1 ≤ s.length) (h2 : s.length ≤ 1000) : f_S_l1Plain s = some ((plainT s, ()), ()) := by
  unfold f_S_l1Plain plainT
  rw [ends_S s h1 (by omega), Option.bind_some]
  dsimp only
  cases endP s
  · rfl
  · rw [cond_true, cond_true, show IntKind.wrap .i64 ((s.length : Int) - 1) = ((s.length - 1 : Nat) : Int) from by rw [wrap64 (by omega) (by omega)]; omega, show cutB 0 ((s.length - 1 : Nat) : Int) s.length = true from by unfold cutB; simp, cond_true]
    unfold cutL
    simp
theorem plain_I (s : List UInt8) (h1 : 1 ≤ s.length) (h2 : s.length ≤ 1000) : f_I_plain s = some ((plainT s, ()), ()) := by
  have he := ends_I s (by omega)
  unfold f_I_isEnded f_strings_HasSuffix at he
  unfold f_I_plain f_strings_TrimSuffix f_internal_stringslite_TrimSuffix plainT
  cases hq : f_internal_stringslite_HasSuffix s [10] with
  | none => rw [hq] at he; cases he
  | some r =>
    rw [hq] at he
    obtain ⟨⟨b, u⟩, u'⟩ := r
    have hb : b = endP s := by
      have := congrArg (fun o => o.map fun (q : PVs [Ty.bool] × PVs []) => q.1.1) he
      simpa using this
    subst hb
    simp only [Option.bind_some]
    cases endP s
    · rfl
    · rw [cond_true, cond_true, show IntKind.wrap .i64 ((s.length : Int) - (([10] : List UInt8).length : Int)) = ((s.length - 1 : Nat) : Int) from by rw [show ((([10] : List UInt8).length : Nat) : Int) = 1 from rfl, wrap64 (by omega) (by omega)]; omega, show cutB 0 ((s.length - 1 : Nat) : Int) s.length = true from by unfold cutB; simp, cond_true]
      unfold cutL
      simp

theorem stay_val {N : Int} {prev m : List Int} (hp : ∀ x ∈ prev, 0 ≤ x ∧ x ≤ N) (hN : 0 ≤ N) : ∀ (l : List Nat) (o : List Int), (∀ x ∈ o, 0 ≤ x ∧ x ≤ N) → ∀ x ∈ l.foldl (stay prev m) o, 0 ≤ x ∧ x ≤ N
  | [], o, h => h
  | k :: l, o, h => by
    rw [List.foldl_cons]
    refine stay_val hp hN l _ fun x hx => ?_
    unfold stay at hx
    cases hd : decide (m.getD k 0 ≥ 0) with
    | false => rw [hd] at hx; exact h x hx
    | true =>
      rw [hd, cond_true] at hx
      rcases List.mem_or_eq_of_mem_set hx with hx | rfl
      · exact h x hx
      · rw [List.getD_eq_getElem?_getD]
        cases hq : prev[k]? with
        | none => exact ⟨by simp, by simpa using hN⟩
        | some y => exact hp y (List.mem_of_getElem? hq)
theorem since_val (v : List TXT) : ∀ n, ∀ x ∈ sinceP v n, 0 ≤ x ∧ x ≤ (n : Int)
  | 0 => fun x hx => by
    simp only [sinceP, List.mem_replicate] at hx
    rw [hx.2]
    omega
  | n + 1 => by
    simp only [sinceP]
    unfold stayF
    refine stay_val (fun x hx => ?_) (by omega) _ _ fun x hx => ?_
    · have := since_val v n x hx
      omega
    · rw [List.mem_replicate] at hx
      rw [hx.2]
      omega

def ageT (s : List Int) (l : TXT) (k : Nat) : List UInt8 := ((dec (s.getD k 0).toNat ++ [32]) ++ plainT (l.getD k [])) ++ [10]
def agesT (s : List Int) (l : TXT) : List UInt8 := (List.range l.length).flatMap (ageT s l)

theorem foldl_app {α : Type} (f : α → List UInt8) : ∀ (l : List α) (a : List UInt8), l.foldl (fun a r => a ++ f r) a = a ++ l.flatMap f
  | [], a => by simp
  | x :: l, a => by rw [List.foldl_cons, foldl_app f l, List.flatMap_cons, List.append_assoc]

theorem room {n : Nat} (h : n ≤ 10000000) : decide (n ≤ 1099511627776) = true := decide_eq_true (by omega)

structure AgeOk (s : List Int) (l : TXT) : Prop where
  len : s.length = l.length
  l40 : l.length ≤ 40
  line : ∀ k, k < l.length → 1 ≤ (l.getD k []).length ∧ (l.getD k []).length ≤ 30
  val : ∀ k, k < l.length → ∃ n : Nat, s.getD k 0 = (n : Int) ∧ n ≤ 1000

theorem ageT_len {s : List Int} {l : TXT} (h : AgeOk s l) {k : Nat} (hk : k < l.length) : (ageT s l k).length ≤ 60 := by
  obtain ⟨n, e, hn⟩ := h.val k hk
  have h1 := dec_len n (by omega)
  have h2 := plainT_len (l.getD k [])
  have h3 := (h.line k hk).2
  unfold ageT
  rw [e, toNat_cast]
  simp only [List.length_append, List.length_cons, List.length_nil]
  omega

theorem ages_I {s : List Int} {l : TXT} (h : AgeOk s l) : w_I_SinceText_6 (s, [], l, (l.length : Int), 0, ()) = some (agesT s l, ()) := by
  have hl := h.l40
  have hs := h.len
  have hf := fix_fold (B := fun d => b_I_SinceText_6 d.1 d.2.1 d.2.2.1 d.2.2.2.1 d.2.2.2.2.1) (List.range l.length) (fun a k => a ++ ageT s l k) (fun a i => (s, a, l, (l.length : Int), (i : Int), ())) (fun a => (a, ())) (fun i a => a.length ≤ 60 * i)
    (fun i hi a hI => by
      rw [List.length_range] at hi
      rw [List.getElem_range]
      have ht := ageT_len h hi
      obtain ⟨n, e, hn⟩ := h.val i hi
      obtain ⟨l1, l2⟩ := h.line i hi
      have h1 := dec_len n (by omega)
      have h2 := plainT_len (l.getD i [])
      refine ⟨by rw [List.length_append]; omega, ?_⟩
      show b_I_SinceText_6 s a l l.length i = _
      unfold b_I_SinceText_6
      rw [decide_eq_true (by omega : (i : Int) < (l.length : Int)), cond_true, inB_lt hi, cond_true, inB_lt (by omega), cond_true, toNat_cast, e, num_I n (by omega), Option.bind_some]
      dsimp only
      rw [room (by simp only [List.length_cons, List.length_nil]; omega), cond_true, plain_I _ l1 (by omega), Option.bind_some]
      dsimp only
      rw [room (by simp only [List.length_append, List.length_cons, List.length_nil]; omega), cond_true, room (by simp only [List.length_append, List.length_cons, List.length_nil]; omega), cond_true]
      have ea : ((dec n ++ [32]) ++ plainT (l.getD i [])) ++ [10] = ageT s l i := by unfold ageT; rw [e, toNat_cast]
      rw [ea, room (by omega), cond_true, wrap64 (by omega) (by omega)]
      rfl)
    (fun a _ => by
      rw [List.length_range]
      show b_I_SinceText_6 s a l l.length l.length = _
      unfold b_I_SinceText_6
      rw [decide_eq_false (Int.lt_irrefl _), cond_false]) [] (Nat.zero_le _)
  rw [foldl_app] at hf
  exact hf.1

theorem ages_S {s : List Int} {v : List TXT} {l : TXT} (hv1 : 1 ≤ v.length) (hv8 : v.length ≤ 8) (hv : v.getD (v.length - 1) [] = l) (h : AgeOk s l) : w_S_SinceText_5 (v, [], s, (s.length : Int), 0, ()) = some (agesT s l, ()) := by
  have hl := h.l40
  have hs := h.len
  have hw : IntKind.wrap .i64 ((v.length : Int) - 1) = ((v.length - 1 : Nat) : Int) := by rw [wrap64 (by omega) (by omega)]; omega
  have hf := fix_fold (B := fun d => b_S_SinceText_5 d.1 d.2.1 d.2.2.1 d.2.2.2.1 d.2.2.2.2.1) (List.range l.length) (fun a k => a ++ ageT s l k) (fun a i => (v, a, s, (s.length : Int), (i : Int), ())) (fun a => (a, ())) (fun i a => a.length ≤ 60 * i)
    (fun i hi a hI => by
      rw [List.length_range] at hi
      rw [List.getElem_range]
      have ht := ageT_len h hi
      obtain ⟨n, e, hn⟩ := h.val i hi
      obtain ⟨l1, l2⟩ := h.line i hi
      have h1 := dec_len n (by omega)
      have h2 := plainT_len (l.getD i [])
      refine ⟨by rw [List.length_append]; omega, ?_⟩
      show b_S_SinceText_5 v a s s.length i = _
      unfold b_S_SinceText_5
      rw [decide_eq_true (by omega : (i : Int) < (s.length : Int)), cond_true, inB_lt (by omega), cond_true, toNat_cast, e, num_S n (by omega), Option.bind_some]
      dsimp only
      rw [room (by simp only [List.length_cons, List.length_nil]; omega), cond_true, hw, inB_lt (by omega), cond_true, toNat_cast, hv, inB_lt hi, cond_true, plain_S _ l1 (by omega), Option.bind_some]
      dsimp only
      rw [room (by simp only [List.length_append, List.length_cons, List.length_nil]; omega), cond_true, room (by simp only [List.length_append, List.length_cons, List.length_nil]; omega), cond_true]
      have ea : ((dec n ++ [32]) ++ plainT (l.getD i [])) ++ [10] = ageT s l i := by unfold ageT; rw [e, toNat_cast]
      rw [ea, room (by omega), cond_true, wrap64 (by omega) (by omega)]
      rfl)
    (fun a _ => by
      rw [List.length_range]
      show b_S_SinceText_5 v a s s.length l.length = _
      unfold b_S_SinceText_5
      rw [decide_eq_false (by omega : ¬ ((l.length : Int) < (s.length : Int))), cond_false]) [] (Nat.zero_le _)
  rw [foldl_app] at hf
  exact hf.1

theorem age_ok {v : List TXT} (h : versP v = true) : AgeOk (sinceP v (v.length - 1)) (v.getD (v.length - 1) []) := by
  obtain ⟨v1, v2, v3⟩ := vers_at h
  have hg : goodP (v.getD (v.length - 1) []) = true := by
    unfold versP at h
    simp only [Bool.and_eq_true, Bool.not_eq_true'] at h
    have := List.any_eq_false.1 h.2 (v.getD (v.length - 1) []) (by rw [getD_of (by omega)]; exact List.getElem_mem _)
    simpa using this
  refine ⟨sinceP_len _ _, v3 _ (by omega), fun k hk => ?_, fun k hk => ?_⟩
  · unfold goodP linesP at hg
    simp only [Bool.and_eq_true, Bool.not_eq_true'] at hg
    have := List.any_eq_false.1 hg.1.2 ((v.getD (v.length - 1) []).getD k []) (by rw [getD_of hk]; exact List.getElem_mem _)
    exact line_len (by simpa using this)
  · have hk' : k < (sinceP v (v.length - 1)).length := by rw [sinceP_len]; exact hk
    have := since_val v (v.length - 1) _ (List.getElem_mem hk')
    rw [getD_of hk']
    exact ⟨Int.toNat ((sinceP v (v.length - 1))[k]), by omega, by omega⟩

def ageR (v : List TXT) : List UInt8 := bif versP v then agesT (sinceP v (v.length - 1)) (v.getD (v.length - 1) []) else []
theorem sinceText_I {v : List TXT} (hs : SmV v) : f_I_SinceText v = some ((ageR v, versP v, ()), ()) := by
  unfold f_I_SinceText ageR
  rw [sinceOf_I hs, Option.bind_some]
  unfold sinceR
  dsimp only
  cases hv : versP v with
  | false => rfl
  | true =>
    obtain ⟨v1, v2, v3⟩ := vers_at hv
    simp only [Bool.not_true, cond_false, cond_true]
    rw [show IntKind.wrap .i64 ((v.length : Int) - 1) = ((v.length - 1 : Nat) : Int) from by rw [wrap64 (by omega) (by omega)]; omega, inB_lt (by omega), cond_true, toNat_cast, ages_I (age_ok hv), Option.bind_some]
theorem sinceText_S {v : List TXT} (hs : SmV v) : f_S_SinceText v = some ((ageR v, versP v, ()), ()) := by
  unfold f_S_SinceText ageR
  rw [vers_S hs, Option.bind_some]
  dsimp only
  cases hv : versP v with
  | false => rfl
  | true =>
    obtain ⟨v1, v2, v3⟩ := vers_at hv
    simp only [Bool.not_true, cond_false, cond_true]
    rw [since_S hv, Option.bind_some]
    dsimp only
    rw [ages_S v1 v2 rfl (age_ok hv), Option.bind_some]

theorem law_SinceText (t0 : PV S_S_string) (hw : WfV S_S_string t0) : f_L_FnExactSinceText t0 = some ((true, ()), ()) := by
  unfold f_L_FnExactSinceText
  rw [p_L_szStringSS t0 1048576 (by omega) (by omega) hw, Option.bind_some]
  by_cases hs : ((tot S_S_string t0 : Nat) : Int) ≤ 1048576
  · rw [szR_pos hs]
    dsimp only
    have hs' : tot S_S_string t0 ≤ 1048576 := by omega
    have hS : SmV t0 := SmV.of (e := 0) (v := t0) (n := 1048576) hs' (by omega)
    rw [decide_eq_false (by omega : ¬ ((1048576 : Int) - ((tot S_S_string t0 : Nat) : Int) < 0)), cond_false]
    simp only [p_L_toStringSS t0 hs', sinceText_S hS, sinceText_I hS, Option.bind_some, p_L_eqStringSS t0 (by omega), beq_self_eq_true, Bool.not_true, cond_false]
  · rw [szR_neg hs]; rfl
end R
end
