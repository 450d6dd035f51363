/- Parts of the proof: PbF Pk1 Pk5 Pk6 Pk2 Pk3 Pk4 Pk7 Pk8 Pk9 Pk11 Pk12 Pk13 Pk14. -/
import Derived.Test.YtegfhigkmghmjaaDoorPaF
import Derived.Test.YtegfhigkmghmjaaDoorL3
import Derived.Lib.ItoaLen
section
/- Plain laws of the law's helpers. -/
open Go Go.Dn
namespace R
set_option linter.unusedVariables false
theorem p_L_szStringS (t0 : PV S_string) (L : Int) (h0 : 0 ≤ L) (h1 : L ≤ 1048576) (hw : WfV S_string t0) : f_L_szStringS t0 L = some ((szR (tot S_string t0) L, ()), ()) := by
  have hl : List.length t0 ≤ 9223372036854775807 := hw.1
  unfold f_L_szStringS
  rw [wrap64 (by omega) (by omega)]
  by_cases hc : (t0.length : Int) ≤ L
  · rw [decide_eq_false (by omega : ¬ (L - (t0.length : Int) < 0)), cond_false, show w_L_szStringS_5 (t0, L - (t0.length : Int), 0, ()) = _ from sz_loop (T := .str) (xs := t0) (B := fun d => b_L_szStringS_5 d.1 d.2.1 d.2.2.1) (fun i hi l g0 g1 => by
      show b_L_szStringS_5 t0 l i = _
      generalize hxs : t0 = xs at *
      have hi' : (i : Int) < (xs.length : Int) := by omega
      unfold b_L_szStringS_5
      rw [decide_eq_true hi', cond_true, inB_lt hi, cond_true, toNat_cast, getD_of hi]
      have hx : (xs[i]).length ≤ 9223372036854775807 := hw.2 _ (List.getElem_mem hi)
      rw [wrap64 (by omega) (by omega), wrap64 (x := (i : Int) + 1) (by omega) (by omega)]
      by_cases hq : ((tot .str xs[i] : Nat) : Int) ≤ l
      · rw [if_pos hq]; rw [tot_str] at hq ⊢; rw [decide_eq_false (by omega : ¬ (l - (xs[i].length : Int) < 0)), cond_false]
      · rw [if_neg hq]; rw [tot_str] at hq; rw [decide_eq_true (by omega : l - (xs[i].length : Int) < 0), cond_true]) (fun l => by
      show b_L_szStringS_5 t0 l t0.length = _
      unfold b_L_szStringS_5
      rw [decide_eq_false (Int.lt_irrefl _), cond_false]) (by omega) (by omega)]
    exact sz_out hc tot_slice
  · rw [decide_eq_true (by omega : L - (t0.length : Int) < 0), cond_true, szR_neg (by rw [tot_slice]; omega)]

theorem p_L_szHunk (t0 : PV Y_impl_Hunk) (L : Int) (h0 : 0 ≤ L) (h1 : L ≤ 1048576) (hw : WfV Y_impl_Hunk t0) : f_L_szHunk t0 L = some ((szR (tot Y_impl_Hunk t0) L, ()), ()) := by
  unfold f_L_szHunk
  rw [p_L_szStringS _ L (by omega) (by omega) hw.2.2.1, Option.bind_some]
  by_cases c2 : ((tot S_string t0.2.2.1 : Nat) : Int) ≤ L
  · rw [szR_pos c2]; (try dsimp only); rw [decide_eq_false (by omega : ¬ (L - ((tot S_string t0.2.2.1 : Nat) : Int) < 0)), cond_false]
    rw [szR_pos (by simp only [tot] at *; omega)]
    refine congrArg (fun (z : Int) => some ((z, ()), ())) ?_
    simp only [tot] at *; omega
  · rw [szR_neg c2]; rw [szR_neg (by simp only [tot] at *; omega)]; rfl

theorem p_L_szHunkS (t0 : PV S_laws_Hunk) (L : Int) (h0 : 0 ≤ L) (h1 : L ≤ 1048576) (hw : WfV S_laws_Hunk t0) : f_L_szHunkS t0 L = some ((szR (tot S_laws_Hunk t0) L, ()), ()) := by
  have hl : List.length t0 ≤ 9223372036854775807 := hw.1
  unfold f_L_szHunkS
  rw [wrap64 (by omega) (by omega)]
  by_cases hc : (t0.length : Int) ≤ L
  · rw [decide_eq_false (by omega : ¬ (L - (t0.length : Int) < 0)), cond_false, show w_L_szHunkS_5 (t0, L - (t0.length : Int), 0, ()) = _ from sz_loop (T := Y_impl_Hunk) (xs := t0) (B := fun d => b_L_szHunkS_5 d.1 d.2.1 d.2.2.1) (fun i hi l g0 g1 => by
      show b_L_szHunkS_5 t0 l i = _
      generalize hxs : t0 = xs at *
      have hi' : (i : Int) < (xs.length : Int) := by omega
      unfold b_L_szHunkS_5
      rw [decide_eq_true hi', cond_true, inB_lt hi, cond_true, toNat_cast, getD_of hi]
      rw [p_L_szHunk _ l g0 g1 (hw.2 _ (List.getElem_mem hi)), Option.bind_some, wrap64 (x := (i : Int) + 1) (by omega) (by omega)]
      by_cases hq : ((tot Y_impl_Hunk xs[i] : Nat) : Int) ≤ l
      · rw [if_pos hq, szR_pos hq]; dsimp only; rw [decide_eq_false (by omega : ¬ (l - ((tot Y_impl_Hunk xs[i] : Nat) : Int) < 0)), cond_false]
      · rw [if_neg hq, szR_neg hq]; rfl) (fun l => by
      show b_L_szHunkS_5 t0 l t0.length = _
      unfold b_L_szHunkS_5
      rw [decide_eq_false (Int.lt_irrefl _), cond_false]) (by omega) (by omega)]
    exact sz_out hc tot_slice
  · rw [decide_eq_true (by omega : L - (t0.length : Int) < 0), cond_true, szR_neg (by rw [tot_slice]; omega)]

theorem p_L_toStringS (t0 : PV S_string) (hs : tot S_string t0 ≤ 1048576) : f_L_toStringS t0 = some ((t0, ()), ()) := by
  unfold f_L_toStringS
  have hl : List.length t0 ≤ 1048576 := Nat.le_trans (Nat.le_add_right _ _) (tot_slice ▸ hs)
  rw [room_len (by omega), cond_true, toNat_cast]
  rw [show w_L_toStringS_3 (t0, List.replicate t0.length _, 0, ()) = _ from to_loop (xs := t0) t0 (B := lp_L_toStringS_3.B) rfl (fun i hi acc ha => by
      show b_L_toStringS_3 t0 acc i = _
      unfold b_L_toStringS_3
      have hi' : (i : Int) < (t0.length : Int) := by omega
      rw [decide_eq_true hi', cond_true, inB_lt hi, cond_true, toNat_cast, getD_of hi]
      rw [inB_lt (by omega), cond_true, wrap64 (by omega) (by omega)]) (fun acc => by
      show b_L_toStringS_3 t0 acc t0.length = _
      unfold b_L_toStringS_3
      rw [decide_eq_false (Int.lt_irrefl _), cond_false])]
  rfl

theorem p_L_toHunk (t0 : PV Y_impl_Hunk) (hs : tot Y_impl_Hunk t0 ≤ 1048576) : f_L_toHunk t0 = some ((t0, ()), ()) := by
  unfold f_L_toHunk
  simp only [tot] at hs
  rw [p_L_toStringS t0.2.2.1 (by simp only [tot]; omega), Option.bind_some]

theorem p_L_toHunkS (t0 : PV S_laws_Hunk) (hs : tot S_laws_Hunk t0 ≤ 1048576) : f_L_toHunkS t0 = some ((t0, ()), ()) := by
  unfold f_L_toHunkS
  have hl : List.length t0 ≤ 1048576 := Nat.le_trans (Nat.le_add_right _ _) (tot_slice ▸ hs)
  rw [room_len (by omega), cond_true, toNat_cast]
  rw [show w_L_toHunkS_3 (t0, List.replicate t0.length _, 0, ()) = _ from to_loop (xs := t0) t0 (B := lp_L_toHunkS_3.B) rfl (fun i hi acc ha => by
      show b_L_toHunkS_3 t0 acc i = _
      unfold b_L_toHunkS_3
      have hi' : (i : Int) < (t0.length : Int) := by omega
      rw [decide_eq_true hi', cond_true, inB_lt hi, cond_true, toNat_cast, getD_of hi]
      rw [p_L_toHunk _ (Nat.le_trans (tot_mem hi) hs), Option.bind_some, inB_lt (by omega), cond_true, wrap64 (by omega) (by omega)]) (fun acc => by
      show b_L_toHunkS_3 t0 acc t0.length = _
      unfold b_L_toHunkS_3
      rw [decide_eq_false (Int.lt_irrefl _), cond_false])]
  rfl

theorem p_L_eqStringS (t0 : PV S_string) (hs : tot S_string t0 ≤ 4611686018427387904) : f_L_eqStringS t0 t0 = some ((true, ()), ()) := by
  unfold f_L_eqStringS
  have hl : List.length t0 ≤ 4611686018427387904 := Nat.le_trans (Nat.le_add_right _ _) (tot_slice ▸ hs)
  rw [beq_self_eq_true, Bool.not_true, cond_false]
  rw [show w_L_eqStringS_4 (t0, t0, 0, ()) = _ from eq_loop (xs := t0) (B := fun d => b_L_eqStringS_4 d.1 d.2.1 d.2.2.1) (fun i hi => by
      show b_L_eqStringS_4 t0 t0 i = _
      unfold b_L_eqStringS_4
      have hi' : (i : Int) < (t0.length : Int) := by omega
      rw [decide_eq_true hi', cond_true, inB_lt hi, cond_true, cond_true, toNat_cast, getD_of hi]
      rw [beq_self_eq_true, Bool.not_true, cond_false, wrap64 (by omega) (by omega)]) (by
      show b_L_eqStringS_4 t0 t0 t0.length = _
      unfold b_L_eqStringS_4
      rw [decide_eq_false (Int.lt_irrefl _), cond_false])]
  rfl

theorem p_L_eqHunk (t0 : PV Y_impl_Hunk) (hs : tot Y_impl_Hunk t0 ≤ 4611686018427387904) : f_L_eqHunk t0 t0 = some ((true, ()), ()) := by
  unfold f_L_eqHunk
  simp only [tot] at hs
  rw [beq_self_eq_true, Bool.not_true, cond_false]
  rw [beq_self_eq_true, Bool.not_true, cond_false]
  rw [p_L_eqStringS t0.2.2.1 (by simp only [tot]; omega), Option.bind_some, Bool.not_true, cond_false]

theorem p_L_eqHunkS (t0 : PV S_impl_Hunk) (hs : tot S_impl_Hunk t0 ≤ 4611686018427387904) : f_L_eqHunkS t0 t0 = some ((true, ()), ()) := by
  unfold f_L_eqHunkS
  have hl : List.length t0 ≤ 4611686018427387904 := Nat.le_trans (Nat.le_add_right _ _) (tot_slice ▸ hs)
  rw [beq_self_eq_true, Bool.not_true, cond_false]
  rw [show w_L_eqHunkS_4 (t0, t0, 0, ()) = _ from eq_loop (xs := t0) (B := fun d => b_L_eqHunkS_4 d.1 d.2.1 d.2.2.1) (fun i hi => by
      show b_L_eqHunkS_4 t0 t0 i = _
      unfold b_L_eqHunkS_4
      have hi' : (i : Int) < (t0.length : Int) := by omega
      rw [decide_eq_true hi', cond_true, inB_lt hi, cond_true, cond_true, toNat_cast, getD_of hi]
      rw [p_L_eqHunk _ (Nat.le_trans (tot_mem hi) hs), Option.bind_some, Bool.not_true, cond_false, wrap64 (by omega) (by omega)]) (by
      show b_L_eqHunkS_4 t0 t0 t0.length = _
      unfold b_L_eqHunkS_4
      rw [decide_eq_false (Int.lt_irrefl _), cond_false])]
  rfl
end R
end

section
/- Lines: both sides' tests of lines answer the same. -/
open Go Go.Dn
namespace R
set_option linter.unusedVariables false

theorem in_I (a b c : Int) : f_I_in a b c = some ((decide (a ≥ b) && decide (a ≤ c), ()), ()) := by
  unfold f_I_in
  cases decide (a ≥ b) <;> rfl
theorem in_S (a b c : Int) : f_S_l1In a b c = some ((decide (a ≥ b) && decide (a ≤ c), ()), ()) := by
  unfold f_S_l1In
  cases decide (a ≥ b) <;> rfl

def inI (a b c : Int) : Bool := decide (a ≥ b) && decide (a ≤ c)
def hasEnd (s : List UInt8) : Bool := (s.take (s.length - 1)).contains 10
def lineP (s : List UInt8) : Bool := inI (s.length : Int) 1 30 && !hasEnd s
def endP (s : List UInt8) : Bool := s.drop (s.length - 1) == [10]

theorem line_len {s : List UInt8} (h : lineP s = true) : 1 ≤ s.length ∧ s.length ≤ 30 := by
  unfold lineP inI at h
  simp only [Bool.and_eq_true, decide_eq_true_eq] at h
  omega

theorem line_S (s : List UInt8) (hs : s.length ≤ 4611686018427387904) : f_S_l1Line s = some ((lineP s, ()), ()) := by
  unfold f_S_l1Line
  have hw : IntKind.wrap .i64 ((s.length : Int) - 1) = (s.length : Int) - 1 := wrap64 (by omega) (by omega)
  rw [show w_S_l1Line_2 (s, 0, ()) = _ from fix_anyN (B := fun d => b_S_l1Line_2 d.1 d.2.1) (s.length - 1) (fun i => s.getD i 0 == 10) (fun i => (s, (i : Int), ())) (fun _ => .inr (false, ())) (.inl (s, ()))
    (fun i hi hq => by
      show b_S_l1Line_2 s i = _
      unfold b_S_l1Line_2
      rw [hw, decide_eq_true (by omega : (i : Int) < (s.length : Int) - 1), cond_true, inB_lt (by omega), cond_true, toNat_cast]
      rw [show ((((s.getD i 0 : UInt8).toNat : Nat) : Int) == 10) = (s.getD i 0 == 10) from byte_eq (n := 10) (by omega), hq, cond_false, wrap64 (by omega) (by omega)]
      simp)
    (fun i hi hq => by
      show b_S_l1Line_2 s i = _
      unfold b_S_l1Line_2
      rw [hw, decide_eq_true (by omega : (i : Int) < (s.length : Int) - 1), cond_true, inB_lt (by omega), cond_true, toNat_cast]
      rw [show ((((s.getD i 0 : UInt8).toNat : Nat) : Int) == 10) = (s.getD i 0 == 10) from byte_eq (n := 10) (by omega), hq, cond_true])
    (by
      show b_S_l1Line_2 s ((s.length - 1 : Nat) : Int) = _
      unfold b_S_l1Line_2
      rw [hw, decide_eq_false (by omega : ¬ (((s.length - 1 : Nat) : Int) < (s.length : Int) - 1)), cond_false])]
  rw [contains_take (by omega)]
  unfold lineP hasEnd
  cases (s.take (s.length - 1)).contains 10
  · simp only [Bool.false_eq_true, if_false, Option.bind_some, in_S]; simp [inI]
  · simp

theorem ends_S (s : List UInt8) (h1 : 1 ≤ s.length) (hs : s.length ≤ 4611686018427387904) : f_S_l1Ends s = some ((endP s, ()), ()) := by
  unfold f_S_l1Ends
  have hw : IntKind.wrap .i64 ((s.length : Int) - 1) = ((s.length - 1 : Nat) : Int) := by rw [wrap64 (by omega) (by omega)]; omega
  rw [hw, inB_lt (by omega), cond_true, toNat_cast]
  rw [show ((((s.getD (s.length - 1) 0 : UInt8).toNat : Nat) : Int) == 10) = (s.getD (s.length - 1) 0 == 10) from byte_eq (n := 10) (by omega)]
  unfold endP
  rw [List.drop_eq_getElem_cons (by omega : s.length - 1 < s.length), List.drop_of_length_le (by omega), getD_of (by omega)]
  simp

theorem line_I (s : List UInt8) (hs : s.length ≤ 4611686018427387904) : f_I_isLine s = some ((lineP s, ()), ()) := by
  unfold f_I_isLine
  rw [in_I, Option.bind_some]
  dsimp only
  unfold lineP
  cases h : inI (s.length : Int) 1 30
  · unfold inI at h; rw [h]; rfl
  · have h' := h
    unfold inI at h'
    rw [h', cond_true]
    simp only [Bool.and_eq_true, decide_eq_true_eq] at h'
    rw [wrap64 (by omega) (by omega)]
    rw [show cutB 0 ((s.length : Int) - 1) s.length = true from by unfold cutB; simp; omega, cond_true]
    unfold f_strings_Contains containsF
    rw [Option.bind_some]
    unfold hasEnd cutL
    rw [show ((s.length : Int) - 1).toNat = s.length - 1 from by omega]
    simp

theorem ends_I (s : List UInt8) (hs : s.length ≤ 4611686018427387904) : f_I_isEnded s = some ((endP s, ()), ()) := by
  unfold f_I_isEnded f_strings_HasSuffix f_internal_stringslite_HasSuffix endP
  by_cases h : 1 ≤ s.length
  · rw [decide_eq_true (by simp; omega : (s.length : Int) ≥ (([10] : List UInt8).length : Int)), cond_true]
    have hw : IntKind.wrap .i64 ((s.length : Int) - (([10] : List UInt8).length : Int)) = ((s.length - 1 : Nat) : Int) := by
      rw [show ((([10] : List UInt8).length : Nat) : Int) = 1 from rfl, wrap64 (by omega) (by omega)]; omega
    rw [hw, show cutB ((s.length - 1 : Nat) : Int) (s.length : Int) s.length = true from by unfold cutB; simp, cond_true]
    unfold cutL
    simp
  · have : s = [] := List.eq_nil_of_length_eq_zero (by omega)
    subst this
    rfl

/-- Lines, each by itself, and not too many. -/
def linesP (l : List (List UInt8)) : Bool := decide (l.length ≤ 40) && !(l.any fun s => !lineP s)
def endsP (l : List (List UInt8)) : Bool := !(anyN l.length fun k => decide ((k : Int) < (l.length : Int) - 1) && !(endP (l.getD k [])))
def goodP (l : List (List UInt8)) : Bool := linesP l && endsP l

def Sm (l : List (List UInt8)) : Prop := l.length ≤ 4611686018427387904 ∧ ∀ s ∈ l, s.length ≤ 4611686018427387904

theorem Sm.len {l : List (List UInt8)} (h : Sm l) : l.length ≤ 4611686018427387904 := h.1
theorem Sm.mem {l : List (List UInt8)} (h : Sm l) {i : Nat} (hi : i < l.length) : (l[i]).length ≤ 4611686018427387904 := h.2 _ (List.getElem_mem hi)
theorem Sm.of {l : List (List UInt8)} {n : Nat} (h : tot (.slice 9 .str) l ≤ n) (hn : n ≤ 4611686018427387904) : Sm l := by
  refine ⟨?_, fun s hs => ?_⟩
  · have h' := h
    rw [tot_slice] at h'
    omega
  · obtain ⟨i, hi, rfl⟩ := List.mem_iff_getElem.1 hs
    have := Nat.le_trans (tot_mem (e := 9) (t := .str) (xs := l) hi) h
    rw [tot_str] at this
    omega

theorem areLines_I (t0 : List (List UInt8)) (hs : Sm t0) : f_I_areLines t0 = some ((linesP t0, ()), ()) := by
  unfold f_I_areLines linesP
  by_cases hl : t0.length ≤ 40
  · rw [decide_eq_true (by omega : (t0.length : Int) ≤ 40), cond_true, decide_eq_true hl, Bool.true_and]
    rw [show w_I_areLines_184_2 (t0, false, t0, (t0.length : Int), true, true, t0, t0, false, t0, t0, (t0.length : Int), 0, ()) = _ from
      fix_any (B := fun d => b_I_areLines_184_2 d.1 d.2.1 d.2.2.1 d.2.2.2.1 d.2.2.2.2.1 d.2.2.2.2.2.1 d.2.2.2.2.2.2.1 d.2.2.2.2.2.2.2.1 d.2.2.2.2.2.2.2.2.1 d.2.2.2.2.2.2.2.2.2.1 d.2.2.2.2.2.2.2.2.2.2.1 d.2.2.2.2.2.2.2.2.2.2.2.1 d.2.2.2.2.2.2.2.2.2.2.2.2.1) t0 (fun s => !lineP s)
      (fun i => (t0, false, t0, (t0.length : Int), true, true, t0, t0, false, t0, t0, (t0.length : Int), (i : Int), ())) (fun i => .inr (t0, false, t0, (t0.length : Int), true, true, t0, t0, false, t0, (i : Int), ())) (.inl (t0, false, t0, (t0.length : Int), true, true, t0, t0, false, t0, ()))
      (fun i hi hq => by
        show b_I_areLines_184_2 _ _ _ _ _ _ _ _ _ _ t0 t0.length i = _
        unfold b_I_areLines_184_2 f_I_areLines_1
        rw [decide_eq_true (by omega : (i : Int) < (t0.length : Int)), cond_true, inB_lt hi, cond_true, toNat_cast, getD_of hi, line_I _ (hs.mem hi), Option.bind_some, Option.bind_some]
        dsimp only
        rw [hq, cond_false, wrap64 (by omega) (by omega)]; rfl)
      (fun i hi hq => by
        show b_I_areLines_184_2 _ _ _ _ _ _ _ _ _ _ t0 t0.length i = _
        unfold b_I_areLines_184_2 f_I_areLines_1
        rw [decide_eq_true (by omega : (i : Int) < (t0.length : Int)), cond_true, inB_lt hi, cond_true, toNat_cast, getD_of hi, line_I _ (hs.mem hi), Option.bind_some, Option.bind_some]
        dsimp only
        rw [hq, cond_true])
      (by
        show b_I_areLines_184_2 _ _ _ _ _ _ _ _ _ _ t0 t0.length t0.length = _
        unfold b_I_areLines_184_2
        rw [decide_eq_false (Int.lt_irrefl _), cond_false])]
    cases h : t0.any fun s => !lineP s
    · rfl
    · simp
  · rw [decide_eq_false (by omega : ¬ (t0.length : Int) ≤ 40), cond_false, decide_eq_false hl]; rfl

theorem goodLines_I (t0 : List (List UInt8)) (hs : Sm t0) : f_I_goodLines t0 = some ((goodP t0, ()), ()) := by
  have hl := hs.len
  unfold f_I_goodLines goodP
  rw [areLines_I t0 hs, Option.bind_some]
  dsimp only
  cases linesP t0
  · rfl
  · rw [Bool.not_true, cond_false]
    have hw : IntKind.wrap .i64 ((t0.length : Int) - 1) = (t0.length : Int) - 1 := wrap64 (by omega) (by omega)
    have hr : ∀ i, i < t0.length → ((bif decide ((i : Int) < (t0.length : Int) - 1) then (f_I_isEnded (t0.getD i [])).bind fun r7 => some (t0, t0, (t0.length : Int), (i : Int), !r7.1.1, ()) else some (t0, t0, (t0.length : Int), (i : Int), false, ())) : Option (PV S_string × PV S_string × Int × Int × Bool × Unit)) =
        some (t0, t0, (t0.length : Int), (i : Int), decide ((i : Int) < (t0.length : Int) - 1) && !(endP (t0.getD i [])), ()) := by
      intro i hi
      cases decide ((i : Int) < (t0.length : Int) - 1)
      · rfl
      · rw [cond_true, getD_of hi, ends_I _ (hs.mem hi)]; rfl
    rw [show w_I_goodLines_4 (t0, t0, (t0.length : Int), 0, ()) = _ from fix_anyN (B := fun d => b_I_goodLines_4 d.1 d.2.1 d.2.2.1 d.2.2.2.1) t0.length (fun k => decide ((k : Int) < (t0.length : Int) - 1) && !(endP (t0.getD k [])))
      (fun i => (t0, t0, (t0.length : Int), (i : Int), ())) (fun _ => .inr (false, ())) (.inl ())
      (fun i hi hq => by
        show b_I_goodLines_4 t0 t0 t0.length i = _
        unfold b_I_goodLines_4
        rw [decide_eq_true (by omega : (i : Int) < (t0.length : Int)), cond_true, inB_lt hi, cond_true, toNat_cast, hw, hr i hi, hq, Option.bind_some]
        dsimp only
        rw [cond_false, wrap64 (by omega) (by omega)]; rfl)
      (fun i hi hq => by
        show b_I_goodLines_4 t0 t0 t0.length i = _
        unfold b_I_goodLines_4
        rw [decide_eq_true (by omega : (i : Int) < (t0.length : Int)), cond_true, inB_lt hi, cond_true, toNat_cast, hw, hr i hi, hq, Option.bind_some]
        rfl)
      (by
        show b_I_goodLines_4 t0 t0 t0.length t0.length = _
        unfold b_I_goodLines_4
        rw [decide_eq_false (Int.lt_irrefl _), cond_false])]
    unfold endsP
    cases anyN t0.length fun k => decide ((k : Int) < (t0.length : Int) - 1) && !(endP (t0.getD k [])) <;> rfl

theorem l5Lines_S (t0 : List (List UInt8)) (hs : Sm t0) : f_S_l5Lines t0 = some ((goodP t0, ()), ()) := by
  have hl := hs.len
  unfold f_S_l5Lines
  have hw : IntKind.wrap .i64 ((t0.length : Int) - 1) = (t0.length : Int) - 1 := wrap64 (by omega) (by omega)
  have hr : ∀ i, i < t0.length → (((f_S_l1Line (t0.getD i [])).bind fun r4 => bif !r4.1.1 then some (t0, t0, (t0.length : Int), (i : Int), true, ()) else
      bif decide ((i : Int) < (t0.length : Int) - 1) then (f_S_l1Ends (t0.getD i [])).bind fun r5 => some (t0, t0, (t0.length : Int), (i : Int), !r5.1.1, ()) else some (t0, t0, (t0.length : Int), (i : Int), false, ())) : Option (PV S_string × PV S_string × Int × Int × Bool × Unit)) =
      some (t0, t0, (t0.length : Int), (i : Int), !(lineP (t0.getD i [])) || (decide ((i : Int) < (t0.length : Int) - 1) && !(endP (t0.getD i []))), ()) := by
    intro i hi
    rw [getD_of hi, line_S _ (hs.mem hi), Option.bind_some]
    dsimp only
    cases hL : lineP t0[i]
    · rfl
    · rw [Bool.not_true, cond_false, Bool.false_or]
      cases decide ((i : Int) < (t0.length : Int) - 1)
      · rfl
      · rw [cond_true, ends_S _ (line_len hL).1 (hs.mem hi)]; rfl
  rw [show w_S_l5Lines_2 (t0, t0, (t0.length : Int), 0, ()) = _ from fix_anyN (B := fun d => b_S_l5Lines_2 d.1 d.2.1 d.2.2.1 d.2.2.2.1) t0.length (fun k => !(lineP (t0.getD k [])) || (decide ((k : Int) < (t0.length : Int) - 1) && !(endP (t0.getD k []))))
      (fun i => (t0, t0, (t0.length : Int), (i : Int), ())) (fun _ => .inr (false, ())) (.inl (t0, ()))
      (fun i hi hq => by
        show b_S_l5Lines_2 t0 t0 t0.length i = _
        unfold b_S_l5Lines_2
        rw [decide_eq_true (by omega : (i : Int) < (t0.length : Int)), cond_true, inB_lt hi, cond_true, toNat_cast, hw, hr i hi, hq, Option.bind_some]
        dsimp only
        rw [cond_false, wrap64 (by omega) (by omega)]; rfl)
      (fun i hi hq => by
        show b_S_l5Lines_2 t0 t0 t0.length i = _
        unfold b_S_l5Lines_2
        rw [decide_eq_true (by omega : (i : Int) < (t0.length : Int)), cond_true, inB_lt hi, cond_true, toNat_cast, hw, hr i hi, hq, Option.bind_some]
        rfl)
      (by
        show b_S_l5Lines_2 t0 t0 t0.length t0.length = _
        unfold b_S_l5Lines_2
        rw [decide_eq_false (Int.lt_irrefl _), cond_false])]
  rw [anyN_or, show (anyN t0.length fun k => !(lineP (t0.getD k []))) = t0.any fun s => !lineP s from anyN_list (f := fun s => !lineP s)]
  unfold goodP linesP endsP
  cases t0.any fun s => !lineP s
  · cases anyN t0.length fun k => decide ((k : Int) < (t0.length : Int) - 1) && !(endP (t0.getD k []))
    · simp; omega
    · simp
  · simp
theorem l1Good_S (t0 : List (List UInt8)) (hs : Sm t0) : f_S_l1Good t0 = some ((goodP t0, ()), ()) := by
  have hl := hs.len
  unfold f_S_l1Good
  have hw : IntKind.wrap .i64 ((t0.length : Int) - 1) = (t0.length : Int) - 1 := wrap64 (by omega) (by omega)
  have hr : ∀ i, i < t0.length → (((f_S_l1Line (t0.getD i [])).bind fun r4 => bif !r4.1.1 then some (t0, t0, (t0.length : Int), (i : Int), true, ()) else
      bif decide ((i : Int) < (t0.length : Int) - 1) then (f_S_l1Ends (t0.getD i [])).bind fun r5 => some (t0, t0, (t0.length : Int), (i : Int), !r5.1.1, ()) else some (t0, t0, (t0.length : Int), (i : Int), false, ())) : Option (PV S_string × PV S_string × Int × Int × Bool × Unit)) =
      some (t0, t0, (t0.length : Int), (i : Int), !(lineP (t0.getD i [])) || (decide ((i : Int) < (t0.length : Int) - 1) && !(endP (t0.getD i []))), ()) := by
    intro i hi
    rw [getD_of hi, line_S _ (hs.mem hi), Option.bind_some]
    dsimp only
    cases hL : lineP t0[i]
    · rfl
    · rw [Bool.not_true, cond_false, Bool.false_or]
      cases decide ((i : Int) < (t0.length : Int) - 1)
      · rfl
      · rw [cond_true, ends_S _ (line_len hL).1 (hs.mem hi)]; rfl
  rw [show w_S_l1Good_2 (t0, t0, (t0.length : Int), 0, ()) = _ from fix_anyN (B := fun d => b_S_l1Good_2 d.1 d.2.1 d.2.2.1 d.2.2.2.1) t0.length (fun k => !(lineP (t0.getD k [])) || (decide ((k : Int) < (t0.length : Int) - 1) && !(endP (t0.getD k []))))
      (fun i => (t0, t0, (t0.length : Int), (i : Int), ())) (fun _ => .inr (false, ())) (.inl (t0, ()))
      (fun i hi hq => by
        show b_S_l1Good_2 t0 t0 t0.length i = _
        unfold b_S_l1Good_2
        rw [decide_eq_true (by omega : (i : Int) < (t0.length : Int)), cond_true, inB_lt hi, cond_true, toNat_cast, hw, hr i hi, hq, Option.bind_some]
        dsimp only
        rw [cond_false, wrap64 (by omega) (by omega)]; rfl)
      (fun i hi hq => by
        show b_S_l1Good_2 t0 t0 t0.length i = _
        unfold b_S_l1Good_2
        rw [decide_eq_true (by omega : (i : Int) < (t0.length : Int)), cond_true, inB_lt hi, cond_true, toNat_cast, hw, hr i hi, hq, Option.bind_some]
        rfl)
      (by
        show b_S_l1Good_2 t0 t0 t0.length t0.length = _
        unfold b_S_l1Good_2
        rw [decide_eq_false (Int.lt_irrefl _), cond_false])]
  rw [anyN_or, show (anyN t0.length fun k => !(lineP (t0.getD k []))) = t0.any fun s => !lineP s from anyN_list (f := fun s => !lineP s)]
  unfold goodP linesP endsP
  cases t0.any fun s => !lineP s
  · cases anyN t0.length fun k => decide ((k : Int) < (t0.length : Int) - 1) && !(endP (t0.getD k []))
    · simp; omega
    · simp
  · simp
end R
end

section
/- Good hunks: both sides answer the same. -/
open Go Go.Dn
namespace R
set_option linter.unusedVariables false

abbrev H0 : PV Y_impl_Hunk := dflt Y_impl_Hunk
def badH (many : Int) (x : PV Y_impl_Hunk) : Bool :=
  !(inI x.1 0 many) || (!(inI x.2.1 0 (IntKind.wrap .i64 (many - x.1))) || (!(linesP x.2.2.1) || ((x.2.1 == 0) && ((List.length x.2.2.1 : Int) == 0))))
def badP (h : List (PV Y_impl_Hunk)) (k : Nat) : Bool :=
  decide ((k : Int) > 0) && decide ((h.getD k H0).1 ≤ IntKind.wrap .i64 ((h.getD (k - 1) H0).1 + (h.getD (k - 1) H0).2.1))
def badK (many : Int) (h : List (PV Y_impl_Hunk)) (k : Nat) : Bool := badH many (h.getD k H0) || badP h k
def hunksP (many : Int) (h : List (PV Y_impl_Hunk)) : Bool := inI many 0 40 && (decide (h.length ≤ 20) && !(anyN h.length (badK many h)))

def SmH (h : List (PV Y_impl_Hunk)) : Prop := h.length ≤ 4611686018427387904 ∧ ∀ x ∈ h, Sm x.2.2.1
theorem SmH.len {h : List (PV Y_impl_Hunk)} (hs : SmH h) : h.length ≤ 4611686018427387904 := hs.1
theorem SmH.mem {h : List (PV Y_impl_Hunk)} (hs : SmH h) {i : Nat} (hi : i < h.length) : Sm (h.getD i H0).2.2.1 := by
  rw [getD_of hi]
  exact hs.2 _ (List.getElem_mem hi)
theorem SmH.of {e : TypeId} {h : List (PV Y_impl_Hunk)} {n : Nat} (hs : tot (.slice e Y_impl_Hunk) h ≤ n) (hn : n ≤ 4611686018427387904) : SmH h := by
  refine ⟨?_, fun x hx => ?_⟩
  · have h' := hs
    rw [tot_slice] at h'
    omega
  · obtain ⟨i, hi, rfl⟩ := List.mem_iff_getElem.1 hx
    have := Nat.le_trans (tot_mem (e := e) (t := Y_impl_Hunk) (xs := h) hi) hs
    refine Sm.of (n := n) ?_ hn
    simp only [tot] at this ⊢
    omega

theorem stepH_I (many : Int) (h : List (PV Y_impl_Hunk)) (hs : SmH h) {i : Nat} (hi : i < h.length) :
    b_I_goodHunks_4 many h h h.length i = some (if badK many h i then .inr (.inr (false, ())) else .inl (many, h, h, (h.length : Int), (i : Int) + 1, ())) := by
  have hl := hs.len
  have hm := hs.mem hi
  unfold b_I_goodHunks_4
  rw [decide_eq_true (by omega : (i : Int) < (h.length : Int)), cond_true, inB_lt hi, cond_true, toNat_cast]
  unfold badK badP
  generalize hx : h.getD i H0 = x at *
  rw [in_I, in_I, areLines_I _ hm, Option.bind_some, Option.bind_some]
  unfold badH inI
  dsimp only
  cases decide (x.1 ≥ 0) && decide (x.1 ≤ many)
  · rfl
  · cases decide (x.2.1 ≥ 0) && decide (x.2.1 ≤ IntKind.wrap .i64 (many - x.1))
    · rfl
    · cases linesP x.2.2.1
      · rfl
      · simp only [Bool.not_true, cond_false, Option.bind_some, Bool.false_or]
        have hb : ((bif x.2.1 == 0 then some (many, h, (i : Int), x, h, (h.length : Int), (i : Int), (List.length x.2.2.1 : Int) == 0, ()) else some (many, h, (i : Int), x, h, (h.length : Int), (i : Int), false, ())) : Option (Int × List (PV Y_impl_Hunk) × Int × PV Y_impl_Hunk × List (PV Y_impl_Hunk) × Int × Int × Bool × Unit)) =
            some (many, h, (i : Int), x, h, (h.length : Int), (i : Int), (x.2.1 == 0) && ((List.length x.2.2.1 : Int) == 0), ()) := by
          cases x.2.1 == 0 <;> rfl
        rw [hb, Option.bind_some]
        dsimp only
        cases (x.2.1 == 0) && ((List.length x.2.2.1 : Int) == 0)
        · simp only [cond_false, Bool.false_or]
          cases i with
          | zero => rw [decide_eq_false (by omega : ¬ (((0 : Nat) : Int) > 0))]; rfl
          | succ j =>
            rw [decide_eq_true (by omega : ((j + 1 : Nat) : Int) > 0), cond_true, show IntKind.wrap .i64 (((j + 1 : Nat) : Int) - 1) = (j : Int) from by rw [wrap64 (by omega) (by omega)]; omega, inB_lt (by omega : j < h.length), cond_true, cond_true, toNat_cast, Option.bind_some, Bool.true_and, Nat.add_sub_cancel]
            dsimp only
            rw [wrap64 (x := ((j + 1 : Nat) : Int) + 1) (by omega) (by omega)]
            cases decide (x.1 ≤ IntKind.wrap .i64 ((h.getD j (dflt Y_impl_Hunk)).1 + (h.getD j (dflt Y_impl_Hunk)).2.1)) <;> rfl
        · rfl

theorem hunks_I (many : Int) (h : List (PV Y_impl_Hunk)) (hs : SmH h) : f_I_goodHunks many h = some ((hunksP many h, ()), ()) := by
  have hl := hs.len
  unfold f_I_goodHunks hunksP
  rw [in_I, Option.bind_some]
  dsimp only
  unfold inI
  cases decide (many ≥ 0) && decide (many ≤ 40)
  · rfl
  · rw [Bool.not_true, cond_false, Option.bind_some]
    dsimp only
    by_cases hn : h.length ≤ 20
    · rw [decide_eq_false (by omega : ¬ ((h.length : Int) > 20)), cond_false, decide_eq_true hn, Bool.true_and, Bool.true_and]
      rw [show w_I_goodHunks_4 (many, h, h, (h.length : Int), 0, ()) = _ from fix_anyN (B := fun d => b_I_goodHunks_4 d.1 d.2.1 d.2.2.1 d.2.2.2.1 d.2.2.2.2.1) h.length (badK many h) (fun i => (many, h, h, (h.length : Int), (i : Int), ())) (fun _ => .inr (false, ())) (.inl ())
        (fun i hi hq => by show b_I_goodHunks_4 many h h h.length i = _; rw [stepH_I many h hs hi, hq]; rfl)
        (fun i hi hq => by show b_I_goodHunks_4 many h h h.length i = _; rw [stepH_I many h hs hi, hq]; rfl)
        (by
          show b_I_goodHunks_4 many h h h.length h.length = _
          unfold b_I_goodHunks_4
          rw [decide_eq_false (Int.lt_irrefl _), cond_false])]
      cases anyN h.length (badK many h) <;> rfl
    · rw [decide_eq_true (by omega : (h.length : Int) > 20), cond_true, decide_eq_false hn]; rfl

def badS (many : Int) (x : PV Y_impl_Hunk) : Bool :=
  decide (x.1 < 0) || (decide (x.2.1 < 0) || (decide (x.2.1 > many) || (decide (x.1 > IntKind.wrap .i64 (many - x.2.1)) || ((IntKind.wrap .i64 (x.2.1 + (List.length x.2.2.1 : Int)) == 0) || decide ((List.length x.2.2.1 : Int) > 40)))))

theorem bad_nums {many A G n : Int} (h0 : 0 ≤ many) (h1 : many ≤ 4611686018427387903) (hn : 0 ≤ n) (hm : n ≤ 4611686018427387904) :
    (decide (A < 0) || (decide (G < 0) || (decide (G > many) || (decide (A > IntKind.wrap .i64 (many - G)) || ((IntKind.wrap .i64 (G + n) == 0) || decide (n > 40)))))) =
      (!(decide (A ≥ 0) && decide (A ≤ many)) || (!(decide (G ≥ 0) && decide (G ≤ IntKind.wrap .i64 (many - A))) || (!(decide (n ≤ 40)) || ((G == 0) && (n == 0))))) := by
  rw [Bool.eq_iff_iff]
  simp only [Bool.or_eq_true, Bool.not_eq_true', decide_eq_true_eq, decide_eq_false_iff_not, beq_iff_eq, Bool.and_eq_false_iff, Bool.and_eq_true]
  by_cases a4 : A ≤ many ∧ 0 ≤ A
  · rw [wrap64 (x := many - A) (by omega) (by omega)]
    by_cases a3 : 0 ≤ G ∧ G ≤ many
    · rw [wrap64 (x := many - G) (by omega) (by omega), wrap64 (x := G + n) (by omega) (by omega)]
      omega
    · constructor
      · intro _; right; left; omega
      · intro _; omega
  · constructor
    · intro _; left; omega
    · intro _
      by_cases a1 : A < 0
      · exact .inl a1
      · by_cases a2 : G < 0
        · exact .inr (.inl a2)
        · by_cases a3 : G > many
          · exact .inr (.inr (.inl a3))
          · right; right; right; left
            rw [wrap64 (x := many - G) (by omega) (by omega)]
            omega

theorem bad_same {many : Int} {x : PV Y_impl_Hunk} (h0 : 0 ≤ many) (h1 : many ≤ 4611686018427387903) (hm : List.length x.2.2.1 ≤ 4611686018427387904) :
    (badS many x || List.any x.2.2.1 fun s => !lineP s) = badH many x := by
  unfold badS badH linesP inI
  have := bad_nums (A := x.1) (G := x.2.1) (n := (List.length x.2.2.1 : Int)) h0 h1 (by omega) (by omega)
  rw [this]
  rw [show decide (List.length x.2.2.1 ≤ 40) = decide ((List.length x.2.2.1 : Int) ≤ 40) from by rw [Bool.eq_iff_iff]; simp; omega]
  cases (decide ((x.1 : Int) ≥ 0) && decide ((x.1 : Int) ≤ many)) <;> cases (decide ((x.2.1 : Int) ≥ 0) && decide ((x.2.1 : Int) ≤ IntKind.wrap .i64 (many - x.1))) <;> cases decide ((List.length x.2.2.1 : Int) ≤ 40) <;>
    cases ((x.2.1 == 0) && ((List.length x.2.2.1 : Int) == 0)) <;> cases (List.any x.2.2.1 fun s => !lineP s) <;> rfl

theorem stepH_S (many : Int) (h : List (PV Y_impl_Hunk)) (hs : SmH h) (h0 : 0 ≤ many) (h1 : many ≤ 4611686018427387903) {i : Nat} (hi : i < h.length) :
    b_S_l2Hunks_2 many h h h.length i = some (if badK many h i then .inr (.inr (false, ())) else .inl (many, h, h, (h.length : Int), (i : Int) + 1, ())) := by
  have hl := hs.len
  have hm := hs.mem hi
  unfold b_S_l2Hunks_2
  rw [decide_eq_true (by omega : (i : Int) < (h.length : Int)), cond_true, inB_lt hi, cond_true, toNat_cast]
  have hq : badK many h i = ((badS many (h.getD i H0) || badP h i) || List.any (h.getD i H0).2.2.1 fun s => !lineP s) := by
    unfold badK
    rw [← bad_same h0 h1 hm.len]
    cases badS many (h.getD i H0) <;> cases badP h i <;> cases List.any (h.getD i H0).2.2.1 fun s => !lineP s <;> rfl
  rw [hq]
  unfold badP
  generalize hx : h.getD i H0 = x at *
  have hr : ∀ f : Bool, (bif f then some (Sum.inr (Sum.inr (false, ()))) else
      (w_S_l2Hunks_7 (many, h, h, (h.length : Int), (i : Int), x.2.2.1, (List.length x.2.2.1 : Int), 0, ())).bind fun x14 =>
            match x14 with
            | .inl l7 =>
              some (.inl (l7.1, l7.2.1, l7.2.2.1, l7.2.2.2.1, (IntKind.wrap .i64 (l7.2.2.2.2.1 + 1)), ()))
            | .inr l8 =>
              some (.inr (.inr (l8.1, ()))) : Option ((PV (.int .i64) × PV S_impl_Hunk × PV S_impl_Hunk × PV (.int .i64) × PV (.int .i64) × Unit) ⊕ ((PV (.int .i64) × PV S_impl_Hunk × Unit) ⊕ (PV .bool × Unit)))) =
      some (if (f || List.any x.2.2.1 fun s => !lineP s) then .inr (.inr (false, ())) else .inl (many, h, h, (h.length : Int), (i : Int) + 1, ())) := by
    intro f
    cases f
    · rw [cond_false, Bool.false_or, show w_S_l2Hunks_7 (many, h, h, (h.length : Int), (i : Int), x.2.2.1, (List.length x.2.2.1 : Int), 0, ()) = _ from
        fix_any (B := fun d => b_S_l2Hunks_7 d.1 d.2.1 d.2.2.1 d.2.2.2.1 d.2.2.2.2.1 d.2.2.2.2.2.1 d.2.2.2.2.2.2.1 d.2.2.2.2.2.2.2.1) x.2.2.1 (fun s => !lineP s) (fun k => (many, h, h, (h.length : Int), (i : Int), x.2.2.1, (List.length x.2.2.1 : Int), (k : Int), ())) (fun _ => .inr (false, ())) (.inl (many, h, h, (h.length : Int), (i : Int), ()))
        (fun k hk hq => by
          have hml := hm.len
          show b_S_l2Hunks_7 many h h h.length i x.2.2.1 (List.length x.2.2.1) k = _
          unfold b_S_l2Hunks_7
          rw [decide_eq_true (by omega : (k : Int) < (List.length x.2.2.1 : Int)), cond_true, inB_lt hk, cond_true, toNat_cast, getD_of hk, line_S _ (hm.mem hk), Option.bind_some]
          dsimp only
          rw [hq, cond_false, wrap64 (by omega) (by omega)]; rfl)
        (fun k hk hq => by
          show b_S_l2Hunks_7 many h h h.length i x.2.2.1 (List.length x.2.2.1) k = _
          unfold b_S_l2Hunks_7
          rw [decide_eq_true (by omega : (k : Int) < (List.length x.2.2.1 : Int)), cond_true, inB_lt hk, cond_true, toNat_cast, getD_of hk, line_S _ (hm.mem hk), Option.bind_some]
          dsimp only
          rw [hq, cond_true])
        (by
          show b_S_l2Hunks_7 many h h h.length i x.2.2.1 (List.length x.2.2.1) (List.length x.2.2.1) = _
          unfold b_S_l2Hunks_7
          rw [decide_eq_false (Int.lt_irrefl _), cond_false])]
      cases List.any x.2.2.1 fun s => !lineP s
      · rw [if_neg (by simp), if_neg (by simp), Option.bind_some]
        dsimp only
        rw [wrap64 (by omega) (by omega)]
      · rfl
    · rfl
  have hb : ∀ j : Bool, ((bif decide ((i : Int) > 0) then bif inB (IntKind.wrap .i64 ((i : Int) - 1)) h.length then bif inB (IntKind.wrap .i64 ((i : Int) - 1)) h.length then
        some (many, h, x, h, (h.length : Int), (i : Int), decide (x.1 ≤ IntKind.wrap .i64 ((h.getD (IntKind.wrap .i64 ((i : Int) - 1)).toNat (dflt Y_impl_Hunk)).1 + (h.getD (IntKind.wrap .i64 ((i : Int) - 1)).toNat (dflt Y_impl_Hunk)).2.1)), ()) else none else none
      else some (many, h, x, h, (h.length : Int), (i : Int), false, ())) : Option ((PV (.int .i64) × PV S_impl_Hunk × PV Y_impl_Hunk × PV S_impl_Hunk × PV (.int .i64) × PV (.int .i64) × PV .bool × Unit))) =
      some (many, h, x, h, (h.length : Int), (i : Int), decide ((i : Int) > 0) && decide (x.1 ≤ IntKind.wrap .i64 ((h.getD (i - 1) H0).1 + (h.getD (i - 1) H0).2.1)), ()) := by
    intro _
    cases i with
    | zero => rw [decide_eq_false (by omega : ¬ (((0 : Nat) : Int) > 0))]; rfl
    | succ j =>
      rw [decide_eq_true (by omega : ((j + 1 : Nat) : Int) > 0), cond_true, show IntKind.wrap .i64 (((j + 1 : Nat) : Int) - 1) = (j : Int) from by rw [wrap64 (by omega) (by omega)]; omega, inB_lt (by omega : j < h.length), cond_true, cond_true, toNat_cast, Bool.true_and, Nat.add_sub_cancel]
  rw [hb true]
  unfold badS
  cases decide (x.1 < 0)
  · rw [cond_false]
    cases decide (x.2.1 < 0)
    · rw [cond_false]
      cases decide (x.2.1 > many)
      · rw [cond_false]
        cases decide (x.1 > IntKind.wrap .i64 (many - x.2.1))
        · rw [cond_false]
          cases (IntKind.wrap .i64 (x.2.1 + (List.length x.2.2.1 : Int)) == 0)
          · rw [cond_false]
            cases decide ((List.length x.2.2.1 : Int) > 40)
            · rw [cond_false, Option.bind_some]
              exact hr _
            · rfl
          · rfl
        · rfl
      · rfl
    · rfl
  · rfl

theorem hunks_S (many : Int) (h : List (PV Y_impl_Hunk)) (hs : SmH h) (h0 : 0 ≤ many) (h1 : many ≤ 4611686018427387903) : f_S_l2Hunks many h = some ((hunksP many h, ()), ()) := by
  have hl := hs.len
  unfold f_S_l2Hunks hunksP
  rw [show w_S_l2Hunks_2 (many, h, h, (h.length : Int), 0, ()) = _ from fix_anyN (B := fun d => b_S_l2Hunks_2 d.1 d.2.1 d.2.2.1 d.2.2.2.1 d.2.2.2.2.1) h.length (badK many h) (fun i => (many, h, h, (h.length : Int), (i : Int), ())) (fun _ => .inr (false, ())) (.inl (many, h, ()))
        (fun i hi hq => by show b_S_l2Hunks_2 many h h h.length i = _; rw [stepH_S many h hs h0 h1 hi, hq]; rfl)
        (fun i hi hq => by show b_S_l2Hunks_2 many h h h.length i = _; rw [stepH_S many h hs h0 h1 hi, hq]; rfl)
        (by
          show b_S_l2Hunks_2 many h h h.length h.length = _
          unfold b_S_l2Hunks_2
          rw [decide_eq_false (Int.lt_irrefl _), cond_false])]
  cases anyN h.length (badK many h)
  · rw [if_neg (by simp), Option.bind_some]
    dsimp only
    rw [in_S, Option.bind_some]
    by_cases hn : h.length ≤ 20
    · rw [decide_eq_true (by omega : (h.length : Int) ≤ 20), cond_true, decide_eq_true hn]
      unfold inI
      cases decide (many ≥ 0) && decide (many ≤ 40) <;> rfl
    · rw [decide_eq_false (by omega : ¬ (h.length : Int) ≤ 20), cond_false, decide_eq_false hn]
      simp
  · rw [if_pos rfl]
    simp
end R
end

section
/- Lines behind hunks: both sides make the same. -/
open Go Go.Dn
namespace R
set_option linter.unusedVariables false

def stepP (l : List (List UInt8)) (a : List (List UInt8) × Int) (x : PV Y_impl_Hunk) : List (List UInt8) × Int := ((a.1 ++ cutL a.2 x.1 l) ++ x.2.2.1, x.1 + x.2.1)
def foldP (l : List (List UInt8)) (h : List (PV Y_impl_Hunk)) : List (List UInt8) × Int := h.foldl (stepP l) ([], 0)
def patchL (l : List (List UInt8)) (h : List (PV Y_impl_Hunk)) : List (List UInt8) := (foldP l h).1 ++ cutL (foldP l h).2 (l.length : Int) l

theorem linesP_len {l : List (List UInt8)} (h : linesP l = true) : l.length ≤ 40 := by
  unfold linesP at h
  simp only [Bool.and_eq_true, decide_eq_true_eq] at h
  exact h.1
theorem goodP_len {l : List (List UInt8)} (h : goodP l = true) : l.length ≤ 40 := by
  unfold goodP at h
  simp only [Bool.and_eq_true] at h
  exact linesP_len h.1

/-- What a good hunk tells. -/
theorem hunk_facts {many : Int} {h : List (PV Y_impl_Hunk)} (hh : hunksP many h = true) : 0 ≤ many ∧ many ≤ 40 ∧ h.length ≤ 20 ∧ ∀ i, i < h.length →
    0 ≤ (h.getD i H0).1 ∧ (h.getD i H0).1 ≤ many ∧ 0 ≤ (h.getD i H0).2.1 ∧ (h.getD i H0).1 + (h.getD i H0).2.1 ≤ many ∧ List.length (h.getD i H0).2.2.1 ≤ 40 ∧ linesP (h.getD i H0).2.2.1 = true ∧
      (0 < i → (h.getD (i - 1) H0).1 + (h.getD (i - 1) H0).2.1 < (h.getD i H0).1) := by
  unfold hunksP inI at hh
  simp only [Bool.and_eq_true, decide_eq_true_eq, Bool.not_eq_true'] at hh
  obtain ⟨⟨h0, h1⟩, h2, h3⟩ := hh
  have hq : ∀ i, i < h.length → badK many h i = false := fun i hi => by
    cases hb : badK many h i with
    | false => rfl
    | true => rw [anyN_iff.2 ⟨i, hi, hb⟩] at h3; cases h3
  have h4 : ∀ i, i < h.length → (0 : Int) ≤ (h.getD i H0).1 ∧ ((h.getD i H0).1 : Int) ≤ many ∧ (0 : Int) ≤ (h.getD i H0).2.1 ∧ ((h.getD i H0).1 : Int) + (h.getD i H0).2.1 ≤ many ∧ linesP (h.getD i H0).2.2.1 = true := by
    intro i hi
    have hb := hq i hi
    unfold badK badH inI at hb
    generalize h.getD i H0 = x at *
    obtain ⟨A, G, N, u⟩ := x
    have e : ∀ (A G : Int), (decide (A ≥ 0) && decide (A ≤ many)) = true → (decide (G ≥ 0) && decide (G ≤ IntKind.wrap .i64 (many - A))) = true → 0 ≤ A ∧ A ≤ many ∧ 0 ≤ G ∧ A + G ≤ many := by
      intro A G p q
      simp only [Bool.and_eq_true, decide_eq_true_eq] at p q
      rw [wrap64 (by omega) (by omega)] at q
      omega
    dsimp only at hb ⊢
    simp only [Bool.or_eq_false_iff, Bool.not_eq_false'] at hb
    obtain ⟨⟨b1, b2, b3, _⟩, _⟩ := hb
    obtain ⟨c1, c2, c3, c4⟩ := e A G b1 b2
    exact ⟨c1, c2, c3, c4, b3⟩
  refine ⟨h0, h1, h2, fun i hi => ?_⟩
  obtain ⟨a1, a2, a3, a4, a5⟩ := h4 i hi
  refine ⟨a1, a2, a3, a4, linesP_len a5, a5, fun hpos => ?_⟩
  have hb := hq i hi
  unfold badK badP at hb
  simp only [Bool.or_eq_false_iff] at hb
  have hb := hb.2
  rw [decide_eq_true (by omega : (i : Int) > 0), Bool.true_and, decide_eq_false_iff_not] at hb
  obtain ⟨b1, b2, b3, b4, _⟩ := h4 (i - 1) (by omega)
  have e : ∀ (A P G : Int), 0 ≤ P → 0 ≤ G → P + G ≤ many → many ≤ 40 → ¬ A ≤ IntKind.wrap .i64 (P + G) → P + G < A := by
    intro A P G p1 p2 p3 p4 q
    rw [wrap64 (by omega) (by omega)] at q
    omega
  exact e _ _ _ b1 b3 b4 h1 hb

theorem cut_len {l : List (List UInt8)} {a b : Int} : (cutL a b l).length ≤ l.length := by
  unfold cutL
  simp
  omega
theorem cut_mem {l : List (List UInt8)} {a b : Int} {s : List UInt8} (h : s ∈ cutL a b l) : s ∈ l := List.mem_of_mem_take (List.mem_of_mem_drop h)

def InvP (l : List (List UInt8)) (h : List (PV Y_impl_Hunk)) (i : Nat) (a : List (List UInt8) × Int) : Prop :=
  a.1.length ≤ 80 * i ∧ 0 ≤ a.2 ∧ a.2 ≤ (l.length : Int) ∧ (i = 0 → a.2 = 0) ∧ (0 < i → a.2 = (h.getD (i - 1) H0).1 + (h.getD (i - 1) H0).2.1) ∧ ∀ s ∈ a.1, s.length ≤ 4611686018427387904

theorem inv_next {l : List (List UInt8)} {h : List (PV Y_impl_Hunk)} (hl : Sm l) (hh : SmH h) (hg : hunksP (l.length : Int) h = true) {i : Nat} (hi : i < h.length) {a : List (List UInt8) × Int} (hI : InvP l h i a) :
    InvP l h (i + 1) (stepP l a h[i]) ∧ 0 ≤ a.2 ∧ a.2 ≤ (h[i].1 : Int) ∧ (h[i].1 : Int) ≤ l.length ∧ 0 ≤ (h[i].2.1 : Int) ∧ (h[i].1 : Int) + h[i].2.1 ≤ l.length ∧ List.length h[i].2.2.1 ≤ 40 ∧ a.1.length ≤ 1600 ∧ l.length ≤ 40 := by
  obtain ⟨f1, f2, f3, f4⟩ := hunk_facts hg
  have f5 := f4 i hi
  rw [getD_of hi] at f5
  obtain ⟨g1, g2, g3, g4, g5, g6, g7⟩ := f5
  obtain ⟨i1, i2, i3, i4, i5, i6⟩ := hI
  have hat : ∀ A : Int, A = h[i].1 → a.2 ≤ A := by
    intro A hA
    rcases Nat.eq_zero_or_pos i with h0 | hp
    · rw [i4 h0, hA]; exact g1
    · rw [i5 hp, hA]; exact Int.le_of_lt (g7 hp)
  have hat := hat _ rfl
  have hc : (cutL a.2 h[i].1 l).length ≤ 40 := Nat.le_trans cut_len (by omega)
  refine ⟨⟨?_, ?_, ?_, fun h => by omega, fun _ => ?_, ?_⟩, i2, hat, g2, g3, g4, g5, by omega, by omega⟩
  · show ((a.1 ++ cutL a.2 h[i].1 l) ++ h[i].2.2.1).length ≤ 80 * (i + 1)
    rw [List.length_append, List.length_append]
    omega
  · exact Int.add_nonneg g1 g3
  · exact g4
  · rw [Nat.add_sub_cancel, getD_of hi]; rfl
  · intro s hs
    rcases List.mem_append.1 hs with hs | hs
    · rcases List.mem_append.1 hs with hs | hs
      · exact i6 s hs
      · exact hl.2 s (cut_mem hs)
    · exact (hh.2 _ (List.getElem_mem hi)).2 s hs

theorem cutB_ok {a b : Int} {n : Nat} (h0 : 0 ≤ a) (h1 : a ≤ b) (h2 : b ≤ (n : Int)) : cutB a b n = true := by
  unfold cutB
  rw [decide_eq_true h0, decide_eq_true h1, decide_eq_true h2]
  rfl

theorem patch_loop_I {l : List (List UInt8)} {h : List (PV Y_impl_Hunk)} (hl : Sm l) (hh : SmH h) (hg : hunksP (l.length : Int) h = true) :
    w_I_patched_3 (l, ([] : List (List UInt8)), 0, h, (h.length : Int), 0, ()) = some (l, (foldP l h).1, (foldP l h).2, ()) ∧ InvP l h h.length (foldP l h) := by
  have := fix_fold (B := fun d => b_I_patched_3 d.1 d.2.1 d.2.2.1 d.2.2.2.1 d.2.2.2.2.1 d.2.2.2.2.2.1) h (stepP l) (fun a i => (l, a.1, a.2, h, (h.length : Int), (i : Int), ())) (fun a => (l, a.1, a.2, ())) (InvP l h)
    (fun i hi a hI => by
      obtain ⟨q0, q1, q2, q3, q4, q5, q6, q7, q8⟩ := inv_next hl hh hg hi hI
      refine ⟨q0, ?_⟩
      show b_I_patched_3 l a.1 a.2 h h.length i = _
      have hlen := hh.len
      unfold b_I_patched_3
      rw [decide_eq_true (by omega : (i : Int) < (h.length : Int)), cond_true, inB_lt hi, cond_true, toNat_cast, getD_of hi]
      have hc : (cutL a.2 h[i].1 l).length ≤ 40 := Nat.le_trans cut_len q8
      rw [cutB_ok q1 q2 q3, cond_true, roomB_ok (by omega), cond_true, roomB_ok (by rw [List.length_append]; omega), cond_true]
      have e : ∀ A G : Int, 0 ≤ A → 0 ≤ G → A + G ≤ (l.length : Int) → IntKind.wrap .i64 (A + G) = A + G := fun A G p1 p2 p3 => wrap64 (by omega) (by omega)
      rw [e _ _ (Int.le_trans q1 q2) q4 q5, wrap64 (by omega) (by omega)]
      simp [stepP])
    (fun a _ => by
      show b_I_patched_3 l a.1 a.2 h h.length h.length = _
      unfold b_I_patched_3
      rw [decide_eq_false (Int.lt_irrefl _), cond_false]) ([], 0) ⟨by simp, Int.le_refl _, by simp, fun _ => rfl, fun h => by omega, fun s hs => by cases hs⟩
  exact this

theorem patch_loop_S {l : List (List UInt8)} {h : List (PV Y_impl_Hunk)} (hl : Sm l) (hh : SmH h) (hg : hunksP (l.length : Int) h = true) :
    w_S_l2Patch_4 (l, ([] : List (List UInt8)), 0, h, (h.length : Int), 0, ()) = some (l, (foldP l h).1, (foldP l h).2, ()) := by
  have := fix_fold (B := fun d => b_S_l2Patch_4 d.1 d.2.1 d.2.2.1 d.2.2.2.1 d.2.2.2.2.1 d.2.2.2.2.2.1) h (stepP l) (fun a i => (l, a.1, a.2, h, (h.length : Int), (i : Int), ())) (fun a => (l, a.1, a.2, ())) (InvP l h)
    (fun i hi a hI => by
      obtain ⟨q0, q1, q2, q3, q4, q5, q6, q7, q8⟩ := inv_next hl hh hg hi hI
      refine ⟨q0, ?_⟩
      show b_S_l2Patch_4 l a.1 a.2 h h.length i = _
      have hlen := hh.len
      unfold b_S_l2Patch_4
      rw [decide_eq_true (by omega : (i : Int) < (h.length : Int)), cond_true, inB_lt hi, cond_true, toNat_cast, getD_of hi]
      have hc : (cutL a.2 h[i].1 l).length ≤ 40 := Nat.le_trans cut_len q8
      rw [cutB_ok q1 q2 q3, cond_true, roomB_ok (by omega), cond_true, roomB_ok (by rw [List.length_append]; omega), cond_true]
      have e : ∀ A G : Int, 0 ≤ A → 0 ≤ G → A + G ≤ (l.length : Int) → IntKind.wrap .i64 (A + G) = A + G := fun A G p1 p2 p3 => wrap64 (by omega) (by omega)
      rw [e _ _ (Int.le_trans q1 q2) q4 q5, wrap64 (by omega) (by omega)]
      simp [stepP])
    (fun a _ => by
      show b_S_l2Patch_4 l a.1 a.2 h h.length h.length = _
      unfold b_S_l2Patch_4
      rw [decide_eq_false (Int.lt_irrefl _), cond_false]) ([], 0) ⟨by simp, Int.le_refl _, by simp, fun _ => rfl, fun h => by omega, fun s hs => by cases hs⟩
  exact this.1

theorem patched_I {l : List (List UInt8)} {h : List (PV Y_impl_Hunk)} (hl : Sm l) (hh : SmH h) (hg : hunksP (l.length : Int) h = true) :
    f_I_patched l h = some ((patchL l h, ()), ()) ∧ Sm (patchL l h) ∧ (patchL l h).length ≤ 1640 := by
  obtain ⟨h1, h2⟩ := patch_loop_I hl hh hg
  obtain ⟨f1, f2, f3, _⟩ := hunk_facts hg
  obtain ⟨i1, i2, i3, _, _, i6⟩ := h2
  have hc : (cutL (foldP l h).2 (l.length : Int) l).length ≤ 40 := Nat.le_trans cut_len (by omega)
  refine ⟨?_, ⟨?_, fun s hs => ?_⟩, ?_⟩
  · unfold f_I_patched
    rw [h1, Option.bind_some]
    dsimp only
    rw [cutB_ok i2 i3 (Int.le_refl _), cond_true, roomB_ok (by omega), cond_true]
    rfl
  · unfold patchL; rw [List.length_append]; omega
  · rcases List.mem_append.1 hs with hs | hs
    · exact i6 s hs
    · exact hl.2 s (cut_mem hs)
  · unfold patchL; rw [List.length_append]; omega

theorem patched_S {l : List (List UInt8)} {h : List (PV Y_impl_Hunk)} (hl : Sm l) (hh : SmH h) (hg : hunksP (l.length : Int) h = true) : f_S_l2Patch l h = some ((patchL l h, ()), ()) := by
  obtain ⟨_, h2⟩ := patch_loop_I hl hh hg
  obtain ⟨f1, f2, f3, _⟩ := hunk_facts hg
  obtain ⟨i1, i2, i3, _, _, i6⟩ := h2
  have hc : (cutL (foldP l h).2 (l.length : Int) l).length ≤ 40 := Nat.le_trans cut_len (by omega)
  unfold f_S_l2Patch
  rw [show w_S_l2Patch_4 (l, [], 0, h, (h.length : Int), 0, ()) = _ from patch_loop_S hl hh hg, Option.bind_some]
  dsimp only
  rw [cutB_ok i2 i3 (Int.le_refl _), cond_true, roomB_ok (by omega), cond_true]
  rfl

/-- What comes of hunks: the lines, if all is good. -/
def patchOk (l : List (List UInt8)) (h : List (PV Y_impl_Hunk)) : Bool := goodP l && (hunksP (l.length : Int) h && goodP (patchL l h))
def patchR (l : List (List UInt8)) (h : List (PV Y_impl_Hunk)) : List (List UInt8) := bif patchOk l h then patchL l h else []

theorem patch_I {l : List (List UInt8)} {h : List (PV Y_impl_Hunk)} (hl : Sm l) (hh : SmH h) : f_I_Patch l h = some ((patchR l h, patchOk l h, ()), ()) := by
  unfold f_I_Patch patchR patchOk
  rw [goodLines_I l hl, Option.bind_some, hunks_I _ h hh]
  dsimp only
  cases goodP l
  · rfl
  · cases hg : hunksP (l.length : Int) h
    · rfl
    · obtain ⟨p1, p2, _⟩ := patched_I hl hh hg
      simp only [Bool.not_true, cond_false, Option.bind_some, p1, goodLines_I _ p2]
      cases goodP (patchL l h) <;> rfl

theorem patch_S {l : List (List UInt8)} {h : List (PV Y_impl_Hunk)} (hl : Sm l) (hh : SmH h) : f_S_Patch l h = some ((patchR l h, patchOk l h, ()), ()) := by
  have hlen := hl.len
  unfold f_S_Patch f_S_l2Asked patchR patchOk
  rw [l1Good_S l hl, Option.bind_some]
  dsimp only
  cases hgl : goodP l
  · rfl
  · have := goodP_len hgl
    rw [cond_true, hunks_S _ h hh (by omega) (by omega), Option.bind_some, Option.bind_some]
    dsimp only
    cases hg : hunksP (l.length : Int) h
    · rfl
    · obtain ⟨_, p2, _⟩ := patched_I hl hh hg
      rw [patched_S hl hh hg, Option.bind_some, l1Good_S _ p2, Option.bind_some]
      simp only [Bool.not_true, cond_false]
      cases goodP (patchL l h) <;> rfl
end R
end

section
/- Groups: both sides test them alike. -/
open Go Go.Dn
namespace R
set_option linter.unusedVariables false

abbrev RW := List (PV Y_impl_Row)
abbrev W0 : PV Y_impl_Row := dflt Y_impl_Row
def kd (rows : RW) (k : Nat) : Int := (rows.getD k W0).1
def badRow (rows : RW) (k : Nat) : Bool :=
  !(inI (kd rows k) 1 3) || (!(lineP (rows.getD k W0).2.1) || (decide ((k : Int) > 0) && ((kd rows k == 2) && (kd rows (k - 1) == 3))))
def chg (rows : RW) (k : Nat) : Bool := !(kd rows k == 1)
def sideL (rows : RW) (c : Int) : List (List UInt8) := (rows.filter fun (r : PV Y_impl_Row) => !(r.1 == c)).map fun r => r.2.1

def SmR (rows : RW) : Prop := rows.length ≤ 1048576 ∧ ∀ r ∈ rows, List.length (r : PV Y_impl_Row).2.1 ≤ 1048576
theorem SmR.line {rows : RW} (h : SmR rows) {k : Nat} (hk : k < rows.length) : List.length (rows.getD k W0).2.1 ≤ 4611686018427387904 := by
  rw [getD_of hk]
  have := h.2 _ (List.getElem_mem hk)
  omega

theorem anyN_succ (n : Nat) (q : Nat → Bool) : anyN (n + 1) q = (anyN n q || q n) := by
  unfold anyN
  rw [List.range_succ, List.any_append]
  simp

theorem side_next {rows : RW} {c : Int} {i : Nat} (hi : i < rows.length) : sideL (rows.take (i + 1)) c = bif !(rows[i].1 == c) then sideL (rows.take i) c ++ [rows[i].2.1] else sideL (rows.take i) c := by
  unfold sideL
  rw [← List.take_append_getElem hi, List.filter_append, List.map_append]
  cases h : (rows[i].1 == c)
  · rw [Bool.not_false, cond_true, List.filter_cons_of_pos (by simp [h])]
    rfl
  · rw [Bool.not_true, cond_false, List.filter_cons_of_neg (by simp [h])]
    simp
theorem side_len {rows : RW} {c : Int} : (sideL rows c).length ≤ rows.length := by
  unfold sideL
  rw [List.length_map]
  exact List.length_filter_le _ _
theorem side_sm {rows : RW} {c : Int} (h : SmR rows) : Sm (sideL rows c) := by
  refine ⟨Nat.le_trans side_len (Nat.le_trans h.1 (by omega)), fun s hs => ?_⟩
  unfold sideL at hs
  obtain ⟨r, hr, rfl⟩ := List.mem_map.1 hs
  exact Nat.le_trans (h.2 r ((List.mem_filter.1 hr).1)) (by omega)

theorem sideOf_I {rows : RW} {c : Int} (h : SmR rows) : f_I_sideOf rows c = some ((sideL rows c, ()), ()) := by
  have hl := h.1
  have := fix_all (B := fun d => b_I_sideOf_3 d.1 d.2.1 d.2.2.1 d.2.2.2.1 d.2.2.2.2.1) (fun i => (c, sideL (rows.take i) c, rows, (rows.length : Int), (i : Int), ())) rows.length (r := (sideL rows c, ()))
    (fun i hi => by
      show b_I_sideOf_3 c (sideL (rows.take i) c) rows rows.length i = _
      unfold b_I_sideOf_3
      have hs : (sideL (rows.take i) c).length ≤ 1048576 := Nat.le_trans side_len (by simp; omega)
      rw [decide_eq_true (by omega : (i : Int) < (rows.length : Int)), cond_true, inB_lt hi, cond_true, toNat_cast, getD_of hi, side_next hi]
      cases (rows[i].1 == c)
      · rw [Bool.not_false, cond_true, roomB_ok (by simp; omega), cond_true, Option.bind_some]
        dsimp only
        rw [wrap64 (by omega) (by omega)]
        rfl
      · rw [Bool.not_true, cond_false, Option.bind_some]
        dsimp only
        rw [wrap64 (by omega) (by omega)]
        rfl)
    (by
      show b_I_sideOf_3 c (sideL (rows.take rows.length) c) rows rows.length rows.length = _
      unfold b_I_sideOf_3
      rw [decide_eq_false (Int.lt_irrefl _), cond_false, List.take_length])
  unfold f_I_sideOf
  rw [show w_I_sideOf_3 (c, ([] : PV S_string), rows, (rows.length : Int), 0, ()) = _ from this]
  rfl

theorem old_S {g : PV Y_impl_Group} (h : SmR g.2.2.1) : f_S_l6Old g = some ((sideL g.2.2.1 3, ()), ()) := by
  have hl := h.1
  have := fix_all (B := fun d => b_S_l6Old_3 d.1 d.2.1 d.2.2.1 d.2.2.2.1) (fun i => (sideL (List.take i g.2.2.1) 3, g.2.2.1, (List.length g.2.2.1 : Int), (i : Int), ())) (List.length g.2.2.1) (r := (sideL g.2.2.1 3, ()))
    (fun i hi => by
      show b_S_l6Old_3 (sideL (List.take i g.2.2.1) 3) g.2.2.1 (List.length g.2.2.1) i = _
      unfold b_S_l6Old_3
      have hs : (sideL (List.take i g.2.2.1) 3).length ≤ 1048576 := Nat.le_trans side_len (by simp; omega)
      rw [decide_eq_true (by omega : (i : Int) < (List.length g.2.2.1 : Int)), cond_true, inB_lt hi, cond_true, toNat_cast, getD_of hi, side_next hi]
      cases (g.2.2.1[i].1 == 3)
      · rw [Bool.not_false, cond_true, roomB_ok (by simp; omega), cond_true, Option.bind_some]
        dsimp only
        rw [wrap64 (by omega) (by omega)]
        rfl
      · rw [Bool.not_true, cond_false, Option.bind_some]
        dsimp only
        rw [wrap64 (by omega) (by omega)]
        rfl)
    (by
      show b_S_l6Old_3 (sideL (List.take (List.length g.2.2.1) g.2.2.1) 3) g.2.2.1 (List.length g.2.2.1) (List.length g.2.2.1) = _
      unfold b_S_l6Old_3
      rw [decide_eq_false (Int.lt_irrefl _), cond_false, List.take_length])
  unfold f_S_l6Old
  rw [show w_S_l6Old_3 ([], g.2.2.1, (List.length g.2.2.1 : Int), 0, ()) = _ from this]
  rfl
theorem new_S {g : PV Y_impl_Group} (h : SmR g.2.2.1) : f_S_l6New g = some ((sideL g.2.2.1 2, ()), ()) := by
  have hl := h.1
  have := fix_all (B := fun d => b_S_l6New_3 d.1 d.2.1 d.2.2.1 d.2.2.2.1) (fun i => (sideL (List.take i g.2.2.1) 2, g.2.2.1, (List.length g.2.2.1 : Int), (i : Int), ())) (List.length g.2.2.1) (r := (sideL g.2.2.1 2, ()))
    (fun i hi => by
      show b_S_l6New_3 (sideL (List.take i g.2.2.1) 2) g.2.2.1 (List.length g.2.2.1) i = _
      unfold b_S_l6New_3
      have hs : (sideL (List.take i g.2.2.1) 2).length ≤ 1048576 := Nat.le_trans side_len (by simp; omega)
      rw [decide_eq_true (by omega : (i : Int) < (List.length g.2.2.1 : Int)), cond_true, inB_lt hi, cond_true, toNat_cast, getD_of hi, side_next hi]
      cases (g.2.2.1[i].1 == 2)
      · rw [Bool.not_false, cond_true, roomB_ok (by simp; omega), cond_true, Option.bind_some]
        dsimp only
        rw [wrap64 (by omega) (by omega)]
        rfl
      · rw [Bool.not_true, cond_false, Option.bind_some]
        dsimp only
        rw [wrap64 (by omega) (by omega)]
        rfl)
    (by
      show b_S_l6New_3 (sideL (List.take (List.length g.2.2.1) g.2.2.1) 2) g.2.2.1 (List.length g.2.2.1) (List.length g.2.2.1) = _
      unfold b_S_l6New_3
      rw [decide_eq_false (Int.lt_irrefl _), cond_false, List.take_length])
  unfold f_S_l6New
  rw [show w_S_l6New_3 ([], g.2.2.1, (List.length g.2.2.1 : Int), 0, ()) = _ from this]
  rfl

theorem prev_eq {rows : RW} {g : PV Y_impl_Group} (hg : g.2.2.1 = rows) {i : Nat} (hi : i < rows.length) (hl : rows.length ≤ 1048576) {x : PV Y_impl_Row} (hx : rows.getD i W0 = x) {c : Bool} :
    ((bif (decide ((i : Int) > 0)) then
        bif (x.1 == 2) then
          bif inB (IntKind.wrap .i64 ((i : Int) - 1)) (List.length g.2.2.1) then
            some (g, c, x, rows, (rows.length : Int), (i : Int), (((List.getD g.2.2.1 (IntKind.wrap .i64 ((i : Int) - 1)).toNat (dflt Y_impl_Row)).1) == 3), ())
          else none
        else some (g, c, x, rows, (rows.length : Int), (i : Int), false, ())
      else some (g, c, x, rows, (rows.length : Int), (i : Int), false, ())) : Option ((PV Y_impl_Group × PV .bool × PV Y_impl_Row × PV S_impl_Row × PV (.int .i64) × PV (.int .i64) × PV .bool × Unit))) =
      some (g, c, x, rows, (rows.length : Int), (i : Int), (decide ((i : Int) > 0) && ((kd rows i == 2) && (kd rows (i - 1) == 3))), ()) := by
  unfold kd
  rw [hx, hg]
  cases i with
  | zero => rw [decide_eq_false (by omega : ¬ (((0 : Nat) : Int) > 0))]; rfl
  | succ j =>
    rw [decide_eq_true (by omega : ((j + 1 : Nat) : Int) > 0), cond_true, Bool.true_and, show IntKind.wrap .i64 (((j + 1 : Nat) : Int) - 1) = (j : Int) from by rw [wrap64 (by omega) (by omega)]; omega, inB_lt (by omega : j < rows.length), toNat_cast, Nat.add_sub_cancel]
    cases (x.1 == 2) <;> rfl

theorem rows_I {g : PV Y_impl_Group} {rows : RW} (hg : g.2.2.1 = rows) (h : SmR rows) :
    w_I_goodGroup_5 (g, false, rows, (rows.length : Int), 0, ()) = some (if anyN rows.length (badRow rows) then .inr (false, ()) else .inl (g, anyN rows.length (chg rows), ())) := by
  have hl := h.1
  have step : ∀ i, i < rows.length → b_I_goodGroup_5 g (anyN i (chg rows)) rows rows.length i = some (if badRow rows i then .inr (.inr (false, ())) else .inl (g, anyN (i + 1) (chg rows), rows, (rows.length : Int), ((i + 1 : Nat) : Int), ())) := by
    intro i hi
    have hln := h.line hi
    unfold b_I_goodGroup_5
    rw [decide_eq_true (by omega : (i : Int) < (rows.length : Int)), cond_true, inB_lt hi, cond_true, toNat_cast, anyN_succ]
    unfold badRow chg
    generalize hx : rows.getD i W0 = x at *
    rw [in_I, Option.bind_some, line_I _ hln, Option.bind_some, prev_eq hg hi hl hx]
    rw [show kd rows i = x.1 from by unfold kd; rw [hx]]
    dsimp only
    unfold inI
    have e : IntKind.wrap .i64 ((i : Int) + 1) = ((i + 1 : Nat) : Int) := by rw [wrap64 (by omega) (by omega)]; omega
    cases decide (x.1 ≥ 1) && decide (x.1 ≤ 3)
    · rfl
    · cases lineP x.2.1
      · rfl
      · simp only [Bool.not_true, cond_false, Option.bind_some, Bool.false_or]
        cases (decide ((i : Int) > 0) && ((x.1 == 2) && (kd rows (i - 1) == 3)))
        · rw [cond_false]
          cases anyN i fun k => !(kd rows k == 1)
          · rw [cond_false, Option.bind_some]
            dsimp only
            rw [e]
            rfl
          · rw [cond_true, Option.bind_some]
            dsimp only
            rw [e]
            rfl
        · rfl
  exact fix_anyN (B := fun d => b_I_goodGroup_5 d.1 d.2.1 d.2.2.1 d.2.2.2.1 d.2.2.2.2.1) rows.length (badRow rows) (fun i => (g, anyN i (chg rows), rows, (rows.length : Int), (i : Int), ())) (fun _ => .inr (false, ())) (.inl (g, anyN rows.length (chg rows), ()))
    (fun i hi hq => by show b_I_goodGroup_5 g (anyN i (chg rows)) rows rows.length i = _; rw [step i hi, hq]; rfl)
    (fun i hi hq => by show b_I_goodGroup_5 g (anyN i (chg rows)) rows rows.length i = _; rw [step i hi, hq]; rfl)
    (by
      show b_I_goodGroup_5 g (anyN rows.length (chg rows)) rows rows.length rows.length = _
      unfold b_I_goodGroup_5
      rw [decide_eq_false (Int.lt_irrefl _), cond_false])

theorem rows_S {g : PV Y_impl_Group} {rows : RW} (hg : g.2.2.1 = rows) (h : SmR rows) :
    w_S_l6Group_3 (g, false, rows, (rows.length : Int), 0, ()) = some (if anyN rows.length (badRow rows) then .inr (false, ()) else .inl (g, anyN rows.length (chg rows), ())) := by
  have hl := h.1
  have step : ∀ i, i < rows.length → b_S_l6Group_3 g (anyN i (chg rows)) rows rows.length i = some (if badRow rows i then .inr (.inr (false, ())) else .inl (g, anyN (i + 1) (chg rows), rows, (rows.length : Int), ((i + 1 : Nat) : Int), ())) := by
    intro i hi
    have hln := h.line hi
    unfold b_S_l6Group_3
    rw [decide_eq_true (by omega : (i : Int) < (rows.length : Int)), cond_true, inB_lt hi, cond_true, toNat_cast, anyN_succ]
    unfold badRow chg
    generalize hx : rows.getD i W0 = x at *
    rw [in_S, Option.bind_some, line_S _ hln, Option.bind_some, prev_eq hg hi hl hx]
    rw [show kd rows i = x.1 from by unfold kd; rw [hx]]
    dsimp only
    unfold inI
    have e : IntKind.wrap .i64 ((i : Int) + 1) = ((i + 1 : Nat) : Int) := by rw [wrap64 (by omega) (by omega)]; omega
    cases decide (x.1 ≥ 1) && decide (x.1 ≤ 3)
    · rfl
    · cases lineP x.2.1
      · rfl
      · simp only [Bool.not_true, cond_false, Option.bind_some, Bool.false_or]
        cases (decide ((i : Int) > 0) && ((x.1 == 2) && (kd rows (i - 1) == 3)))
        · rw [cond_false]
          cases anyN i fun k => !(kd rows k == 1)
          · rw [cond_false, Option.bind_some]
            dsimp only
            rw [e]
            rfl
          · rw [cond_true, Option.bind_some]
            dsimp only
            rw [e]
            rfl
        · rfl
  exact fix_anyN (B := fun d => b_S_l6Group_3 d.1 d.2.1 d.2.2.1 d.2.2.2.1 d.2.2.2.2.1) rows.length (badRow rows) (fun i => (g, anyN i (chg rows), rows, (rows.length : Int), (i : Int), ())) (fun _ => .inr (false, ())) (.inl (g, anyN rows.length (chg rows), ()))
    (fun i hi hq => by show b_S_l6Group_3 g (anyN i (chg rows)) rows rows.length i = _; rw [step i hi, hq]; rfl)
    (fun i hi hq => by show b_S_l6Group_3 g (anyN i (chg rows)) rows rows.length i = _; rw [step i hi, hq]; rfl)
    (by
      show b_S_l6Group_3 g (anyN rows.length (chg rows)) rows rows.length rows.length = _
      unfold b_S_l6Group_3
      rw [decide_eq_false (Int.lt_irrefl _), cond_false])

def goodG (g : PV Y_impl_Group) : Bool :=
  inI g.1 0 999 && (inI g.2.1 0 999 && (inI (List.length g.2.2.1 : Int) 1 80 && (!(anyN (List.length g.2.2.1) (badRow g.2.2.1)) && (anyN (List.length g.2.2.1) (chg g.2.2.1) &&
    (goodP (sideL g.2.2.1 3) && (goodP (sideL g.2.2.1 2) && (decide (IntKind.wrap .i64 (g.1 + ((sideL g.2.2.1 3).length : Int)) ≤ 1000) && decide (IntKind.wrap .i64 (g.2.1 + ((sideL g.2.2.1 2).length : Int)) ≤ 1000))))))))

theorem group_I {g : PV Y_impl_Group} (h : SmR g.2.2.1) : f_I_goodGroup g = some ((goodG g, ()), ()) := by
  unfold f_I_goodGroup goodG f_I_Group_old f_I_Group_fresh
  rw [in_I, in_I, in_I, Option.bind_some, Option.bind_some, Option.bind_some]
  dsimp only
  unfold inI
  cases decide (g.1 ≥ 0) && decide (g.1 ≤ 999)
  · rfl
  · cases decide (g.2.1 ≥ 0) && decide (g.2.1 ≤ 999)
    · rfl
    · cases decide ((List.length g.2.2.1 : Int) ≥ 1) && decide ((List.length g.2.2.1 : Int) ≤ 80)
      · rfl
      · simp only [Bool.not_true, cond_false, Option.bind_some, Bool.true_and]
        rw [rows_I rfl h]
        cases anyN (List.length g.2.2.1) (badRow g.2.2.1)
        · rw [if_neg (by simp), Option.bind_some]
          dsimp only
          rw [sideOf_I h, Option.bind_some, sideOf_I h, Option.bind_some, Option.bind_some, Option.bind_some]
          dsimp only
          rw [goodLines_I _ (side_sm h), Option.bind_some, goodLines_I _ (side_sm h), Option.bind_some]
          dsimp only
          cases anyN (List.length g.2.2.1) (chg g.2.2.1) <;> cases goodP (sideL g.2.2.1 3) <;> cases goodP (sideL g.2.2.1 2) <;> cases decide (IntKind.wrap .i64 (g.1 + ((sideL g.2.2.1 3).length : Int)) ≤ 1000) <;> rfl
        · rfl

theorem group_S {g : PV Y_impl_Group} (h : SmR g.2.2.1) : f_S_l6Group g = some ((goodG g, ()), ()) := by
  unfold f_S_l6Group goodG
  rw [rows_S rfl h]
  cases hb : anyN (List.length g.2.2.1) (badRow g.2.2.1)
  · rw [if_neg (by simp), Option.bind_some]
    dsimp only
    cases hc : anyN (List.length g.2.2.1) (chg g.2.2.1)
    · simp
    · have hpos : 1 ≤ List.length g.2.2.1 := by
        obtain ⟨i, hi, _⟩ := anyN_iff.1 hc
        omega
      rw [cond_true, in_S, in_S, Option.bind_some, Option.bind_some, old_S h, new_S h]
      simp only [Option.bind_some]
      rw [l5Lines_S _ (side_sm h), l5Lines_S _ (side_sm h)]
      simp only [Option.bind_some]
      unfold inI
      rw [decide_eq_true (by omega : (List.length g.2.2.1 : Int) ≥ 1), Bool.true_and]
      cases decide (g.1 ≥ 0) && decide (g.1 ≤ 999) <;> cases decide (g.2.1 ≥ 0) && decide (g.2.1 ≤ 999) <;> cases decide ((List.length g.2.2.1 : Int) ≤ 80) <;> cases goodP (sideL g.2.2.1 3) <;> cases goodP (sideL g.2.2.1 2) <;>
        cases decide (IntKind.wrap .i64 (g.1 + ((sideL g.2.2.1 3).length : Int)) ≤ 1000) <;> cases decide (IntKind.wrap .i64 (g.2.1 + ((sideL g.2.2.1 2).length : Int)) ≤ 1000) <;> rfl
  · simp
end R
end

section
/- Lists of groups: both sides test them alike; groups that lead back. -/
open Go Go.Dn
namespace R
set_option linter.unusedVariables false

abbrev GR := List (PV Y_impl_Group)
abbrev G0 : PV Y_impl_Group := dflt Y_impl_Group
def oldE (x : PV Y_impl_Group) : Int := IntKind.wrap .i64 (x.1 + ((sideL x.2.2.1 3).length : Int))
def newE (x : PV Y_impl_Group) : Int := IntKind.wrap .i64 (x.2.1 + ((sideL x.2.2.1 2).length : Int))
def badGr (g : GR) (k : Nat) : Bool :=
  !(goodG (g.getD k G0)) || (decide ((k : Int) > 0) && (decide ((g.getD k G0).1 < oldE (g.getD (k - 1) G0)) || decide ((g.getD k G0).2.1 < newE (g.getD (k - 1) G0))))
def goodGs (g : GR) : Bool := decide (g.length ≤ 20) && !(anyN g.length (badGr g))
def SmG (g : GR) : Prop := g.length ≤ 1048576 ∧ ∀ x ∈ g, SmR (x : PV Y_impl_Group).2.2.1
theorem SmG.mem {g : GR} (h : SmG g) {i : Nat} (hi : i < g.length) : SmR (g.getD i G0).2.2.1 := by
  rw [getD_of hi]
  exact h.2 _ (List.getElem_mem hi)

theorem stepG_I {g : GR} (hs : SmG g) {i : Nat} (hi : i < g.length) :
    b_I_goodGroups_4 g g g.length i = some (if badGr g i then .inr (.inr (false, ())) else .inl (g, g, (g.length : Int), (i : Int) + 1, ())) := by
  have hl := hs.1
  have hm := hs.mem hi
  unfold b_I_goodGroups_4
  rw [decide_eq_true (by omega : (i : Int) < (g.length : Int)), cond_true, inB_lt hi, cond_true, toNat_cast]
  unfold badGr f_I_Group_old f_I_Group_fresh
  generalize hx : g.getD i G0 = x at *
  rw [group_I hm, Option.bind_some]
  dsimp only
  cases goodG x
  · rfl
  · rw [Bool.not_true, cond_false]
    cases i with
    | zero =>
      rw [decide_eq_false (by omega : ¬ (((0 : Nat) : Int) > 0)), cond_false, Option.bind_some]
      dsimp only
      rw [wrap64 (by omega) (by omega)]
      rfl
    | succ j =>
      have hm' := hs.mem (show j < g.length by omega)
      rw [decide_eq_true (by omega : ((j + 1 : Nat) : Int) > 0), cond_true, show IntKind.wrap .i64 (((j + 1 : Nat) : Int) - 1) = (j : Int) from by rw [wrap64 (by omega) (by omega)]; omega, inB_lt (by omega : j < g.length), cond_true, cond_true, toNat_cast, Nat.add_sub_cancel]
      generalize hy : g.getD j G0 = y at *
      rw [sideOf_I hm', Option.bind_some, Option.bind_some, sideOf_I hm', Option.bind_some, Option.bind_some, cond_true, cond_true]
      dsimp only
      unfold oldE newE
      cases decide (x.1 < IntKind.wrap .i64 (y.1 + ((sideL y.2.2.1 3).length : Int)))
      · rw [cond_false, Option.bind_some]
        dsimp only
        cases decide (x.2.1 < IntKind.wrap .i64 (y.2.1 + ((sideL y.2.2.1 2).length : Int)))
        · rw [cond_false, wrap64 (x := ((j + 1 : Nat) : Int) + 1) (by omega) (by omega)]; rfl
        · rfl
      · rfl

theorem stepG_S {g : GR} (hs : SmG g) {i : Nat} (hi : i < g.length) :
    b_S_l6Good_2 g g g.length i = some (if badGr g i then .inr (.inr (false, ())) else .inl (g, g, (g.length : Int), (i : Int) + 1, ())) := by
  have hl := hs.1
  have hm := hs.mem hi
  unfold b_S_l6Good_2
  rw [decide_eq_true (by omega : (i : Int) < (g.length : Int)), cond_true, inB_lt hi, cond_true, toNat_cast]
  unfold badGr
  generalize hx : g.getD i G0 = x at *
  rw [group_S hm, Option.bind_some]
  dsimp only
  cases goodG x
  · rfl
  · rw [Bool.not_true, cond_false]
    cases i with
    | zero =>
      rw [decide_eq_false (by omega : ¬ (((0 : Nat) : Int) > 0)), cond_false, Option.bind_some]
      dsimp only
      rw [wrap64 (by omega) (by omega)]
      rfl
    | succ j =>
      have hm' := hs.mem (show j < g.length by omega)
      rw [decide_eq_true (by omega : ((j + 1 : Nat) : Int) > 0), cond_true, show IntKind.wrap .i64 (((j + 1 : Nat) : Int) - 1) = (j : Int) from by rw [wrap64 (by omega) (by omega)]; omega, inB_lt (by omega : j < g.length), cond_true, cond_true, toNat_cast, Nat.add_sub_cancel]
      generalize hy : g.getD j G0 = y at *
      rw [old_S hm', Option.bind_some, new_S hm', Option.bind_some, cond_true, cond_true]
      dsimp only
      unfold oldE newE
      cases decide (x.1 < IntKind.wrap .i64 (y.1 + ((sideL y.2.2.1 3).length : Int)))
      · rw [cond_false, Option.bind_some]
        dsimp only
        cases decide (x.2.1 < IntKind.wrap .i64 (y.2.1 + ((sideL y.2.2.1 2).length : Int)))
        · rw [cond_false, wrap64 (x := ((j + 1 : Nat) : Int) + 1) (by omega) (by omega)]; rfl
        · rfl
      · rfl

theorem groups_I {g : GR} (hs : SmG g) : f_I_goodGroups g = some ((goodGs g, ()), ()) := by
  have hl := hs.1
  unfold f_I_goodGroups goodGs
  by_cases hn : g.length ≤ 20
  · rw [decide_eq_false (by omega : ¬ ((g.length : Int) > 20)), cond_false, decide_eq_true hn, Bool.true_and]
    rw [show w_I_goodGroups_4 (g, g, (g.length : Int), 0, ()) = _ from fix_anyN (B := fun d => b_I_goodGroups_4 d.1 d.2.1 d.2.2.1 d.2.2.2.1) g.length (badGr g) (fun i => (g, g, (g.length : Int), (i : Int), ())) (fun _ => .inr (false, ())) (.inl ())
      (fun i hi hq => by show b_I_goodGroups_4 g g g.length i = _; rw [stepG_I hs hi, hq]; rfl)
      (fun i hi hq => by show b_I_goodGroups_4 g g g.length i = _; rw [stepG_I hs hi, hq]; rfl)
      (by
        show b_I_goodGroups_4 g g g.length g.length = _
        unfold b_I_goodGroups_4
        rw [decide_eq_false (Int.lt_irrefl _), cond_false])]
    cases anyN g.length (badGr g) <;> rfl
  · rw [decide_eq_true (by omega : (g.length : Int) > 20), cond_true, decide_eq_false hn]; rfl

theorem groups_S {g : GR} (hs : SmG g) : f_S_l6Good g = some ((goodGs g, ()), ()) := by
  have hl := hs.1
  unfold f_S_l6Good goodGs
  rw [show w_S_l6Good_2 (g, g, (g.length : Int), 0, ()) = _ from fix_anyN (B := fun d => b_S_l6Good_2 d.1 d.2.1 d.2.2.1 d.2.2.2.1) g.length (badGr g) (fun i => (g, g, (g.length : Int), (i : Int), ())) (fun _ => .inr (false, ())) (.inl (g, ()))
      (fun i hi hq => by show b_S_l6Good_2 g g g.length i = _; rw [stepG_S hs hi, hq]; rfl)
      (fun i hi hq => by show b_S_l6Good_2 g g g.length i = _; rw [stepG_S hs hi, hq]; rfl)
      (by
        show b_S_l6Good_2 g g g.length g.length = _
        unfold b_S_l6Good_2
        rw [decide_eq_false (Int.lt_irrefl _), cond_false])]
  cases anyN g.length (badGr g)
  · rw [if_neg (by simp), Option.bind_some]
    dsimp only
    by_cases hn : g.length ≤ 20
    · rw [decide_eq_true (by omega : (g.length : Int) ≤ 20), decide_eq_true hn]; rfl
    · rw [decide_eq_false (by omega : ¬ (g.length : Int) ≤ 20), decide_eq_false hn]; rfl
  · rw [if_pos rfl]; simp

theorem SmG.of {e : TypeId} {g : GR} (h : tot (.slice e Y_impl_Group) g ≤ 1048576) : SmG g := by
  refine ⟨?_, fun x hx => ?_⟩
  · have h' := h
    rw [tot_slice] at h'
    omega
  · have := tot_all h x hx
    refine ⟨?_, fun r hr => ?_⟩
    · simp only [tot] at this
      omega
    · have h2 : tot S_impl_Row x.2.2.1 ≤ 1048576 := by
        simp only [tot] at this ⊢
        omega
      have := tot_all (e := _) h2 r hr
      simp only [tot] at this
      omega
end R
end

section
/- Numbers, ranges and rows as texts: both sides write the same. -/
open Go Go.Dn
namespace R
set_option linter.unusedVariables false

theorem wrap8 {x : Int} (h1 : 0 ≤ x) (h2 : x ≤ 255) : IntKind.wrap .u8 x = x := by
  simp [IntKind.wrap, IntKind.signed, IntKind.bits]
  omega

abbrev dec (n : Nat) : List UInt8 := Lib.decDigits n
theorem dec_len (n : Nat) (h : n ≤ 1000000) : (dec n).length ≤ 21 := by
  have := Lib.itoa_length_le (n : Int) (by omega) (by omega)
  rwa [Lib.itoa_nonneg] at this

theorem dig_one {n : Nat} (h : n < 10) : bytesOfInts [IntKind.wrap .u8 (IntKind.wrap .i64 (48 + (n : Int)))] = [UInt8.ofNat (48 + n)] := by
  rw [wrap64 (by omega) (by omega), wrap8 (by omega) (by omega)]
  show [UInt8.ofNat ((48 + (n : Int)).toNat)] = _
  congr 2

theorem num_n : ∀ (f n : Nat), n < f → n ≤ 1000000 → fn_S_l1Num f (n : Int) = some ((dec n, ()), ())
  | 0, n, h, _ => by omega
  | f + 1, n, h, hb => by
    show fr_S_l1Num (fn_S_l1Num f) (n : Int) = _
    unfold fr_S_l1Num
    by_cases hn : n < 10
    · rw [decide_eq_true (by omega : (n : Int) < 10), cond_true, dig_one hn, show dec n = _ from Lib.decDigits_one hn]
    · rw [decide_eq_false (by omega : ¬ (n : Int) < 10), cond_false, show ((10 : Nat) == 0) = false from rfl, cond_false]
      rw [show (n : Int).tdiv 10 = ((n / 10 : Nat) : Int) from by rw [Int.tdiv_eq_ediv_of_nonneg (by omega)]; omega, show (n : Int).tmod 10 = ((n % 10 : Nat) : Int) from by rw [Int.tmod_eq_emod_of_nonneg (by omega)]; omega]
      rw [wrap64 (x := ((n / 10 : Nat) : Int)) (by omega) (by omega), num_n f (n / 10) (by omega) (by omega), Option.bind_some, cond_false]
      have hl := dec_len (n / 10) (by omega)
      rw [dig_one (by omega)]
      dsimp only
      rw [decide_eq_true (by simp only [List.length_cons, List.length_nil]; omega), cond_true]
      rw [show dec n = dec (n / 10) ++ [UInt8.ofNat (48 + n % 10)] from by
        show Lib.decDigits n = _
        rw [Lib.decDigits, dif_neg hn]]

theorem num_S (n : Nat) (h : n ≤ 1000000) : f_S_l1Num (n : Int) = some ((dec n, ()), ()) := by
  unfold f_S_l1Num
  exact num_n _ n (by simp) h
theorem num_I (n : Nat) (h : n ≤ 1000000) : f_strconv_Itoa (n : Int) = some ((dec n, ()), ()) := by
  unfold f_strconv_Itoa itoaF
  rw [decide_eq_true (by omega), decide_eq_true (by omega : (n : Int) ≤ 9223372036854775807), Lib.itoa_nonneg]
  rfl

def numb (a m : Nat) : Nat := if 0 < m then a + 1 else a
def countT (a m : Nat) : List UInt8 := if m = 1 then dec (numb a m) else dec (numb a m) ++ ([44] ++ dec m)
theorem numb_le {a m : Nat} (h : a ≤ 10000) : numb a m ≤ 10001 := by unfold numb; split <;> omega
theorem countT_len {a m : Nat} (ha : a ≤ 10000) (hm : m ≤ 10000) : (countT a m).length ≤ 43 := by
  have h1 := dec_len (numb a m) (Nat.le_trans (numb_le ha) (by omega))
  have h2 := dec_len m (by omega)
  unfold countT
  split
  · omega
  · simp only [List.length_append, List.length_cons, List.length_nil]; omega

theorem numb_eq (a m : Nat) (ha : a ≤ 10000) : (bif decide ((m : Int) > 0) then some ((IntKind.wrap .i64 ((a : Int) + 1), ()), ()) else some (((a : Int), ()), ()) : Option (PVs [.int .i64] × PVs [])) = some ((((numb a m : Nat) : Int), ()), ()) := by
  unfold numb
  by_cases h : 0 < m
  · rw [decide_eq_true (by omega : (m : Int) > 0), if_pos h, cond_true, wrap64 (by omega) (by omega)]; try rfl
  · rw [decide_eq_false (by omega : ¬ (m : Int) > 0), if_neg h, cond_false]; try rfl
theorem number_S (a m : Nat) (ha : a ≤ 10000) : f_S_l4Number (a : Int) (m : Int) = some ((((numb a m : Nat) : Int), ()), ()) := by unfold f_S_l4Number; exact numb_eq a m ha
theorem number_I (a m : Nat) (ha : a ≤ 10000) : f_I_numberOf (a : Int) (m : Int) = some ((((numb a m : Nat) : Int), ()), ()) := by unfold f_I_numberOf; exact numb_eq a m ha

theorem count_S (a m : Nat) (ha : a ≤ 10000) (hm : m ≤ 10000) : f_S_l4Count (a : Int) (m : Int) = some ((countT a m, ()), ()) := by
  have hn := numb_le (m := m) ha
  have h1 := dec_len (numb a m) (by omega)
  have h2 := dec_len m (by omega)
  unfold f_S_l4Count
  rw [number_S a m ha, Option.bind_some]
  dsimp only
  rw [num_S _ (by omega), Option.bind_some, num_S m (by omega), Option.bind_some]
  dsimp only
  unfold countT
  by_cases h : m = 1
  · rw [show ((m : Int) == 1) = true from by rw [beq_iff_eq]; omega, if_pos h]; rfl
  · rw [show ((m : Int) == 1) = false from by rw [beq_eq_false_iff_ne]; omega, if_neg h, Bool.not_false, cond_true, decide_eq_true (by simp only [List.length_cons, List.length_nil]; omega), cond_true, decide_eq_true (by simp only [List.length_append, List.length_cons, List.length_nil]; omega), cond_true]; rfl
theorem count_I (a m : Nat) (ha : a ≤ 10000) (hm : m ≤ 10000) : f_I_countOf (a : Int) (m : Int) = some ((countT a m, ()), ()) := by
  have hn := numb_le (m := m) ha
  have h1 := dec_len (numb a m) (by omega)
  have h2 := dec_len m (by omega)
  unfold f_I_countOf
  rw [number_I a m ha, Option.bind_some]
  dsimp only
  rw [num_I _ (by omega), Option.bind_some, num_I m (by omega), Option.bind_some]
  dsimp only
  unfold countT
  by_cases h : m = 1
  · rw [show ((m : Int) == 1) = true from by rw [beq_iff_eq]; omega, if_pos h]; rfl
  · rw [show ((m : Int) == 1) = false from by rw [beq_eq_false_iff_ne]; omega, if_neg h, Bool.not_false, cond_true, decide_eq_true (by simp only [List.length_cons, List.length_nil]; omega), cond_true, decide_eq_true (by simp only [List.length_append, List.length_cons, List.length_nil]; omega), cond_true]; rfl

/-! ### rows -/
def none10 : List UInt8 := [10, 92, 32, 110, 111, 110, 101, 10]
def shownT (sg s : List UInt8) : List UInt8 := bif endP s then sg ++ s else (sg ++ s) ++ none10
theorem shownT_len (sg s : List UInt8) : (shownT sg s).length ≤ sg.length + s.length + 8 := by
  unfold shownT none10
  cases endP s
  · simp only [cond_false, List.length_append, List.length_cons, List.length_nil]; omega
  · simp only [cond_true, List.length_append]; omega

theorem shown_S (sg s : List UInt8) (h0 : sg.length ≤ 10) (h1 : 1 ≤ s.length) (h2 : s.length ≤ 100) : f_S_l5Shown sg s = some ((shownT sg s, ()), ()) := by
  unfold f_S_l5Shown shownT none10
  rw [ends_S s h1 (by omega), Option.bind_some]
  dsimp only
  rw [decide_eq_true (by omega), cond_true, cond_true, decide_eq_true (by simp only [List.length_append, List.length_cons, List.length_nil]; omega), cond_true]
  cases endP s <;> rfl
theorem shown_I (sg s : List UInt8) (h0 : sg.length ≤ 10) (h2 : s.length ≤ 100) : f_I_shown sg s = some ((shownT sg s, ()), ()) := by
  unfold f_I_shown shownT none10
  rw [ends_I s (by omega), Option.bind_some]
  dsimp only
  rw [decide_eq_true (by omega), cond_true, cond_true, decide_eq_true (by simp only [List.length_append, List.length_cons, List.length_nil]; omega), cond_true, decide_eq_true (by simp only [List.length_append, List.length_cons, List.length_nil]; omega), cond_true]
  cases endP s
  · rw [cond_false, cond_false, List.append_assoc (sg ++ s)]; rfl
  · rfl

def RowOk (r : PV Y_impl_Row) : Prop := (r.1 = 1 ∨ r.1 = 2 ∨ r.1 = 3) ∧ 1 ≤ List.length r.2.1 ∧ List.length r.2.1 ≤ 30
theorem rowsOk {g : PV Y_impl_Group} (h : goodG g = true) : List.length g.2.2.1 ≤ 80 ∧ ∀ r ∈ (g.2.2.1 : RW), RowOk r := by
  unfold goodG inI at h
  simp only [Bool.and_eq_true, decide_eq_true_eq, Bool.not_eq_true'] at h
  obtain ⟨_, _, ⟨h1, h2⟩, h3, _⟩ := h
  refine ⟨by omega, fun r hr => ?_⟩
  obtain ⟨k, hk, rfl⟩ := List.mem_iff_getElem.1 hr
  have hb : badRow g.2.2.1 k = false := by
    cases hb : badRow g.2.2.1 k with
    | false => rfl
    | true => rw [anyN_iff.2 ⟨k, hk, hb⟩] at h3; cases h3
  unfold badRow inI kd at hb
  rw [getD_of hk] at hb
  simp only [Bool.or_eq_false_iff, Bool.not_eq_false', Bool.and_eq_true, decide_eq_true_eq] at hb
  obtain ⟨⟨b1, b2⟩, b3, _⟩ := hb
  have := line_len b3
  have e : ∀ z : Int, z ≥ 1 → z ≤ 3 → z = 1 ∨ z = 2 ∨ z = 3 := fun z _ _ => by omega
  exact ⟨e _ b1 b2, this.1, this.2⟩

def signT (k : Int) : List UInt8 := cutL k (IntKind.wrap .i64 (k + 1)) [63, 32, 45, 43]
def rowT (r : PV Y_impl_Row) : List UInt8 := shownT (signT r.1) r.2.1
def rowsT (rows : RW) : List UInt8 := rows.flatMap rowT
theorem sign_ok {k : Int} (h : k = 1 ∨ k = 2 ∨ k = 3) : cutB k (IntKind.wrap .i64 (k + 1)) ([63, 32, 45, 43] : List Nat).length = true ∧ (signT k).length = 1 := by
  rcases h with rfl | rfl | rfl <;> exact ⟨by decide, by decide⟩
theorem sign_S {k : Int} (h : k = 1 ∨ k = 2 ∨ k = 3) : f_S_l7Sign k = some ((signT k, ()), ()) := by
  unfold f_S_l7Sign
  rw [(sign_ok h).1]; rfl
theorem sign_I {r : PV Y_impl_Row} (h : r.1 = 1 ∨ r.1 = 2 ∨ r.1 = 3) : f_I_Row_sign r = some ((signT r.1, ()), ()) := by
  unfold f_I_Row_sign
  rw [(sign_ok h).1]; rfl
theorem rowT_len {r : PV Y_impl_Row} (h : RowOk r) : (rowT r).length ≤ 39 := by
  have h1 := shownT_len (signT r.1) r.2.1
  have h2 := (sign_ok h.1).2
  have h3 := h.2.2
  unfold rowT
  omega

theorem foldl_app {α : Type} (f : α → List UInt8) : ∀ (l : List α) (a : List UInt8), l.foldl (fun a r => a ++ f r) a = a ++ l.flatMap f
  | [], a => by simp
  | x :: l, a => by rw [List.foldl_cons, foldl_app f l, List.flatMap_cons, List.append_assoc]

theorem flat_len {α : Type} (f : α → List UInt8) (n : Nat) : ∀ (l : List α), (∀ x ∈ l, (f x).length ≤ n) → (l.flatMap f).length ≤ n * l.length
  | [], _ => by simp
  | x :: l, h => by
    have h1 := h x (List.mem_cons_self ..)
    have h2 := flat_len f n l fun y hy => h y (List.mem_cons_of_mem _ hy)
    rw [List.flatMap_cons, List.length_append, List.length_cons, Nat.mul_add]
    omega

theorem rowsT_len {rows : RW} (hl : rows.length ≤ 80) (hr : ∀ r ∈ rows, RowOk r) : (rowsT rows).length ≤ 3120 := by
  have := flat_len rowT 39 rows fun r h => rowT_len (hr r h)
  unfold rowsT
  omega

theorem rowsText_I {rows : RW} (hl : rows.length ≤ 80) (hr : ∀ r ∈ rows, RowOk r) : f_I_rowsText rows = some ((rowsT rows, ()), ()) := by
  have hf := fix_fold (B := fun d => b_I_rowsText_3 d.1 d.2.1 d.2.2.1 d.2.2.2.1) rows (fun a r => a ++ rowT r) (fun a i => (a, rows, (rows.length : Int), (i : Int), ())) (fun a => (a, ())) (fun i a => a.length ≤ 39 * i)
    (fun i hi a hI => by
      have hx := hr _ (List.getElem_mem hi)
      have ht := rowT_len hx
      refine ⟨by rw [List.length_append]; omega, ?_⟩
      show b_I_rowsText_3 a rows rows.length i = _
      unfold b_I_rowsText_3
      rw [decide_eq_true (by omega : (i : Int) < (rows.length : Int)), cond_true, inB_lt hi, cond_true, toNat_cast, getD_of hi, sign_I hx.1, Option.bind_some, shown_I _ _ (by show (signT rows[i].1).length ≤ _; have := (sign_ok hx.1).2; omega) (by have := hx.2.2; omega), Option.bind_some]
      dsimp only
      rw [show shownT (signT rows[i].1) rows[i].2.1 = rowT rows[i] from rfl, decide_eq_true (by omega), cond_true, wrap64 (by omega) (by omega)]
      rfl)
    (fun a _ => by
      show b_I_rowsText_3 a rows rows.length rows.length = _
      unfold b_I_rowsText_3
      rw [decide_eq_false (Int.lt_irrefl _), cond_false]) [] (Nat.zero_le _)
  unfold f_I_rowsText
  rw [show w_I_rowsText_3 ([], rows, (rows.length : Int), 0, ()) = _ from hf.1, Option.bind_some, foldl_app]
  rfl

def headT (x : PV Y_impl_Group) : List UInt8 :=
  ((([64, 64, 32, 45] ++ countT x.1.toNat (sideL x.2.2.1 3).length) ++ [32, 43]) ++ countT x.2.1.toNat (sideL x.2.2.1 2).length) ++ [32, 64, 64, 10]
def groupT (x : PV Y_impl_Group) : List UInt8 := headT x ++ rowsT x.2.2.1
def textG (g : GR) : List UInt8 := g.flatMap groupT

theorem group_facts {x : PV Y_impl_Group} (h : goodG x = true) : (∃ a : Nat, x.1 = (a : Int) ∧ a ≤ 999) ∧ (∃ b : Nat, x.2.1 = (b : Int) ∧ b ≤ 999) ∧ (sideL x.2.2.1 3).length ≤ 80 ∧ (sideL x.2.2.1 2).length ≤ 80 := by
  obtain ⟨h80, _⟩ := rowsOk h
  unfold goodG inI at h
  simp only [Bool.and_eq_true, decide_eq_true_eq, Bool.not_eq_true'] at h
  obtain ⟨⟨a1, a2⟩, ⟨b1, b2⟩, _⟩ := h
  have e : ∀ z : Int, z ≥ 0 → z ≤ 999 → ∃ a : Nat, z = (a : Int) ∧ a ≤ 999 := fun z _ _ => ⟨z.toNat, by omega, by omega⟩
  refine ⟨e _ a1 a2, e _ b1 b2, Nat.le_trans side_len h80, Nat.le_trans side_len h80⟩
theorem headT_len {x : PV Y_impl_Group} (h : goodG x = true) : (headT x).length ≤ 100 := by
  obtain ⟨⟨a, ea, ha⟩, ⟨b, eb, hb⟩, h3, h4⟩ := group_facts h
  unfold headT
  have c1 := countT_len (a := a) (m := (sideL x.2.2.1 3).length) (by omega) (by omega)
  have c2 := countT_len (a := b) (m := (sideL x.2.2.1 2).length) (by omega) (by omega)
  rw [ea, eb, toNat_cast, toNat_cast]
  simp only [List.length_append, List.length_cons, List.length_nil]
  omega
theorem groupT_len {x : PV Y_impl_Group} (h : goodG x = true) : (groupT x).length ≤ 3220 := by
  have h1 := headT_len h
  have h2 := rowsT_len (rowsOk h).1 (rowsOk h).2
  unfold groupT
  rw [List.length_append]
  omega

theorem good_mem' {g : GR} (hg : goodGs g = true) {i : Nat} (hi : i < g.length) : goodG g[i] = true ∧ g.length ≤ 20 := by
  unfold goodGs at hg
  simp only [Bool.and_eq_true, decide_eq_true_eq, Bool.not_eq_true'] at hg
  obtain ⟨h1, h2⟩ := hg
  refine ⟨?_, h1⟩
  cases hb : goodG g[i] with
  | true => rfl
  | false =>
    have : anyN g.length (badGr g) = true := anyN_iff.2 ⟨i, hi, by unfold badGr; rw [getD_of hi, hb]; rfl⟩
    rw [this] at h2; cases h2

theorem groupsText_I' {g : GR} (hs : SmG g) (hg : goodGs g = true) : f_I_groupsText g = some ((textG g, ()), ()) := by
  have hl := hs.1
  have hf := fix_fold (B := fun d => b_I_groupsText_3 d.1 d.2.1 d.2.2.1 d.2.2.2.1) g (fun a x => a ++ groupT x) (fun a i => (a, g, (g.length : Int), (i : Int), ())) (fun a => (a, ())) (fun i a => a.length ≤ 3220 * i)
    (fun i hi a hI => by
      have hm := hs.2 _ (List.getElem_mem hi)
      obtain ⟨hx, h20⟩ := good_mem' hg hi
      have ht := groupT_len hx
      obtain ⟨⟨p, ep, hp⟩, ⟨q, eq, hq⟩, h3, h4⟩ := group_facts hx
      obtain ⟨r1, r2⟩ := rowsOk hx
      refine ⟨by rw [List.length_append]; omega, ?_⟩
      show b_I_groupsText_3 a g g.length i = _
      unfold b_I_groupsText_3 f_I_Group_old f_I_Group_fresh f_I_headText
      have c1 := countT_len (a := p) (m := (sideL g[i].2.2.1 3).length) (by omega) (by omega)
      have c2 := countT_len (a := q) (m := (sideL g[i].2.2.1 2).length) (by omega) (by omega)
      have hh := headT_len hx
      have hr := rowsT_len r1 r2
      rw [decide_eq_true (by omega : (i : Int) < (g.length : Int)), cond_true, inB_lt hi, cond_true, toNat_cast, getD_of hi, sideOf_I hm, Option.bind_some, Option.bind_some, sideOf_I hm]
      dsimp only
      rw [ep, count_I p _ (by omega) (by omega), Option.bind_some, Option.bind_some, Option.bind_some]
      dsimp only
      rw [eq, count_I q _ (by omega) (by omega), Option.bind_some]
      dsimp only
      rw [decide_eq_true (by simp only [List.length_cons, List.length_nil]; omega), cond_true, decide_eq_true (by simp only [List.length_append, List.length_cons, List.length_nil]; omega), cond_true, decide_eq_true (by simp only [List.length_append, List.length_cons, List.length_nil]; omega), cond_true, decide_eq_true (by simp only [List.length_append, List.length_cons, List.length_nil]; omega), cond_true, Option.bind_some]
      dsimp only
      rw [rowsText_I r1 r2, Option.bind_some]
      dsimp only
      have e : ((([64, 64, 32, 45] ++ countT p (sideL g[i].2.2.1 3).length) ++ [32, 43]) ++ countT q (sideL g[i].2.2.1 2).length) ++ [32, 64, 64, 10] = headT g[i] := by
        unfold headT
        rw [ep, eq, toNat_cast, toNat_cast]
      rw [e, decide_eq_true (by omega), cond_true, decide_eq_true (by rw [List.length_append]; omega), cond_true, wrap64 (by omega) (by omega)]
      rfl)
    (fun a _ => by
      show b_I_groupsText_3 a g g.length g.length = _
      unfold b_I_groupsText_3
      rw [decide_eq_false (Int.lt_irrefl _), cond_false]) [] (Nat.zero_le _)
  unfold f_I_groupsText
  rw [show w_I_groupsText_3 ([], g, (g.length : Int), 0, ()) = _ from hf.1, Option.bind_some, foldl_app]
  rfl

theorem rows_loop_S {rows : RW} (hl : rows.length ≤ 80) (hr : ∀ r ∈ rows, RowOk r) (t3 : List UInt8) (ht3 : t3.length ≤ 1000000) (t8 : PV S_impl_Group) (t9 t10 : Int) :
    w_S_l7Text_7 (t3, t8, t9, t10, rows, (rows.length : Int), 0, ()) = some (t3 ++ rowsT rows, t8, t9, t10, ()) := by
  have hf := fix_fold (B := fun d => b_S_l7Text_7 d.1 d.2.1 d.2.2.1 d.2.2.2.1 d.2.2.2.2.1 d.2.2.2.2.2.1 d.2.2.2.2.2.2.1) rows (fun a r => a ++ rowT r) (fun a i => (a, t8, t9, t10, rows, (rows.length : Int), (i : Int), ())) (fun a => (a, t8, t9, t10, ())) (fun i a => a.length ≤ 1000000 + 39 * i)
    (fun i hi a hI => by
      have hx := hr _ (List.getElem_mem hi)
      have ht := rowT_len hx
      refine ⟨by rw [List.length_append]; omega, ?_⟩
      show b_S_l7Text_7 a t8 t9 t10 rows rows.length i = _
      unfold b_S_l7Text_7
      rw [decide_eq_true (by omega : (i : Int) < (rows.length : Int)), cond_true, inB_lt hi, cond_true, toNat_cast, getD_of hi, sign_S hx.1, Option.bind_some, shown_S _ _ (by show (signT rows[i].1).length ≤ _; have := (sign_ok hx.1).2; omega) hx.2.1 (by have := hx.2.2; omega), Option.bind_some]
      dsimp only
      rw [show shownT (signT rows[i].1) rows[i].2.1 = rowT rows[i] from rfl, decide_eq_true (by omega), cond_true, wrap64 (by omega) (by omega)]
      rfl)
    (fun a _ => by
      show b_S_l7Text_7 a t8 t9 t10 rows rows.length rows.length = _
      unfold b_S_l7Text_7
      rw [decide_eq_false (Int.lt_irrefl _), cond_false]) t3 ht3
  rw [foldl_app] at hf
  exact hf.1

theorem groupsText_S' {g : GR} (hs : SmG g) (hg : goodGs g = true) : f_S_l7Text g = some ((textG g, ()), ()) := by
  have hl := hs.1
  have hf := fix_fold (B := fun d => b_S_l7Text_3 d.1 d.2.1 d.2.2.1 d.2.2.2.1) g (fun a x => a ++ groupT x) (fun a i => (a, g, (g.length : Int), (i : Int), ())) (fun a => (a, ())) (fun i a => a.length ≤ 3220 * i)
    (fun i hi a hI => by
      have hm := hs.2 _ (List.getElem_mem hi)
      obtain ⟨hx, h20⟩ := good_mem' hg hi
      have ht := groupT_len hx
      obtain ⟨⟨p, ep, hp⟩, ⟨q, eq, hq⟩, h3, h4⟩ := group_facts hx
      obtain ⟨r1, r2⟩ := rowsOk hx
      refine ⟨by rw [List.length_append]; omega, ?_⟩
      show b_S_l7Text_3 a g g.length i = _
      unfold b_S_l7Text_3
      have c1 := countT_len (a := p) (m := (sideL g[i].2.2.1 3).length) (by omega) (by omega)
      have c2 := countT_len (a := q) (m := (sideL g[i].2.2.1 2).length) (by omega) (by omega)
      have hh := headT_len hx
      have hr := rowsT_len r1 r2
      rw [decide_eq_true (by omega : (i : Int) < (g.length : Int)), cond_true, inB_lt hi, cond_true, toNat_cast, getD_of hi, old_S hm, Option.bind_some, new_S hm]
      dsimp only
      rw [ep, count_S p _ (by omega) (by omega), Option.bind_some, Option.bind_some]
      dsimp only
      rw [eq, count_S q _ (by omega) (by omega), Option.bind_some]
      dsimp only
      rw [decide_eq_true (by simp only [List.length_cons, List.length_nil]; omega), cond_true, decide_eq_true (by simp only [List.length_append, List.length_cons, List.length_nil]; omega), cond_true, decide_eq_true (by simp only [List.length_append, List.length_cons, List.length_nil]; omega), cond_true, decide_eq_true (by simp only [List.length_append, List.length_cons, List.length_nil]; omega), cond_true]
      have e : ((([64, 64, 32, 45] ++ countT p (sideL g[i].2.2.1 3).length) ++ [32, 43]) ++ countT q (sideL g[i].2.2.1 2).length) ++ [32, 64, 64, 10] = headT g[i] := by
        unfold headT
        rw [ep, eq, toNat_cast, toNat_cast]
      rw [e, decide_eq_true (by omega), cond_true, rows_loop_S r1 r2 _ (by rw [List.length_append]; omega), Option.bind_some]
      dsimp only
      rw [wrap64 (by omega) (by omega), List.append_assoc]
      rfl)
    (fun a _ => by
      show b_S_l7Text_3 a g g.length g.length = _
      unfold b_S_l7Text_3
      rw [decide_eq_false (Int.lt_irrefl _), cond_false]) [] (Nat.zero_le _)
  unfold f_S_l7Text
  rw [show w_S_l7Text_3 ([], g, (g.length : Int), 0, ()) = _ from hf.1, Option.bind_some, foldl_app]
  rfl

def gtOk (g : GR) : Bool := goodGs g && decide ((textG g).length ≤ 3000)
def gtR (g : GR) : List UInt8 := bif gtOk g then textG g else []
theorem groupsTextR_I {g : GR} (hs : SmG g) : f_I_GroupsText g = some ((gtR g, gtOk g, ()), ()) := by
  unfold f_I_GroupsText gtR gtOk f_I_short
  rw [groups_I hs, Option.bind_some]
  dsimp only
  cases hg : goodGs g
  · rfl
  · rw [Bool.not_true, cond_false, groupsText_I' hs hg, Option.bind_some]
    dsimp only
    by_cases h : (textG g).length ≤ 3000
    · rw [decide_eq_false (by omega : ¬ ((textG g).length : Int) > 3000), decide_eq_true h]; rfl
    · rw [decide_eq_true (by omega : ((textG g).length : Int) > 3000), decide_eq_false h]; rfl
theorem groupsTextR_S {g : GR} (hs : SmG g) : f_S_GroupsText g = some ((gtR g, gtOk g, ()), ()) := by
  unfold f_S_GroupsText gtR gtOk
  rw [groups_S hs, Option.bind_some]
  dsimp only
  cases hg : goodGs g
  · rfl
  · rw [Bool.not_true, cond_false, groupsText_S' hs hg, Option.bind_some, Option.bind_some]
    dsimp only
    by_cases h : (textG g).length ≤ 3000
    · rw [decide_eq_false (by omega : ¬ ((textG g).length : Int) > 3000), decide_eq_true h, cond_false, groupsText_S' hs hg, Option.bind_some]; rfl
    · rw [decide_eq_true (by omega : ((textG g).length : Int) > 3000), decide_eq_false h]; rfl
end R
end

section
/- Groups of hunks: both sides make the same. -/
open Go Go.Dn
namespace R
set_option linter.unusedVariables false

abbrev TX := List (List UInt8)
abbrev HK := List (PV Y_impl_Hunk)
def rowsK (k : Int) (lines : TX) : RW := lines.map fun s => ((k, (s, ())) : PV Y_impl_Row)
theorem rowsK_len (k : Int) (l : TX) : (rowsK k l).length = l.length := by unfold rowsK; rw [List.length_map]
theorem foldl_row (k : Int) : ∀ (l : TX) (a : RW), l.foldl (fun (a : RW) s => a ++ [((k, (s, ())) : PV Y_impl_Row)]) a = a ++ rowsK k l
  | [], a => by simp [rowsK]
  | x :: l, a => by rw [List.foldl_cons, foldl_row k l]; simp [rowsK]

theorem rl_183_97_1 {t0 : PV S_string} {t1 : PV S_impl_Hunk} {t2 : PV (.int .i64)} {t7 : PV S_impl_Group} {t8 : PV (.int .i64)} {t9 : PV (.int .i64)} {t10 : PV (.int .i64)} {t11 : PV (.int .i64)} {t12 : PV (.int .i64)} {t15 : PV Y_impl_Hunk} {t82 : PV (.int .i64)} {t83 : PV (.int .i64)} {t84 : PV .bool} {t87 : PV S_impl_Hunk} {t88 : PV (.int .i64)} {t89 : PV Y_impl_Hunk} {t90 : PV Y_impl_Hunk} {t92 : PV S_string} {t93 : PV (.int .i64)} {t95 : PV (.int .i64)} {t96 : PV S_string} {t137 : PV (.int .i64)} {g1 g2 : Int} {rows : RW} {lines : TX} (hr : rows.length + lines.length ≤ 1000000) :
    w_I_groupsOf_183_97_1 (t0, t1, t2, t7, t8, t9, t10, t11, t12, (g1, (g2, (rows, ()))), t15, t82, t83, t84, t87, t88, t89, t90, t92, t93, t95, t96, t137, lines, (lines.length : Int), 0, ()) = some (t0, t1, t2, t7, t8, t9, t10, t11, t12, (g1, (g2, ((rows ++ rowsK t137 lines), ()))), t15, t82, t83, t84, t87, t88, t89, t90, t92, t93, t95, t96, ()) := by
  have hf := fix_fold (B := fun d => b_I_groupsOf_183_97_1 d.1 d.2.1 d.2.2.1 d.2.2.2.1 d.2.2.2.2.1 d.2.2.2.2.2.1 d.2.2.2.2.2.2.1 d.2.2.2.2.2.2.2.1 d.2.2.2.2.2.2.2.2.1 d.2.2.2.2.2.2.2.2.2.1 d.2.2.2.2.2.2.2.2.2.2.1 d.2.2.2.2.2.2.2.2.2.2.2.1 d.2.2.2.2.2.2.2.2.2.2.2.2.1 d.2.2.2.2.2.2.2.2.2.2.2.2.2.1 d.2.2.2.2.2.2.2.2.2.2.2.2.2.2.1 d.2.2.2.2.2.2.2.2.2.2.2.2.2.2.2.1 d.2.2.2.2.2.2.2.2.2.2.2.2.2.2.2.2.1 d.2.2.2.2.2.2.2.2.2.2.2.2.2.2.2.2.2.1 d.2.2.2.2.2.2.2.2.2.2.2.2.2.2.2.2.2.2.1 d.2.2.2.2.2.2.2.2.2.2.2.2.2.2.2.2.2.2.2.1 d.2.2.2.2.2.2.2.2.2.2.2.2.2.2.2.2.2.2.2.2.1 d.2.2.2.2.2.2.2.2.2.2.2.2.2.2.2.2.2.2.2.2.2.1 d.2.2.2.2.2.2.2.2.2.2.2.2.2.2.2.2.2.2.2.2.2.2.1 d.2.2.2.2.2.2.2.2.2.2.2.2.2.2.2.2.2.2.2.2.2.2.2.1 d.2.2.2.2.2.2.2.2.2.2.2.2.2.2.2.2.2.2.2.2.2.2.2.2.1 d.2.2.2.2.2.2.2.2.2.2.2.2.2.2.2.2.2.2.2.2.2.2.2.2.2.1) lines (fun (a : RW) s => a ++ [((t137, (s, ())) : PV Y_impl_Row)]) (fun a i => (t0, t1, t2, t7, t8, t9, t10, t11, t12, (g1, (g2, (a, ()))), t15, t82, t83, t84, t87, t88, t89, t90, t92, t93, t95, t96, t137, lines, (lines.length : Int), (i : Int), ())) (fun a => (t0, t1, t2, t7, t8, t9, t10, t11, t12, (g1, (g2, (a, ()))), t15, t82, t83, t84, t87, t88, t89, t90, t92, t93, t95, t96, ())) (fun i a => a.length = rows.length + i)
    (fun i hi a hI => by
      refine ⟨by simp [hI]; omega, ?_⟩
      show b_I_groupsOf_183_97_1 t0 t1 t2 t7 t8 t9 t10 t11 t12 (g1, (g2, (a, ()))) t15 t82 t83 t84 t87 t88 t89 t90 t92 t93 t95 t96 t137 lines (lines.length : Int) (i : Int) = _
      unfold b_I_groupsOf_183_97_1
      rw [decide_eq_true (by omega : (i : Int) < (lines.length : Int)), cond_true, inB_lt hi, cond_true, toNat_cast, getD_of hi]
      dsimp only
      rw [roomB_ok (by simp only [List.length_cons, List.length_nil]; omega), cond_true, wrap64 (x := (i : Int) + 1) (by omega) (by omega)]
      rfl)
    (fun a _ => by
      show b_I_groupsOf_183_97_1 t0 t1 t2 t7 t8 t9 t10 t11 t12 (g1, (g2, (a, ()))) t15 t82 t83 t84 t87 t88 t89 t90 t92 t93 t95 t96 t137 lines (lines.length : Int) (lines.length : Int) = _
      unfold b_I_groupsOf_183_97_1
      rw [decide_eq_false (Int.lt_irrefl _), cond_false]) rows rfl
  rw [foldl_row] at hf
  exact hf.1

theorem rl_183_108_1 {t0 : PV S_string} {t1 : PV S_impl_Hunk} {t2 : PV (.int .i64)} {t7 : PV S_impl_Group} {t8 : PV (.int .i64)} {t9 : PV (.int .i64)} {t10 : PV (.int .i64)} {t11 : PV (.int .i64)} {t12 : PV (.int .i64)} {t15 : PV Y_impl_Hunk} {t82 : PV (.int .i64)} {t83 : PV (.int .i64)} {t84 : PV .bool} {t87 : PV S_impl_Hunk} {t88 : PV (.int .i64)} {t89 : PV Y_impl_Hunk} {t90 : PV Y_impl_Hunk} {t92 : PV S_string} {t93 : PV (.int .i64)} {t95 : PV (.int .i64)} {t96 : PV S_string} {t99 : PV S_string} {t101 : PV (.int .i64)} {t103 : PV (.int .i64)} {t105 : PV (.int .i64)} {t106 : PV (.int .i64)} {t107 : PV S_string} {t137 : PV (.int .i64)} {g1 g2 : Int} {rows : RW} {lines : TX} (hr : rows.length + lines.length ≤ 1000000) :
    w_I_groupsOf_183_108_1 (t0, t1, t2, t7, t8, t9, t10, t11, t12, (g1, (g2, (rows, ()))), t15, t82, t83, t84, t87, t88, t89, t90, t92, t93, t95, t96, t99, t101, t103, t105, t106, t107, t137, lines, (lines.length : Int), 0, ()) = some (t0, t1, t2, t7, t8, t9, t10, t11, t12, (g1, (g2, ((rows ++ rowsK t137 lines), ()))), t15, t82, t83, t84, t87, t88, t89, t90, t92, t93, t95, t96, t99, t101, t103, t105, t106, t107, ()) := by
  have hf := fix_fold (B := fun d => b_I_groupsOf_183_108_1 d.1 d.2.1 d.2.2.1 d.2.2.2.1 d.2.2.2.2.1 d.2.2.2.2.2.1 d.2.2.2.2.2.2.1 d.2.2.2.2.2.2.2.1 d.2.2.2.2.2.2.2.2.1 d.2.2.2.2.2.2.2.2.2.1 d.2.2.2.2.2.2.2.2.2.2.1 d.2.2.2.2.2.2.2.2.2.2.2.1 d.2.2.2.2.2.2.2.2.2.2.2.2.1 d.2.2.2.2.2.2.2.2.2.2.2.2.2.1 d.2.2.2.2.2.2.2.2.2.2.2.2.2.2.1 d.2.2.2.2.2.2.2.2.2.2.2.2.2.2.2.1 d.2.2.2.2.2.2.2.2.2.2.2.2.2.2.2.2.1 d.2.2.2.2.2.2.2.2.2.2.2.2.2.2.2.2.2.1 d.2.2.2.2.2.2.2.2.2.2.2.2.2.2.2.2.2.2.1 d.2.2.2.2.2.2.2.2.2.2.2.2.2.2.2.2.2.2.2.1 d.2.2.2.2.2.2.2.2.2.2.2.2.2.2.2.2.2.2.2.2.1 d.2.2.2.2.2.2.2.2.2.2.2.2.2.2.2.2.2.2.2.2.2.1 d.2.2.2.2.2.2.2.2.2.2.2.2.2.2.2.2.2.2.2.2.2.2.1 d.2.2.2.2.2.2.2.2.2.2.2.2.2.2.2.2.2.2.2.2.2.2.2.1 d.2.2.2.2.2.2.2.2.2.2.2.2.2.2.2.2.2.2.2.2.2.2.2.2.1 d.2.2.2.2.2.2.2.2.2.2.2.2.2.2.2.2.2.2.2.2.2.2.2.2.2.1 d.2.2.2.2.2.2.2.2.2.2.2.2.2.2.2.2.2.2.2.2.2.2.2.2.2.2.1 d.2.2.2.2.2.2.2.2.2.2.2.2.2.2.2.2.2.2.2.2.2.2.2.2.2.2.2.1 d.2.2.2.2.2.2.2.2.2.2.2.2.2.2.2.2.2.2.2.2.2.2.2.2.2.2.2.2.1 d.2.2.2.2.2.2.2.2.2.2.2.2.2.2.2.2.2.2.2.2.2.2.2.2.2.2.2.2.2.1 d.2.2.2.2.2.2.2.2.2.2.2.2.2.2.2.2.2.2.2.2.2.2.2.2.2.2.2.2.2.2.1 d.2.2.2.2.2.2.2.2.2.2.2.2.2.2.2.2.2.2.2.2.2.2.2.2.2.2.2.2.2.2.2.1) lines (fun (a : RW) s => a ++ [((t137, (s, ())) : PV Y_impl_Row)]) (fun a i => (t0, t1, t2, t7, t8, t9, t10, t11, t12, (g1, (g2, (a, ()))), t15, t82, t83, t84, t87, t88, t89, t90, t92, t93, t95, t96, t99, t101, t103, t105, t106, t107, t137, lines, (lines.length : Int), (i : Int), ())) (fun a => (t0, t1, t2, t7, t8, t9, t10, t11, t12, (g1, (g2, (a, ()))), t15, t82, t83, t84, t87, t88, t89, t90, t92, t93, t95, t96, t99, t101, t103, t105, t106, t107, ())) (fun i a => a.length = rows.length + i)
    (fun i hi a hI => by
      refine ⟨by simp [hI]; omega, ?_⟩
      show b_I_groupsOf_183_108_1 t0 t1 t2 t7 t8 t9 t10 t11 t12 (g1, (g2, (a, ()))) t15 t82 t83 t84 t87 t88 t89 t90 t92 t93 t95 t96 t99 t101 t103 t105 t106 t107 t137 lines (lines.length : Int) (i : Int) = _
      unfold b_I_groupsOf_183_108_1
      rw [decide_eq_true (by omega : (i : Int) < (lines.length : Int)), cond_true, inB_lt hi, cond_true, toNat_cast, getD_of hi]
      dsimp only
      rw [roomB_ok (by simp only [List.length_cons, List.length_nil]; omega), cond_true, wrap64 (x := (i : Int) + 1) (by omega) (by omega)]
      rfl)
    (fun a _ => by
      show b_I_groupsOf_183_108_1 t0 t1 t2 t7 t8 t9 t10 t11 t12 (g1, (g2, (a, ()))) t15 t82 t83 t84 t87 t88 t89 t90 t92 t93 t95 t96 t99 t101 t103 t105 t106 t107 t137 lines (lines.length : Int) (lines.length : Int) = _
      unfold b_I_groupsOf_183_108_1
      rw [decide_eq_false (Int.lt_irrefl _), cond_false]) rows rfl
  rw [foldl_row] at hf
  exact hf.1

theorem rl_183_112_1 {t0 : PV S_string} {t1 : PV S_impl_Hunk} {t2 : PV (.int .i64)} {t7 : PV S_impl_Group} {t8 : PV (.int .i64)} {t9 : PV (.int .i64)} {t10 : PV (.int .i64)} {t11 : PV (.int .i64)} {t12 : PV (.int .i64)} {t15 : PV Y_impl_Hunk} {t82 : PV (.int .i64)} {t83 : PV (.int .i64)} {t84 : PV .bool} {t87 : PV S_impl_Hunk} {t88 : PV (.int .i64)} {t89 : PV Y_impl_Hunk} {t90 : PV Y_impl_Hunk} {t92 : PV S_string} {t93 : PV (.int .i64)} {t95 : PV (.int .i64)} {t96 : PV S_string} {t99 : PV S_string} {t101 : PV (.int .i64)} {t103 : PV (.int .i64)} {t105 : PV (.int .i64)} {t106 : PV (.int .i64)} {t107 : PV S_string} {t111 : PV S_string} {t137 : PV (.int .i64)} {g1 g2 : Int} {rows : RW} {lines : TX} (hr : rows.length + lines.length ≤ 1000000) :
    w_I_groupsOf_183_112_1 (t0, t1, t2, t7, t8, t9, t10, t11, t12, (g1, (g2, (rows, ()))), t15, t82, t83, t84, t87, t88, t89, t90, t92, t93, t95, t96, t99, t101, t103, t105, t106, t107, t111, t137, lines, (lines.length : Int), 0, ()) = some (t0, t1, t2, t7, t8, t9, t10, t11, t12, (g1, (g2, ((rows ++ rowsK t137 lines), ()))), t15, t82, t83, t84, t87, t88, t89, t90, t92, t93, t95, t96, t99, t101, t103, t105, t106, t107, t111, ()) := by
  have hf := fix_fold (B := fun d => b_I_groupsOf_183_112_1 d.1 d.2.1 d.2.2.1 d.2.2.2.1 d.2.2.2.2.1 d.2.2.2.2.2.1 d.2.2.2.2.2.2.1 d.2.2.2.2.2.2.2.1 d.2.2.2.2.2.2.2.2.1 d.2.2.2.2.2.2.2.2.2.1 d.2.2.2.2.2.2.2.2.2.2.1 d.2.2.2.2.2.2.2.2.2.2.2.1 d.2.2.2.2.2.2.2.2.2.2.2.2.1 d.2.2.2.2.2.2.2.2.2.2.2.2.2.1 d.2.2.2.2.2.2.2.2.2.2.2.2.2.2.1 d.2.2.2.2.2.2.2.2.2.2.2.2.2.2.2.1 d.2.2.2.2.2.2.2.2.2.2.2.2.2.2.2.2.1 d.2.2.2.2.2.2.2.2.2.2.2.2.2.2.2.2.2.1 d.2.2.2.2.2.2.2.2.2.2.2.2.2.2.2.2.2.2.1 d.2.2.2.2.2.2.2.2.2.2.2.2.2.2.2.2.2.2.2.1 d.2.2.2.2.2.2.2.2.2.2.2.2.2.2.2.2.2.2.2.2.1 d.2.2.2.2.2.2.2.2.2.2.2.2.2.2.2.2.2.2.2.2.2.1 d.2.2.2.2.2.2.2.2.2.2.2.2.2.2.2.2.2.2.2.2.2.2.1 d.2.2.2.2.2.2.2.2.2.2.2.2.2.2.2.2.2.2.2.2.2.2.2.1 d.2.2.2.2.2.2.2.2.2.2.2.2.2.2.2.2.2.2.2.2.2.2.2.2.1 d.2.2.2.2.2.2.2.2.2.2.2.2.2.2.2.2.2.2.2.2.2.2.2.2.2.1 d.2.2.2.2.2.2.2.2.2.2.2.2.2.2.2.2.2.2.2.2.2.2.2.2.2.2.1 d.2.2.2.2.2.2.2.2.2.2.2.2.2.2.2.2.2.2.2.2.2.2.2.2.2.2.2.1 d.2.2.2.2.2.2.2.2.2.2.2.2.2.2.2.2.2.2.2.2.2.2.2.2.2.2.2.2.1 d.2.2.2.2.2.2.2.2.2.2.2.2.2.2.2.2.2.2.2.2.2.2.2.2.2.2.2.2.2.1 d.2.2.2.2.2.2.2.2.2.2.2.2.2.2.2.2.2.2.2.2.2.2.2.2.2.2.2.2.2.2.1 d.2.2.2.2.2.2.2.2.2.2.2.2.2.2.2.2.2.2.2.2.2.2.2.2.2.2.2.2.2.2.2.1 d.2.2.2.2.2.2.2.2.2.2.2.2.2.2.2.2.2.2.2.2.2.2.2.2.2.2.2.2.2.2.2.2.1) lines (fun (a : RW) s => a ++ [((t137, (s, ())) : PV Y_impl_Row)]) (fun a i => (t0, t1, t2, t7, t8, t9, t10, t11, t12, (g1, (g2, (a, ()))), t15, t82, t83, t84, t87, t88, t89, t90, t92, t93, t95, t96, t99, t101, t103, t105, t106, t107, t111, t137, lines, (lines.length : Int), (i : Int), ())) (fun a => (t0, t1, t2, t7, t8, t9, t10, t11, t12, (g1, (g2, (a, ()))), t15, t82, t83, t84, t87, t88, t89, t90, t92, t93, t95, t96, t99, t101, t103, t105, t106, t107, t111, ())) (fun i a => a.length = rows.length + i)
    (fun i hi a hI => by
      refine ⟨by simp [hI]; omega, ?_⟩
      show b_I_groupsOf_183_112_1 t0 t1 t2 t7 t8 t9 t10 t11 t12 (g1, (g2, (a, ()))) t15 t82 t83 t84 t87 t88 t89 t90 t92 t93 t95 t96 t99 t101 t103 t105 t106 t107 t111 t137 lines (lines.length : Int) (i : Int) = _
      unfold b_I_groupsOf_183_112_1
      rw [decide_eq_true (by omega : (i : Int) < (lines.length : Int)), cond_true, inB_lt hi, cond_true, toNat_cast, getD_of hi]
      dsimp only
      rw [roomB_ok (by simp only [List.length_cons, List.length_nil]; omega), cond_true, wrap64 (x := (i : Int) + 1) (by omega) (by omega)]
      rfl)
    (fun a _ => by
      show b_I_groupsOf_183_112_1 t0 t1 t2 t7 t8 t9 t10 t11 t12 (g1, (g2, (a, ()))) t15 t82 t83 t84 t87 t88 t89 t90 t92 t93 t95 t96 t99 t101 t103 t105 t106 t107 t111 t137 lines (lines.length : Int) (lines.length : Int) = _
      unfold b_I_groupsOf_183_112_1
      rw [decide_eq_false (Int.lt_irrefl _), cond_false]) rows rfl
  rw [foldl_row] at hf
  exact hf.1

theorem rl_183_131_1 {t0 : PV S_string} {t1 : PV S_impl_Hunk} {t2 : PV (.int .i64)} {t7 : PV S_impl_Group} {t8 : PV (.int .i64)} {t9 : PV (.int .i64)} {t11 : PV (.int .i64)} {t12 : PV (.int .i64)} {t127 : PV S_string} {t128 : PV (.int .i64)} {t129 : PV (.int .i64)} {t130 : PV S_string} {t137 : PV (.int .i64)} {g1 g2 : Int} {rows : RW} {lines : TX} (hr : rows.length + lines.length ≤ 1000000) :
    w_I_groupsOf_183_131_1 (t0, t1, t2, t7, t8, t9, t11, t12, (g1, (g2, (rows, ()))), t127, t128, t129, t130, t137, lines, (lines.length : Int), 0, ()) = some (t0, t1, t2, t7, t8, t9, t11, t12, (g1, (g2, ((rows ++ rowsK t137 lines), ()))), t127, t128, t129, t130, ()) := by
  have hf := fix_fold (B := fun d => b_I_groupsOf_183_131_1 d.1 d.2.1 d.2.2.1 d.2.2.2.1 d.2.2.2.2.1 d.2.2.2.2.2.1 d.2.2.2.2.2.2.1 d.2.2.2.2.2.2.2.1 d.2.2.2.2.2.2.2.2.1 d.2.2.2.2.2.2.2.2.2.1 d.2.2.2.2.2.2.2.2.2.2.1 d.2.2.2.2.2.2.2.2.2.2.2.1 d.2.2.2.2.2.2.2.2.2.2.2.2.1 d.2.2.2.2.2.2.2.2.2.2.2.2.2.1 d.2.2.2.2.2.2.2.2.2.2.2.2.2.2.1 d.2.2.2.2.2.2.2.2.2.2.2.2.2.2.2.1 d.2.2.2.2.2.2.2.2.2.2.2.2.2.2.2.2.1) lines (fun (a : RW) s => a ++ [((t137, (s, ())) : PV Y_impl_Row)]) (fun a i => (t0, t1, t2, t7, t8, t9, t11, t12, (g1, (g2, (a, ()))), t127, t128, t129, t130, t137, lines, (lines.length : Int), (i : Int), ())) (fun a => (t0, t1, t2, t7, t8, t9, t11, t12, (g1, (g2, (a, ()))), t127, t128, t129, t130, ())) (fun i a => a.length = rows.length + i)
    (fun i hi a hI => by
      refine ⟨by simp [hI]; omega, ?_⟩
      show b_I_groupsOf_183_131_1 t0 t1 t2 t7 t8 t9 t11 t12 (g1, (g2, (a, ()))) t127 t128 t129 t130 t137 lines (lines.length : Int) (i : Int) = _
      unfold b_I_groupsOf_183_131_1
      rw [decide_eq_true (by omega : (i : Int) < (lines.length : Int)), cond_true, inB_lt hi, cond_true, toNat_cast, getD_of hi]
      dsimp only
      rw [roomB_ok (by simp only [List.length_cons, List.length_nil]; omega), cond_true, wrap64 (x := (i : Int) + 1) (by omega) (by omega)]
      rfl)
    (fun a _ => by
      show b_I_groupsOf_183_131_1 t0 t1 t2 t7 t8 t9 t11 t12 (g1, (g2, (a, ()))) t127 t128 t129 t130 t137 lines (lines.length : Int) (lines.length : Int) = _
      unfold b_I_groupsOf_183_131_1
      rw [decide_eq_false (Int.lt_irrefl _), cond_false]) rows rfl
  rw [foldl_row] at hf
  exact hf.1

end R
end

section
/- Groups of hunks, the whole: both sides make the same. -/
open Go Go.Dn
namespace R
set_option linter.unusedVariables false

abbrev St3 := RW × Int × Int
def stepR (l : TX) (a : St3) (x : PV Y_impl_Hunk) : St3 :=
  (((a.1 ++ rowsK 1 (cutL a.2.1 x.1 l)) ++ rowsK 2 (cutL x.1 (x.1 + x.2.1) l)) ++ rowsK 3 x.2.2.1, x.1 + x.2.1, a.2.2 + ((List.length x.2.2.1 : Int) - x.2.1))
def segL (h : HK) (i n : Nat) : HK := (h.drop i).take n
theorem segL_len {h : HK} {i n : Nat} (hn : i + n ≤ h.length) : (segL h i n).length = n := by unfold segL; simp; omega
theorem segL_at {h : HK} {i n k : Nat} (hn : i + n ≤ h.length) (hk : k < n) : (segL h i n).getD k H0 = h.getD (i + k) H0 := by
  rw [getD_of (by rw [segL_len hn]; exact hk), getD_of (by omega)]
  simp [segL]

/-- What is known on the way through hunks that stand near one another. -/
structure SegI (l : TX) (s : HK) (M : Int) (k : Nat) (a : St3) : Prop where
  rows : a.1.length ≤ 120 * k
  at0 : 0 ≤ a.2.1
  at1 : a.2.1 ≤ (l.length : Int)
  next : k < s.length → a.2.1 ≤ (s.getD k H0).1
  m0 : M - 100 * k ≤ a.2.2
  m1 : a.2.2 ≤ M + 100 * k

structure SegOk (l : TX) (s : HK) : Prop where
  l40 : l.length ≤ 40
  len : s.length ≤ 20
  at_ : ∀ k, k < s.length → 0 ≤ (s.getD k H0).1 ∧ 0 ≤ (s.getD k H0).2.1 ∧ (s.getD k H0).1 + (s.getD k H0).2.1 ≤ (l.length : Int) ∧ List.length (s.getD k H0).2.2.1 ≤ 40 ∧ (k + 1 < s.length → (s.getD k H0).1 + (s.getD k H0).2.1 ≤ (s.getD (k + 1) H0).1)

theorem segOk {l : TX} {h : HK} (hl : l.length ≤ 40) (hg : hunksP (l.length : Int) h = true) {i n : Nat} (hn : i + n ≤ h.length) : SegOk l (segL h i n) := by
  obtain ⟨_, _, h20, f⟩ := hunk_facts hg
  have e := segL_len hn
  refine ⟨hl, by omega, fun k hk => ?_⟩
  rw [segL_at hn (by omega)]
  obtain ⟨a1, _, a3, a4, a5, _, _⟩ := f (i + k) (by omega)
  refine ⟨a1, a3, a4, a5, fun hk' => ?_⟩
  rw [segL_at hn (by omega)]
  obtain ⟨_, _, _, _, _, _, b⟩ := f (i + (k + 1)) (by omega)
  have := b (by omega)
  rw [show i + (k + 1) - 1 = i + k from by omega] at this
  exact Int.le_of_lt this

theorem cutL_le {l : TX} {a b : Int} : (cutL a b l).length ≤ l.length := cut_len

theorem seg_next {l : TX} {s : HK} {M : Int} (ho : SegOk l s) {k : Nat} (hk : k < s.length) {a : St3} (hI : SegI l s M k a) : SegI l s M (k + 1) (stepR l a (s.getD k H0)) := by
  obtain ⟨q1, q2, q3, q4, q5⟩ := ho.at_ k hk
  have h40 := ho.l40
  have c1 := @cutL_le l a.2.1 (s.getD k H0).1
  have c2 := @cutL_le l (s.getD k H0).1 ((s.getD k H0).1 + (s.getD k H0).2.1)
  have r1 := hI.rows
  have r2 := hI.m0
  have r3 := hI.m1
  generalize s.getD k H0 = x at *
  refine ⟨?_, Int.add_nonneg q1 q2, q3, fun h => q5 h, ?_, ?_⟩
  · show List.length (((a.1 ++ rowsK 1 _) ++ rowsK 2 _) ++ rowsK 3 _) ≤ _
    rw [List.length_append, List.length_append, List.length_append, rowsK_len, rowsK_len, rowsK_len]
    omega
  · show _ ≤ a.2.2 + ((List.length x.2.2.1 : Int) - x.2.1)
    have e : ∀ z : Int, z ≤ (l.length : Int) → z ≤ 40 := fun z h => by omega
    have := e x.2.1 (Int.le_trans (Int.le_add_of_nonneg_left q1) q3)
    have e2 : ∀ z u v : Int, 0 ≤ v → z ≤ 40 → M - 100 * (k : Int) ≤ u → M - 100 * ((k + 1 : Nat) : Int) ≤ u + (v - z) := fun z u v h0 h1 h2 => by omega
    exact e2 _ _ _ (Int.natCast_nonneg _) this r2
  · show a.2.2 + ((List.length x.2.2.1 : Int) - x.2.1) ≤ _
    have e2 : ∀ z u v : Int, v ≤ 40 → 0 ≤ z → u ≤ M + 100 * (k : Int) → u + (v - z) ≤ M + 100 * ((k + 1 : Nat) : Int) := fun z u v h0 h1 h2 => by omega
    exact e2 _ _ _ (by omega) q2 r3

theorem wrapE {A G L : Int} (hL : L ≤ 40) (a0 : 0 ≤ A) (g0 : 0 ≤ G) (h : A + G ≤ L) : IntKind.wrap .i64 (A + G) = A + G := wrap64 (by omega) (by omega)
theorem wrapM {m v z : Int} (h0 : -100000 ≤ m) (h1 : m ≤ 100000) (v0 : 0 ≤ v) (v1 : v ≤ 40) (z0 : 0 ≤ z) (z1 : z ≤ 40) : IntKind.wrap .i64 (m + IntKind.wrap .i64 (v - z)) = m + (v - z) := by
  rw [wrap64 (x := v - z) (by omega) (by omega), wrap64 (by omega) (by omega)]

theorem seg_I {l : TX} {h : HK} {i n : Nat} (hl : l.length ≤ 40) (hg : hunksP (l.length : Int) h = true) (hn : i + n ≤ h.length) (hn1 : 1 ≤ n) {w : Int} {out : GR} {e g1 g2 m at0 : Int} (hm0 : -10000 ≤ m) (hm1 : m ≤ 10000)
    (ha0 : 0 ≤ at0) (ha1 : at0 ≤ (l.length : Int)) (ha2 : at0 ≤ (h.getD i H0).1) :
    w_I_groupsOf_11 (l, h, w, out, m, (i : Int), ((i + n - 1 : Nat) : Int), at0, e, (g1, (g2, ([], ()))), ()) =
      some (l, h, w, out, ((segL h i n).foldl (stepR l) ([], at0, m)).2.2, ((i + n : Nat) : Int), ((segL h i n).foldl (stepR l) ([], at0, m)).2.1, e, (g1, (g2, (((segL h i n).foldl (stepR l) ([], at0, m)).1, ()))), ()) ∧
    SegI l (segL h i n) m n ((segL h i n).foldl (stepR l) ([], at0, m)) := by
  have ho := segOk hl hg hn
  have hsl := segL_len hn
  obtain ⟨_, _, h20, _⟩ := hunk_facts hg
  have hf := fix_fold (B := fun d => b_I_groupsOf_11 d.1 d.2.1 d.2.2.1 d.2.2.2.1 d.2.2.2.2.1 d.2.2.2.2.2.1 d.2.2.2.2.2.2.1 d.2.2.2.2.2.2.2.1 d.2.2.2.2.2.2.2.2.1 d.2.2.2.2.2.2.2.2.2.1) (segL h i n) (stepR l)
    (fun a k => (l, h, w, out, a.2.2, ((i + k : Nat) : Int), ((i + n - 1 : Nat) : Int), a.2.1, e, (g1, (g2, (a.1, ()))), ())) (fun a => (l, h, w, out, a.2.2, ((i + n : Nat) : Int), a.2.1, e, (g1, (g2, (a.1, ()))), ())) (SegI l (segL h i n) m)
    (fun k hk a hI => by
      have hk' := hk
      rw [hsl] at hk'
      have hx : (segL h i n)[k] = (segL h i n).getD k H0 := (getD_of hk).symm
      have nx := seg_next ho hk hI
      rw [hx]
      refine ⟨nx, ?_⟩
      obtain ⟨q1, q2, q3, q4, q5⟩ := ho.at_ k hk
      have z1 := hI.rows
      have z2 := hI.at0
      have z4 := hI.next hk
      have z5 := hI.m0
      have z6 := hI.m1
      rw [segL_at hn hk'] at q1 q2 q3 q4 z4 ⊢
      show b_I_groupsOf_11 l h w out a.2.2 ((i + k : Nat) : Int) ((i + n - 1 : Nat) : Int) a.2.1 e (g1, (g2, (a.1, ()))) = _
      unfold b_I_groupsOf_11
      rw [decide_eq_true (by omega : ((i + k : Nat) : Int) ≤ ((i + n - 1 : Nat) : Int)), cond_true, inB_lt (by omega), cond_true, toNat_cast]
      generalize h.getD (i + k) H0 = x at *
      have c1 := @cutL_le l a.2.1 x.1
      have c2 := @cutL_le l x.1 (x.1 + x.2.1)
      have hxl : x.1 ≤ (l.length : Int) := Int.le_trans (Int.le_add_of_nonneg_right q2) q3
      have hg40 : x.2.1 ≤ 40 := Int.le_trans (Int.le_trans (Int.le_add_of_nonneg_left q1) q3) (by omega)
      rw [cutB_ok z2 z4 hxl, cond_true, rl_183_97_1 (by omega), Option.bind_some]
      dsimp only
      rw [wrapE (L := (l.length : Int)) (by omega) q1 q2 q3, cutB_ok q1 (Int.le_add_of_nonneg_right q2) q3, cond_true, rl_183_108_1 (by rw [List.length_append, rowsK_len]; omega), Option.bind_some]
      dsimp only
      rw [rl_183_112_1 (by rw [List.length_append, List.length_append, rowsK_len, rowsK_len]; omega), Option.bind_some]
      dsimp only
      rw [wrapM (by omega) (by omega) (Int.natCast_nonneg _) (by omega) q2 hg40, wrap64 (x := ((i + k : Nat) : Int) + 1) (by omega) (by omega)]
      rw [wrapE (L := (l.length : Int)) (by omega) q1 q2 q3]
      rfl)
    (fun a _ => by
      show b_I_groupsOf_11 l h w out a.2.2 ((i + (segL h i n).length : Nat) : Int) ((i + n - 1 : Nat) : Int) a.2.1 e (g1, (g2, (a.1, ()))) = _
      unfold b_I_groupsOf_11
      rw [hsl, decide_eq_false (by omega : ¬ ((i + n : Nat) : Int) ≤ ((i + n - 1 : Nat) : Int)), cond_false]) ([], at0, m)
    ⟨Nat.zero_le _, ha0, ha1, fun hk => by rw [segL_at hn (by omega)]; exact ha2, by show m - 100 * ((0 : Nat) : Int) ≤ m; omega, by show m ≤ m + 100 * ((0 : Nat) : Int); omega⟩
  rw [hsl] at hf
  exact hf

/-- The last hunk that stands near. -/
def nearB (h : HK) (w : Int) (k : Nat) : Bool :=
  decide (IntKind.wrap .i64 ((h.getD (k + 1) H0).1 - IntKind.wrap .i64 ((h.getD k H0).1 + (h.getD k H0).2.1)) ≤ IntKind.wrap .i64 (2 * w))
def lastF (h : HK) (w : Int) : Nat → Nat → Nat
  | 0, k => k
  | f + 1, k => if k + 1 < h.length ∧ nearB h w k = true then lastF h w f (k + 1) else k
theorem lastF_lt (h : HK) (w : Int) : ∀ (f k : Nat), k < h.length → k ≤ lastF h w f k ∧ lastF h w f k < h.length
  | 0, k, hk => ⟨Nat.le_refl _, hk⟩
  | f + 1, k, hk => by
    simp only [lastF]
    split
    · rename_i c
      have := lastF_lt h w f (k + 1) c.1
      omega
    · exact ⟨Nat.le_refl _, hk⟩

theorem last_I {l : TX} {h : HK} {w : Int} {out : GR} {m i : Int} (h20 : h.length ≤ 20) : ∀ (f k : Nat), k < h.length → h.length - 1 - k ≤ f → w_I_groupsOf_5 (l, h, w, out, m, i, (k : Int), ()) = some (l, h, w, out, m, i, ((lastF h w f k : Nat) : Int), ()) := by
  intro f
  induction f with
  | zero =>
    intro k hk hf
    refine fix_end (B := fun d => b_I_groupsOf_5 d.1 d.2.1 d.2.2.1 d.2.2.2.1 d.2.2.2.2.1 d.2.2.2.2.2.1 d.2.2.2.2.2.2.1) ?_
    show b_I_groupsOf_5 l h w out m i k = _
    unfold b_I_groupsOf_5
    rw [wrap64 (by omega) (by omega), decide_eq_false (by omega : ¬ ((k : Int) + 1 < (h.length : Int))), cond_false]
    rfl
  | succ f ih =>
    intro k hk hf
    have e : IntKind.wrap .i64 ((k : Int) + 1) = ((k + 1 : Nat) : Int) := by rw [wrap64 (by omega) (by omega)]; omega
    by_cases hk1 : k + 1 < h.length
    · have step : b_I_groupsOf_5 l h w out m i k = some (if nearB h w k then .inl (l, h, w, out, m, i, ((k + 1 : Nat) : Int), ()) else .inr (l, h, w, out, m, i, (k : Int), ())) := by
        unfold b_I_groupsOf_5 nearB
        rw [e, decide_eq_true (by omega : ((k + 1 : Nat) : Int) < (h.length : Int)), cond_true, inB_lt hk1, cond_true, inB_lt hk, cond_true, cond_true, toNat_cast, toNat_cast]
        cases decide (IntKind.wrap .i64 ((h.getD (k + 1) H0).1 - IntKind.wrap .i64 ((h.getD k H0).1 + (h.getD k H0).2.1)) ≤ IntKind.wrap .i64 (2 * w)) <;> rfl
      simp only [lastF]
      cases hb : nearB h w k
      · rw [if_neg (by simp)]
        exact fix_end (B := fun d => b_I_groupsOf_5 d.1 d.2.1 d.2.2.1 d.2.2.2.1 d.2.2.2.2.1 d.2.2.2.2.2.1 d.2.2.2.2.2.2.1) (by show b_I_groupsOf_5 l h w out m i k = _; rw [step, hb]; rfl)
      · rw [if_pos ⟨hk1, rfl⟩]
        exact Eq.trans (fix_go (B := fun d => b_I_groupsOf_5 d.1 d.2.1 d.2.2.1 d.2.2.2.1 d.2.2.2.2.1 d.2.2.2.2.2.1 d.2.2.2.2.2.2.1) (by show b_I_groupsOf_5 l h w out m i k = _; rw [step, hb]; rfl)) (ih (k + 1) hk1 (by omega))
    · simp only [lastF]
      rw [if_neg (by omega)]
      refine fix_end (B := fun d => b_I_groupsOf_5 d.1 d.2.1 d.2.2.1 d.2.2.2.1 d.2.2.2.2.1 d.2.2.2.2.2.1 d.2.2.2.2.2.2.1) ?_
      show b_I_groupsOf_5 l h w out m i k = _
      unfold b_I_groupsOf_5
      rw [e, decide_eq_false (by omega : ¬ (((k + 1 : Nat) : Int) < (h.length : Int))), cond_false]

theorem last_S {l : TX} {h : HK} {w : Int} {out : GR} {m i : Int} (h20 : h.length ≤ 20) : ∀ (f k : Nat), k < h.length → h.length - 1 - k ≤ f → w_S_l6Groups_6 (l, h, w, out, m, i, ((k + 1 : Nat) : Int), ()) = some (l, h, w, out, m, i, ((lastF h w f k + 1 : Nat) : Int), ()) := by
  intro f
  induction f with
  | zero =>
    intro k hk hf
    refine fix_end (B := fun d => b_S_l6Groups_6 d.1 d.2.1 d.2.2.1 d.2.2.2.1 d.2.2.2.2.1 d.2.2.2.2.2.1 d.2.2.2.2.2.2.1) ?_
    show b_S_l6Groups_6 l h w out m i ((k + 1 : Nat) : Int) = _
    unfold b_S_l6Groups_6
    rw [decide_eq_false (by omega : ¬ (((k + 1 : Nat) : Int) < (h.length : Int))), cond_false]
    rfl
  | succ f ih =>
    intro k hk hf
    have e : IntKind.wrap .i64 (((k + 1 : Nat) : Int) - 1) = (k : Int) := by rw [wrap64 (by omega) (by omega)]; omega
    by_cases hk1 : k + 1 < h.length
    · have step : b_S_l6Groups_6 l h w out m i ((k + 1 : Nat) : Int) = some (if nearB h w k then .inl (l, h, w, out, m, i, ((k + 1 + 1 : Nat) : Int), ()) else .inr (l, h, w, out, m, i, ((k + 1 : Nat) : Int), ())) := by
        unfold b_S_l6Groups_6 nearB
        rw [e, decide_eq_true (by omega : ((k + 1 : Nat) : Int) < (h.length : Int)), cond_true, inB_lt hk1, cond_true, inB_lt hk, cond_true, cond_true, toNat_cast, toNat_cast, wrap64 (x := ((k + 1 : Nat) : Int) + 1) (by omega) (by omega)]
        cases decide (IntKind.wrap .i64 ((h.getD (k + 1) H0).1 - IntKind.wrap .i64 ((h.getD k H0).1 + (h.getD k H0).2.1)) ≤ IntKind.wrap .i64 (2 * w)) <;> rfl
      simp only [lastF]
      cases hb : nearB h w k
      · rw [if_neg (by simp)]
        exact fix_end (B := fun d => b_S_l6Groups_6 d.1 d.2.1 d.2.2.1 d.2.2.2.1 d.2.2.2.2.1 d.2.2.2.2.2.1 d.2.2.2.2.2.2.1) (by show b_S_l6Groups_6 l h w out m i ((k + 1 : Nat) : Int) = _; rw [step, hb]; rfl)
      · rw [if_pos ⟨hk1, rfl⟩]
        exact Eq.trans (fix_go (B := fun d => b_S_l6Groups_6 d.1 d.2.1 d.2.2.1 d.2.2.2.1 d.2.2.2.2.1 d.2.2.2.2.2.1 d.2.2.2.2.2.2.1) (by show b_S_l6Groups_6 l h w out m i ((k + 1 : Nat) : Int) = _; rw [step, hb]; rfl)) (ih (k + 1) hk1 (by omega))
    · simp only [lastF]
      rw [if_neg (by omega)]
      refine fix_end (B := fun d => b_S_l6Groups_6 d.1 d.2.1 d.2.2.1 d.2.2.2.1 d.2.2.2.2.1 d.2.2.2.2.2.1 d.2.2.2.2.2.2.1) ?_
      show b_S_l6Groups_6 l h w out m i ((k + 1 : Nat) : Int) = _
      unfold b_S_l6Groups_6
      rw [decide_eq_false (by omega : ¬ (((k + 1 : Nat) : Int) < (h.length : Int))), cond_false]

/-! ### one group -/
def at0 (h : HK) (w : Int) (i : Nat) : Int := if (h.getD i H0).1 - w < 0 then 0 else (h.getD i H0).1 - w
def end0 (l : TX) (h : HK) (w : Int) (j : Nat) : Int := if (l.length : Int) < (h.getD j H0).1 + (h.getD j H0).2.1 + w then (l.length : Int) else (h.getD j H0).1 + (h.getD j H0).2.1 + w
def res (l : TX) (h : HK) (w : Int) (i n : Nat) (m : Int) : St3 := (segL h i n).foldl (stepR l) ([], at0 h w i, m)
def grp (l : TX) (h : HK) (w : Int) (i n : Nat) (m : Int) : PV Y_impl_Group :=
  (at0 h w i, (at0 h w i + m, ((res l h w i n m).1 ++ rowsK 1 (cutL (res l h w i n m).2.1 (end0 l h w (i + n - 1)) l), ())))
def groupsF (l : TX) (h : HK) (w : Int) : Nat → Nat → Int → GR
  | 0, _, _ => []
  | f + 1, i, m => if i < h.length then grp l h w i (lastF h w 20 i + 1 - i) m :: groupsF l h w f (lastF h w 20 i + 1) (res l h w i (lastF h w 20 i + 1 - i) m).2.2 else []

structure GOk (l : TX) (h : HK) (w : Int) (i : Nat) : Prop where
  a0 : 0 ≤ at0 h w i
  a1 : at0 h w i ≤ (l.length : Int)
  a2 : at0 h w i ≤ (h.getD i H0).1
  e1 : ∀ j, j < h.length → (h.getD j H0).1 + (h.getD j H0).2.1 ≤ end0 l h w j ∧ end0 l h w j ≤ (l.length : Int) ∧ 0 ≤ (h.getD j H0).1 ∧ (h.getD j H0).1 ≤ 40 ∧ 0 ≤ (h.getD j H0).2.1 ∧ (h.getD j H0).2.1 ≤ 40

theorem gOk {l : TX} {h : HK} {w : Int} (hl : l.length ≤ 40) (hg : hunksP (l.length : Int) h = true) (hw0 : 0 ≤ w) {i : Nat} (hi : i < h.length) : GOk l h w i := by
  obtain ⟨_, _, h20, f⟩ := hunk_facts hg
  obtain ⟨a1, a2, a3, a4, _⟩ := f i hi
  have key : ∀ A : Int, 0 ≤ A → A ≤ (l.length : Int) → 0 ≤ (if A - w < 0 then 0 else A - w) ∧ (if A - w < 0 then 0 else A - w) ≤ (l.length : Int) ∧ (if A - w < 0 then 0 else A - w) ≤ A := by
    intro A h0 h1
    split <;> omega
  obtain ⟨k1, k2, k3⟩ := key _ a1 a2
  refine ⟨k1, k2, k3, fun j hj => ?_⟩
  obtain ⟨b1, b2, b3, b4, _⟩ := f j hj
  have key2 : ∀ A G : Int, 0 ≤ A → 0 ≤ G → A + G ≤ (l.length : Int) → A + G ≤ (if (l.length : Int) < A + G + w then (l.length : Int) else A + G + w) ∧ (if (l.length : Int) < A + G + w then (l.length : Int) else A + G + w) ≤ (l.length : Int) ∧ 0 ≤ A ∧ A ≤ 40 ∧ 0 ≤ G ∧ G ≤ 40 := by
    intro A G h0 h1 h2
    split <;> omega
  exact key2 _ _ b1 b3 b4

theorem foldl_at {l : TX} : ∀ (s : HK) (a : St3), s ≠ [] → (s.foldl (stepR l) a).2.1 = (s.getLast?.getD H0).1 + (s.getLast?.getD H0).2.1
  | [x], a, _ => rfl
  | x :: y :: s, a, _ => by
    rw [List.foldl_cons, foldl_at (y :: s) _ (by simp)]
    rfl
  | [], _, h => absurd rfl h

theorem res_at {l : TX} {h : HK} {w m : Int} {i n : Nat} (hn : i + n ≤ h.length) (hn1 : 1 ≤ n) : (res l h w i n m).2.1 = (h.getD (i + n - 1) H0).1 + (h.getD (i + n - 1) H0).2.1 := by
  unfold res
  have hs := segL_len hn
  have hne : segL h i n ≠ [] := by intro e; rw [e] at hs; simp at hs; omega
  rw [foldl_at _ _ hne]
  have : (segL h i n).getLast?.getD H0 = h.getD (i + n - 1) H0 := by
    rw [List.getLast?_eq_getElem?, hs, ← List.getD_eq_getElem?_getD, segL_at hn (by omega), show i + (n - 1) = i + n - 1 from by omega]
  rw [this]

theorem wrap3 {A G w : Int} (a0 : 0 ≤ A) (a1 : A ≤ 40) (g0 : 0 ≤ G) (g1 : G ≤ 40) (w0 : 0 ≤ w) (w1 : w ≤ 20) : IntKind.wrap .i64 (IntKind.wrap .i64 (A + G) + w) = A + G + w ∧ IntKind.wrap .i64 (A - w) = A - w := by
  rw [wrap64 (x := A + G) (by omega) (by omega), wrap64 (by omega) (by omega), wrap64 (by omega) (by omega)]
  exact ⟨rfl, rfl⟩

theorem step_I {l : TX} {h : HK} {w m : Int} {out : GR} {i : Nat} (hl : l.length ≤ 40) (hg : hunksP (l.length : Int) h = true) (hw0 : 0 ≤ w) (hw1 : w ≤ 20) (hi : i < h.length) (hm0 : -10000 ≤ m) (hm1 : m ≤ 10000) (hout : out.length ≤ 100) :
    b_I_groupsOf_3 l h w out m i = some (.inl (l, h, w, out ++ [grp l h w i (lastF h w 20 i + 1 - i) m], (res l h w i (lastF h w 20 i + 1 - i) m).2.2, ((lastF h w 20 i + 1 : Nat) : Int), ())) ∧
    m - 100 * ((lastF h w 20 i + 1 - i : Nat) : Int) ≤ (res l h w i (lastF h w 20 i + 1 - i) m).2.2 ∧ (res l h w i (lastF h w 20 i + 1 - i) m).2.2 ≤ m + 100 * ((lastF h w 20 i + 1 - i : Nat) : Int) ∧ (res l h w i (lastF h w 20 i + 1 - i) m).1.length ≤ 2400 := by
  obtain ⟨_, _, h20, _⟩ := hunk_facts hg
  obtain ⟨l1, l2⟩ := lastF_lt h w 20 i hi
  have hG := gOk hl hg hw0 hi
  have hn : i + (lastF h w 20 i + 1 - i) ≤ h.length := by omega
  obtain ⟨s1, s2⟩ := seg_I (w := w) (out := out) (e := end0 l h w (lastF h w 20 i)) (g1 := at0 h w i) (g2 := at0 h w i + m) hl hg hn (by omega) hm0 hm1 hG.a0 hG.a1 hG.a2
  rw [show i + (lastF h w 20 i + 1 - i) - 1 = lastF h w 20 i from by omega, show i + (lastF h w 20 i + 1 - i) = lastF h w 20 i + 1 from by omega] at s1
  have hr := res_at (l := l) (w := w) (m := m) hn (by omega)
  rw [show i + (lastF h w 20 i + 1 - i) - 1 = lastF h w 20 i from by omega] at hr
  obtain ⟨e1, e2, e3, e4, e5, e6⟩ := hG.e1 (lastF h w 20 i) l2
  obtain ⟨_, _, f3, f4, f5, f6⟩ := hG.e1 i hi
  obtain ⟨w1, _⟩ := wrap3 e3 e4 e5 e6 hw0 hw1
  obtain ⟨_, w2⟩ := wrap3 f3 f4 f5 f6 hw0 hw1
  have hga0 := hG.a0
  have hga1 := hG.a1
  have r0 := s2.rows
  have r1 := s2.at0
  have r2 := s2.m0
  have r3 := s2.m1
  have hN : lastF h w 20 i + 1 - i ≤ 20 := by omega
  refine ⟨?_, ?_, ?_, ?_⟩
  · unfold b_I_groupsOf_3
    rw [decide_eq_true (by omega : (i : Int) < (h.length : Int)), cond_true, last_I h20 20 i hi (by omega), Option.bind_some]
    dsimp only
    rw [inB_lt hi, cond_true, inB_lt l2, cond_true, cond_true, toNat_cast, toNat_cast, w2, w1]
    have ea : (bif decide ((0 : Int) > (h.getD i H0).1 - w) then (0 : Int) else (h.getD i H0).1 - w) = at0 h w i := by
      unfold at0
      generalize (h.getD i H0).1 = A
      by_cases c : A - w < 0
      · rw [if_pos c, decide_eq_true c]; rfl
      · rw [if_neg c, decide_eq_false c]; rfl
    have ee : (bif decide ((l.length : Int) < (h.getD (lastF h w 20 i) H0).1 + (h.getD (lastF h w 20 i) H0).2.1 + w) then (l.length : Int) else (h.getD (lastF h w 20 i) H0).1 + (h.getD (lastF h w 20 i) H0).2.1 + w) = end0 l h w (lastF h w 20 i) := by
      unfold end0
      generalize (h.getD (lastF h w 20 i) H0).1 + (h.getD (lastF h w 20 i) H0).2.1 + w = A
      by_cases c : (l.length : Int) < A
      · rw [if_pos c, decide_eq_true c]; rfl
      · rw [if_neg c, decide_eq_false c]; rfl
    rw [ea, ee, wrap64 (x := at0 h w i + m) (by omega) (by omega), s1, Option.bind_some]
    dsimp only
    unfold res at hr
    rw [hr, cutB_ok (Int.add_nonneg e3 e5) e1 e2, cond_true, rl_183_131_1 (by have := @cutL_le l ((h.getD (lastF h w 20 i) H0).1 + (h.getD (lastF h w 20 i) H0).2.1) (end0 l h w (lastF h w 20 i)); omega), Option.bind_some]
    dsimp only
    rw [roomB_ok (by simp only [List.length_cons, List.length_nil]; omega), cond_true]
    unfold grp res
    rw [show i + (lastF h w 20 i + 1 - i) - 1 = lastF h w 20 i from by omega, hr]
  · show _ ≤ ((segL h i (lastF h w 20 i + 1 - i)).foldl (stepR l) ([], at0 h w i, m)).2.2
    omega
  · show ((segL h i (lastF h w 20 i + 1 - i)).foldl (stepR l) ([], at0 h w i, m)).2.2 ≤ _
    omega
  · show ((segL h i (lastF h w 20 i + 1 - i)).foldl (stepR l) ([], at0 h w i, m)).1.length ≤ _
    omega

theorem groups_loop_I {l : TX} {h : HK} {w : Int} (hl : l.length ≤ 40) (hg : hunksP (l.length : Int) h = true) (hw0 : 0 ≤ w) (hw1 : w ≤ 20) : ∀ (f i : Nat) (out : GR) (m : Int), h.length - i ≤ f → i ≤ h.length → out.length ≤ i → -100 * (i : Int) ≤ m → m ≤ 100 * (i : Int) →
    w_I_groupsOf_3 (l, h, w, out, m, (i : Int), ()) = some (out ++ groupsF l h w f i m, ()) := by
  obtain ⟨_, _, h20, _⟩ := hunk_facts hg
  have stop : ∀ (i : Nat) (out : GR) (m : Int), ¬ i < h.length → w_I_groupsOf_3 (l, h, w, out, m, (i : Int), ()) = some (out, ()) := by
    intro i out m hi'
    refine fix_end (B := fun d => b_I_groupsOf_3 d.1 d.2.1 d.2.2.1 d.2.2.2.1 d.2.2.2.2.1 d.2.2.2.2.2.1) ?_
    show b_I_groupsOf_3 l h w out m i = _
    unfold b_I_groupsOf_3
    rw [decide_eq_false (by omega : ¬ ((i : Int) < (h.length : Int))), cond_false]
  intro f
  induction f with
  | zero =>
    intro i out m hf hi ho hm0 hm1
    rw [stop i out m (by omega)]
    simp [groupsF]
  | succ f ih =>
    intro i out m hf hi ho hm0 hm1
    by_cases hi' : i < h.length
    · obtain ⟨s1, s2, s3, s4⟩ := step_I (m := m) (out := out) hl hg hw0 hw1 hi' (by omega) (by omega) (by omega)
      obtain ⟨l1, l2⟩ := lastF_lt h w 20 i hi'
      refine Eq.trans (fix_go (B := fun d => b_I_groupsOf_3 d.1 d.2.1 d.2.2.1 d.2.2.2.1 d.2.2.2.2.1 d.2.2.2.2.2.1) s1) ?_
      refine Eq.trans (ih (lastF h w 20 i + 1) _ _ (by omega) (by omega) (by rw [List.length_append, List.length_cons, List.length_nil]; omega) (by omega) (by omega)) ?_
      simp only [groupsF, if_pos hi', List.append_assoc, List.cons_append, List.nil_append]
    · rw [stop i out m hi']
      simp [groupsF, hi']
end R
end

section
/- Groups of hunks as the reference makes them; the text all in one. -/
open Go Go.Dn
namespace R
set_option linter.unusedVariables false

theorem rows_S1 (k : Int) (lines : TX) (hl : lines.length ≤ 1000) : f_S_l6Rows k lines = some ((rowsK k lines, ()), ()) := by
  have hf := fix_fold (B := fun d => b_S_l6Rows_3 d.1 d.2.1 d.2.2.1 d.2.2.2.1 d.2.2.2.2.1) lines (fun (a : RW) s => a ++ [((k, (s, ())) : PV Y_impl_Row)]) (fun a i => (k, a, lines, (lines.length : Int), (i : Int), ())) (fun a => (a, ())) (fun i a => a.length = i)
    (fun i hi a hI => by
      refine ⟨by simp [hI], ?_⟩
      show b_S_l6Rows_3 k a lines lines.length i = _
      unfold b_S_l6Rows_3
      rw [decide_eq_true (by omega : (i : Int) < (lines.length : Int)), cond_true, inB_lt hi, cond_true, toNat_cast, getD_of hi, roomB_ok (by simp only [List.length_cons, List.length_nil]; omega), cond_true, wrap64 (x := (i : Int) + 1) (by omega) (by omega)]
      rfl)
    (fun a _ => by
      show b_S_l6Rows_3 k a lines lines.length lines.length = _
      unfold b_S_l6Rows_3
      rw [decide_eq_false (Int.lt_irrefl _), cond_false]) [] rfl
  rw [foldl_row] at hf
  unfold f_S_l6Rows
  rw [show w_S_l6Rows_3 (k, [], lines, (lines.length : Int), 0, ()) = _ from hf.1]
  rfl

theorem more_fold {l : TX} : ∀ (s : HK) (a : St3), (s.foldl (stepR l) a).2.2 = s.foldl (fun (m : Int) (x : PV Y_impl_Hunk) => m + ((List.length x.2.2.1 : Int) - x.2.1)) a.2.2
  | [], a => rfl
  | x :: s, a => by rw [List.foldl_cons, List.foldl_cons, more_fold s]; rfl

theorem cut_seg {h : HK} {i j : Nat} (hij : i ≤ j) (hj : j ≤ h.length) : cutL (i : Int) (j : Int) h = segL h i (j - i) := by
  unfold cutL segL
  rw [toNat_cast, toNat_cast, List.drop_take]

theorem one_S {l : TX} {h : HK} {w m : Int} {i : Nat} (hl : l.length ≤ 40) (hg : hunksP (l.length : Int) h = true) (hw0 : 0 ≤ w) (hw1 : w ≤ 20) (hi : i < h.length) (hm0 : -10000 ≤ m) (hm1 : m ≤ 10000) :
    f_S_l6One l (segL h i (lastF h w 20 i + 1 - i)) w m = some ((grp l h w i (lastF h w 20 i + 1 - i) m, ()), ()) := by
  obtain ⟨_, _, h20, _⟩ := hunk_facts hg
  obtain ⟨l1, l2⟩ := lastF_lt h w 20 i hi
  have hG := gOk hl hg hw0 hi
  have hn : i + (lastF h w 20 i + 1 - i) ≤ h.length := by omega
  have ho := segOk hl hg hn
  have hsl := segL_len hn
  have hr := res_at (l := l) (w := w) (m := m) hn (by omega)
  rw [show i + (lastF h w 20 i + 1 - i) - 1 = lastF h w 20 i from by omega] at hr
  obtain ⟨e1, e2, e3, e4, e5, e6⟩ := hG.e1 (lastF h w 20 i) l2
  obtain ⟨_, _, f3, f4, f5, f6⟩ := hG.e1 i hi
  obtain ⟨w1, _⟩ := wrap3 e3 e4 e5 e6 hw0 hw1
  obtain ⟨_, w2⟩ := wrap3 f3 f4 f5 f6 hw0 hw1
  have hga0 := hG.a0
  have hga1 := hG.a1
  generalize hS : segL h i (lastF h w 20 i + 1 - i) = s at *
  have hs0 : s.getD 0 H0 = h.getD i H0 := by rw [← hS, segL_at hn (by omega), Nat.add_zero]
  have hsn : s.getD (s.length - 1) H0 = h.getD (lastF h w 20 i) H0 := by
    rw [← hS, segL_len hn, segL_at hn (by omega), show i + (lastF h w 20 i + 1 - i - 1) = lastF h w 20 i from by omega]
  generalize hz : ((0, (0, (([] : PV S_impl_Row), ()))) : PV Y_impl_Group) = z
  have hf := fix_fold (B := fun d => b_S_l6One_6 d.1 d.2.1 d.2.2.1 d.2.2.2.1 d.2.2.2.2.1 d.2.2.2.2.2.1 d.2.2.2.2.2.2.1 d.2.2.2.2.2.2.2.1 d.2.2.2.2.2.2.2.2.1) s (stepR l)
    (fun a k => (l, w, z, h.getD (lastF h w 20 i) H0, (at0 h w i, (at0 h w i + m, (a.1, ()))), a.2.1, s, (s.length : Int), (k : Int), ())) (fun a => (l, w, z, h.getD (lastF h w 20 i) H0, (at0 h w i, (at0 h w i + m, (a.1, ()))), a.2.1, ())) (SegI l s m)
    (fun k hk a hI => by
      have hx : s[k] = s.getD k H0 := (getD_of hk).symm
      have nx := seg_next ho hk hI
      rw [hx]
      refine ⟨nx, ?_⟩
      obtain ⟨q1, q2, q3, q4, q5⟩ := ho.at_ k hk
      have z1 := hI.rows
      have z2 := hI.at0
      have z4 := hI.next hk
      show b_S_l6One_6 l w z (h.getD (lastF h w 20 i) H0) (at0 h w i, (at0 h w i + m, (a.1, ()))) a.2.1 s s.length k = _
      unfold b_S_l6One_6
      rw [decide_eq_true (by omega : (k : Int) < (s.length : Int)), cond_true, inB_lt hk, cond_true, toNat_cast]
      generalize s.getD k H0 = x at *
      have c1 := @cutL_le l a.2.1 x.1
      have c2 := @cutL_le l x.1 (x.1 + x.2.1)
      have hxl : x.1 ≤ (l.length : Int) := Int.le_trans (Int.le_add_of_nonneg_right q2) q3
      rw [cutB_ok z2 z4 hxl, cond_true, rows_S1 1 _ (by omega), Option.bind_some]
      dsimp only
      rw [wrapE (L := (l.length : Int)) (by omega) q1 q2 q3, roomB_ok (by rw [rowsK_len]; omega), cond_true, cutB_ok q1 (Int.le_add_of_nonneg_right q2) q3, cond_true, rows_S1 2 _ (by omega), Option.bind_some]
      dsimp only
      rw [roomB_ok (by rw [List.length_append, rowsK_len, rowsK_len]; omega), cond_true, rows_S1 3 _ (by omega), Option.bind_some]
      dsimp only
      rw [roomB_ok (by rw [List.length_append, List.length_append, rowsK_len, rowsK_len, rowsK_len]; omega), cond_true, wrap64 (x := (k : Int) + 1) (by omega) (by omega)]
      rfl)
    (fun a _ => by
      show b_S_l6One_6 l w z (h.getD (lastF h w 20 i) H0) (at0 h w i, (at0 h w i + m, (a.1, ()))) a.2.1 s s.length s.length = _
      unfold b_S_l6One_6
      rw [decide_eq_false (Int.lt_irrefl _), cond_false]) ([], at0 h w i, m)
    ⟨Nat.zero_le _, hG.a0, hG.a1, fun hk => by rw [hs0]; exact hG.a2, by show m - 100 * ((0 : Nat) : Int) ≤ m; omega, by show m ≤ m + 100 * ((0 : Nat) : Int); omega⟩
  obtain ⟨hf, hI⟩ := hf
  have r0 := hI.rows
  have hres : s.foldl (stepR l) ([], at0 h w i, m) = res l h w i (lastF h w 20 i + 1 - i) m := by unfold res; rw [hS]
  rw [hres] at hf r0
  unfold f_S_l6One
  rw [show inB 0 s.length = true from inB_lt (i := 0) (by omega), cond_true, show ((0 : Int).toNat) = 0 from rfl]
  rw [show (dflt Y_impl_Hunk : PV Y_impl_Hunk) = H0 from rfl] at *
  rw [hs0, w2]
  have ea : f_S_l1Most 0 ((h.getD i H0).1 - w) = some ((at0 h w i, ()), ()) := by
    unfold f_S_l1Most at0
    generalize (h.getD i H0).1 = A
    by_cases c : A - w < 0
    · rw [if_pos c, decide_eq_true c]; rfl
    · rw [if_neg c, decide_eq_false c]; rfl
  have ee : f_S_l1Least (l.length : Int) ((h.getD (lastF h w 20 i) H0).1 + (h.getD (lastF h w 20 i) H0).2.1 + w) = some ((end0 l h w (lastF h w 20 i), ()), ()) := by
    unfold f_S_l1Least end0
    generalize (h.getD (lastF h w 20 i) H0).1 + (h.getD (lastF h w 20 i) H0).2.1 + w = A
    by_cases c : (l.length : Int) < A
    · rw [if_pos c, decide_eq_true c]; rfl
    · rw [if_neg c, decide_eq_false c]; rfl
  rw [ea, Option.bind_some]
  dsimp only
  rw [show IntKind.wrap .i64 ((s.length : Int) - 1) = ((s.length - 1 : Nat) : Int) from by rw [wrap64 (by omega) (by omega)]; omega, inB_lt (by omega), cond_true, toNat_cast, hsn, wrap64 (x := at0 h w i + m) (by omega) (by omega), hz]
  rw [show w_S_l6One_6 (l, w, z, h.getD (lastF h w 20 i) H0, (at0 h w i, (at0 h w i + m, (([] : PV S_impl_Row), ()))), at0 h w i, s, (s.length : Int), 0, ()) = _ from hf, Option.bind_some]
  dsimp only
  rw [w1, ee, Option.bind_some]
  dsimp only
  rw [hr, cutB_ok (Int.add_nonneg e3 e5) e1 e2, cond_true]
  have c3 := @cutL_le l ((h.getD (lastF h w 20 i) H0).1 + (h.getD (lastF h w 20 i) H0).2.1) (end0 l h w (lastF h w 20 i))
  rw [rows_S1 1 _ (by omega), Option.bind_some]
  dsimp only
  rw [roomB_ok (by rw [rowsK_len]; omega), cond_true]
  unfold grp
  rw [show i + (lastF h w 20 i + 1 - i) - 1 = lastF h w 20 i from by omega, hr]

theorem step_S {l : TX} {h : HK} {w m : Int} {out : GR} {i : Nat} (hl : l.length ≤ 40) (hg : hunksP (l.length : Int) h = true) (hw0 : 0 ≤ w) (hw1 : w ≤ 20) (hi : i < h.length) (hm0 : -5000 ≤ m) (hm1 : m ≤ 5000) (hout : out.length ≤ 100) :
    b_S_l6Groups_4 l h w out m i = some (.inl (l, h, w, out ++ [grp l h w i (lastF h w 20 i + 1 - i) m], (res l h w i (lastF h w 20 i + 1 - i) m).2.2, ((lastF h w 20 i + 1 : Nat) : Int), ())) := by
  obtain ⟨_, _, h20, _⟩ := hunk_facts hg
  obtain ⟨l1, l2⟩ := lastF_lt h w 20 i hi
  have hn : i + (lastF h w 20 i + 1 - i) ≤ h.length := by omega
  have ho := segOk hl hg hn
  have hsl := segL_len hn
  have hone := one_S hl hg hw0 hw1 hi (m := m) (by omega) (by omega)
  have hc : cutL (i : Int) ((lastF h w 20 i + 1 : Nat) : Int) h = segL h i (lastF h w 20 i + 1 - i) := cut_seg (by omega) (by omega)
  have hres : (res l h w i (lastF h w 20 i + 1 - i) m).2.2 = (segL h i (lastF h w 20 i + 1 - i)).foldl (fun (m : Int) (x : PV Y_impl_Hunk) => m + ((List.length x.2.2.1 : Int) - x.2.1)) m := by
    unfold res
    rw [more_fold]
  rw [hres]
  unfold b_S_l6Groups_4
  rw [decide_eq_true (by omega : (i : Int) < (h.length : Int)), cond_true, show IntKind.wrap .i64 ((i : Int) + 1) = ((i + 1 : Nat) : Int) from by rw [wrap64 (by omega) (by omega)]; omega, last_S h20 20 i hi (by omega), Option.bind_some]
  dsimp only
  rw [cutB_ok (by omega) (by omega) (by omega), cond_true, hc, hone, Option.bind_some]
  dsimp only
  rw [roomB_ok (by simp only [List.length_cons, List.length_nil]; omega), cond_true, cond_true]
  generalize segL h i (lastF h w 20 i + 1 - i) = s at *
  generalize out ++ [grp l h w i (lastF h w 20 i + 1 - i) m] = out2
  generalize ((lastF h w 20 i + 1 : Nat) : Int) = jj
  have hf := fix_fold (B := fun d => b_S_l6Groups_10 d.1 d.2.1 d.2.2.1 d.2.2.2.1 d.2.2.2.2.1 d.2.2.2.2.2.1 d.2.2.2.2.2.2.1 d.2.2.2.2.2.2.2.1 d.2.2.2.2.2.2.2.2.1) s (fun (m : Int) (x : PV Y_impl_Hunk) => m + ((List.length x.2.2.1 : Int) - x.2.1))
    (fun a k => (l, h, w, out2, a, jj, s, (s.length : Int), (k : Int), ())) (fun a => (l, h, w, out2, a, jj, ())) (fun k a => -5000 - 100 * (k : Int) ≤ a ∧ a ≤ 5000 + 100 * (k : Int))
    (fun k hk a hI => by
      have hx : s[k] = s.getD k H0 := (getD_of hk).symm
      have h20s := ho.len
      obtain ⟨q1, q2, q3, q4, q5⟩ := ho.at_ k hk
      rw [hx]
      have hg40 : (s.getD k H0).2.1 ≤ 40 := Int.le_trans (Int.le_trans (Int.le_add_of_nonneg_left q1) q3) (by omega)
      have key : ∀ v z : Int, 0 ≤ v → v ≤ 40 → 0 ≤ z → z ≤ 40 → -5000 - 100 * ((k + 1 : Nat) : Int) ≤ a + (v - z) ∧ a + (v - z) ≤ 5000 + 100 * ((k + 1 : Nat) : Int) := fun v z _ _ _ _ => by omega
      refine ⟨key _ _ (Int.natCast_nonneg _) (by omega) q2 hg40, ?_⟩
      show b_S_l6Groups_10 l h w out2 a jj s s.length k = _
      unfold b_S_l6Groups_10
      rw [decide_eq_true (by omega : (k : Int) < (s.length : Int)), cond_true, inB_lt hk, cond_true, toNat_cast]
      rw [show (dflt Y_impl_Hunk : PV Y_impl_Hunk) = H0 from rfl, wrapM (by omega) (by omega) (Int.natCast_nonneg _) (by omega) q2 hg40, wrap64 (x := (k : Int) + 1) (by omega) (by omega)]
      rfl)
    (fun a _ => by
      show b_S_l6Groups_10 l h w out2 a jj s s.length s.length = _
      unfold b_S_l6Groups_10
      rw [decide_eq_false (Int.lt_irrefl _), cond_false]) m ⟨by omega, by omega⟩
  rw [show w_S_l6Groups_10 (l, h, w, out2, m, jj, s, (s.length : Int), 0, ()) = _ from hf.1, Option.bind_some]

theorem groups_loop_S {l : TX} {h : HK} {w : Int} (hl : l.length ≤ 40) (hg : hunksP (l.length : Int) h = true) (hw0 : 0 ≤ w) (hw1 : w ≤ 20) : ∀ (f i : Nat) (out : GR) (m : Int), h.length - i ≤ f → i ≤ h.length → out.length ≤ i → -100 * (i : Int) ≤ m → m ≤ 100 * (i : Int) →
    w_S_l6Groups_4 (l, h, w, out, m, (i : Int), ()) = some (out ++ groupsF l h w f i m, ()) := by
  obtain ⟨_, _, h20, _⟩ := hunk_facts hg
  have stop : ∀ (i : Nat) (out : GR) (m : Int), ¬ i < h.length → w_S_l6Groups_4 (l, h, w, out, m, (i : Int), ()) = some (out, ()) := by
    intro i out m hi'
    refine fix_end (B := fun d => b_S_l6Groups_4 d.1 d.2.1 d.2.2.1 d.2.2.2.1 d.2.2.2.2.1 d.2.2.2.2.2.1) ?_
    show b_S_l6Groups_4 l h w out m i = _
    unfold b_S_l6Groups_4
    rw [decide_eq_false (by omega : ¬ ((i : Int) < (h.length : Int))), cond_false]
  intro f
  induction f with
  | zero =>
    intro i out m hf hi ho hm0 hm1
    rw [stop i out m (by omega)]
    simp [groupsF]
  | succ f ih =>
    intro i out m hf hi ho hm0 hm1
    by_cases hi' : i < h.length
    · obtain ⟨_, s2, s3, s4⟩ := step_I (out := out) hl hg hw0 hw1 hi' (m := m) (by omega) (by omega) (by omega)
      have s1 := step_S (out := out) hl hg hw0 hw1 hi' (m := m) (by omega) (by omega) (by omega)
      obtain ⟨l1, l2⟩ := lastF_lt h w 20 i hi'
      refine Eq.trans (fix_go (B := fun d => b_S_l6Groups_4 d.1 d.2.1 d.2.2.1 d.2.2.2.1 d.2.2.2.2.1 d.2.2.2.2.2.1) s1) ?_
      refine Eq.trans (ih (lastF h w 20 i + 1) _ _ (by omega) (by omega) (by rw [List.length_append, List.length_cons, List.length_nil]; omega) (by omega) (by omega)) ?_
      simp only [groupsF, if_pos hi', List.append_assoc, List.cons_append, List.nil_append]
    · rw [stop i out m hi']
      simp [groupsF, hi']

/-! ### small -/
theorem rowsK_sm (k : Int) {l : TX} (h : ∀ s ∈ l, s.length ≤ 1048576) : ∀ r ∈ rowsK k l, List.length (r : PV Y_impl_Row).2.1 ≤ 1048576 := by
  intro r hr
  unfold rowsK at hr
  obtain ⟨s, hs, rfl⟩ := List.mem_map.1 hr
  exact h s hs
theorem seg_sm {l : TX} (hl : ∀ s ∈ l, s.length ≤ 1048576) : ∀ (s : HK) (a : St3), (∀ x ∈ s, ∀ y ∈ ((x : PV Y_impl_Hunk).2.2.1 : TX), y.length ≤ 1048576) → (∀ r ∈ a.1, List.length (r : PV Y_impl_Row).2.1 ≤ 1048576) → ∀ r ∈ (s.foldl (stepR l) a).1, List.length (r : PV Y_impl_Row).2.1 ≤ 1048576
  | [], a, _, h => h
  | x :: s, a, hx, h => by
    rw [List.foldl_cons]
    refine seg_sm hl s _ (fun y hy => hx y (List.mem_cons_of_mem _ hy)) fun r hr => ?_
    have hr : r ∈ ((a.1 ++ rowsK 1 (cutL a.2.1 x.1 l)) ++ rowsK 2 (cutL x.1 (x.1 + x.2.1) l)) ++ rowsK 3 x.2.2.1 := hr
    rcases List.mem_append.1 hr with hr | hr
    · rcases List.mem_append.1 hr with hr | hr
      · rcases List.mem_append.1 hr with hr | hr
        · exact h r hr
        · exact rowsK_sm 1 (fun s hs => hl s (cut_mem hs)) r hr
      · exact rowsK_sm 2 (fun s hs => hl s (cut_mem hs)) r hr
    · exact rowsK_sm 3 (hx x (List.mem_cons_self ..)) r hr

def SmB (l : TX) : Prop := ∀ s ∈ l, s.length ≤ 1048576
def SmBH (h : HK) : Prop := ∀ x ∈ h, ∀ y ∈ ((x : PV Y_impl_Hunk).2.2.1 : TX), y.length ≤ 1048576
theorem seg_mem {h : HK} {i n : Nat} {x : PV Y_impl_Hunk} (hx : x ∈ segL h i n) : x ∈ h := List.mem_of_mem_drop (List.mem_of_mem_take hx)

theorem groupsF_sm {l : TX} {h : HK} {w : Int} (hl : l.length ≤ 40) (hg : hunksP (l.length : Int) h = true) (hw0 : 0 ≤ w) (hw1 : w ≤ 20) (hb : SmB l) (hbh : SmBH h) : ∀ (f i : Nat) (m : Int), i ≤ h.length → -100 * (i : Int) ≤ m → m ≤ 100 * (i : Int) →
    (groupsF l h w f i m).length ≤ f ∧ ∀ x ∈ groupsF l h w f i m, SmR (x : PV Y_impl_Group).2.2.1 := by
  obtain ⟨_, _, h20, _⟩ := hunk_facts hg
  intro f
  induction f with
  | zero => exact fun i m _ _ _ => ⟨Nat.le_refl _, fun x hx => by cases hx⟩
  | succ f ih =>
    intro i m hi hm0 hm1
    simp only [groupsF]
    by_cases hi' : i < h.length
    · rw [if_pos hi']
      obtain ⟨_, s2, s3, s4⟩ := step_I (out := []) hl hg hw0 hw1 hi' (m := m) (by omega) (by omega) (by simp)
      obtain ⟨l1, l2⟩ := lastF_lt h w 20 i hi'
      obtain ⟨i1, i2⟩ := ih (lastF h w 20 i + 1) (res l h w i (lastF h w 20 i + 1 - i) m).2.2 (by omega) (by omega) (by omega)
      refine ⟨by rw [List.length_cons]; omega, fun x hx => ?_⟩
      rcases List.mem_cons.1 hx with rfl | hx
      · have c3 := @cutL_le l (res l h w i (lastF h w 20 i + 1 - i) m).2.1 (end0 l h w (i + (lastF h w 20 i + 1 - i) - 1))
        refine ⟨?_, fun r hr => ?_⟩
        · show List.length (_ ++ rowsK 1 _) ≤ _
          rw [List.length_append, rowsK_len]
          omega
        · have hr : r ∈ (res l h w i (lastF h w 20 i + 1 - i) m).1 ++ rowsK 1 (cutL (res l h w i (lastF h w 20 i + 1 - i) m).2.1 (end0 l h w (i + (lastF h w 20 i + 1 - i) - 1)) l) := hr
          rcases List.mem_append.1 hr with hr | hr
          · unfold res at hr
            exact seg_sm hb _ _ (fun x hx => hbh x (seg_mem hx)) (fun r hr => by cases hr) r hr
          · exact rowsK_sm 1 (fun s hs => hb s (cut_mem hs)) r hr
      · exact i2 x hx
    · rw [if_neg hi']
      exact ⟨Nat.zero_le _, fun x hx => by cases hx⟩

def goOk (l : TX) (h : HK) (w : Int) : Bool := patchOk l h && inI w 0 20
def goR (l : TX) (h : HK) (w : Int) : GR := bif goOk l h w then groupsF l h w 20 0 0 else []

theorem goOk_at {l : TX} {h : HK} {w : Int} (hk : goOk l h w = true) : l.length ≤ 40 ∧ hunksP (l.length : Int) h = true ∧ 0 ≤ w ∧ w ≤ 20 ∧ h.length ≤ 20 := by
  unfold goOk patchOk inI at hk
  simp only [Bool.and_eq_true, decide_eq_true_eq] at hk
  obtain ⟨⟨h1, h2, h3⟩, h4, h5⟩ := hk
  obtain ⟨_, _, h20, _⟩ := hunk_facts h2
  exact ⟨goodP_len h1, h2, h4, h5, h20⟩

theorem groupsOf_I {l : TX} {h : HK} {w : Int} (hl : Sm l) (hh : SmH h) : f_I_GroupsOf l h w = some ((goR l h w, goOk l h w, ()), ()) := by
  unfold f_I_GroupsOf f_I_isWidth goR
  rw [patch_I hl hh, Option.bind_some]
  dsimp only
  cases hp : patchOk l h
  · unfold goOk; rw [hp]; rfl
  · rw [Bool.not_true, cond_false, in_I, Option.bind_some, Option.bind_some, Option.bind_some]
    dsimp only
    rw [show (decide (w ≥ 0) && decide (w ≤ 20)) = inI w 0 20 from rfl]
    cases hw : inI w 0 20
    · unfold goOk; rw [hp, hw]; rfl
    · have hk : goOk l h w = true := by unfold goOk; rw [hp, hw]; rfl
      obtain ⟨k1, k2, k3, k4, k5⟩ := goOk_at hk
      rw [hk, Bool.not_true, cond_false, cond_true]
      unfold f_I_groupsOf
      rw [show w_I_groupsOf_3 (l, h, w, ([] : PV S_impl_Group), 0, 0, ()) = _ from groups_loop_I k1 k2 k3 k4 20 0 [] 0 (by omega) (by omega) (Nat.le_refl _) (by simp) (by simp), Option.bind_some, Option.bind_some]
      rfl
theorem groupsOf_S {l : TX} {h : HK} {w : Int} (hl : Sm l) (hh : SmH h) : f_S_GroupsOf l h w = some ((goR l h w, goOk l h w, ()), ()) := by
  unfold f_S_GroupsOf goR
  rw [patch_S hl hh, Option.bind_some]
  dsimp only
  cases hp : patchOk l h
  · unfold goOk; rw [hp]; rfl
  · rw [Bool.not_true, cond_false, in_S, Option.bind_some, Option.bind_some]
    dsimp only
    rw [show (decide (w ≥ 0) && decide (w ≤ 20)) = inI w 0 20 from rfl]
    cases hw : inI w 0 20
    · unfold goOk; rw [hp, hw]; rfl
    · have hk : goOk l h w = true := by unfold goOk; rw [hp, hw]; rfl
      obtain ⟨k1, k2, k3, k4, k5⟩ := goOk_at hk
      rw [hk, Bool.not_true, cond_false, cond_true]
      unfold f_S_l6Groups
      rw [show w_S_l6Groups_4 (l, h, w, [], 0, 0, ()) = _ from groups_loop_S k1 k2 k3 k4 20 0 [] 0 (by omega) (by omega) (Nat.le_refl _) (by simp) (by simp), Option.bind_some, Option.bind_some]
      rfl
theorem goR_sm {l : TX} {h : HK} {w : Int} (hb : SmB l) (hbh : SmBH h) : SmG (goR l h w) := by
  unfold goR
  cases hk : goOk l h w
  · exact ⟨by simp, fun x hx => by cases hx⟩
  · obtain ⟨k1, k2, k3, k4, k5⟩ := goOk_at hk
    obtain ⟨q1, q2⟩ := groupsF_sm k1 k2 k3 k4 hb hbh 20 0 0 (by omega) (by simp) (by simp)
    exact ⟨by rw [cond_true]; omega, q2⟩

def utOk (l : TX) (h : HK) (w : Int) : Bool := goOk l h w && gtOk (goR l h w)
def utR (l : TX) (h : HK) (w : Int) : List UInt8 := bif goOk l h w then gtR (goR l h w) else []
theorem unified_I {l : TX} {h : HK} {w : Int} (hl : Sm l) (hh : SmH h) (hb : SmB l) (hbh : SmBH h) : f_I_UnifiedText l h w = some ((utR l h w, utOk l h w, ()), ()) := by
  unfold f_I_UnifiedText utR utOk
  rw [groupsOf_I hl hh, Option.bind_some]
  dsimp only
  cases hk : goOk l h w
  · rfl
  · rw [Bool.not_true, cond_false, groupsTextR_I (goR_sm hb hbh), Option.bind_some]
    rfl
theorem unified_S {l : TX} {h : HK} {w : Int} (hl : Sm l) (hh : SmH h) (hb : SmB l) (hbh : SmBH h) : f_S_UnifiedText l h w = some ((utR l h w, utOk l h w, ()), ()) := by
  unfold f_S_UnifiedText utR utOk
  rw [groupsOf_S hl hh, Option.bind_some]
  dsimp only
  cases hk : goOk l h w
  · rfl
  · rw [Bool.not_true, cond_false, groupsTextR_S (goR_sm hb hbh), Option.bind_some]
    rfl

theorem smB_of {e : TypeId} {l : TX} (h : tot (.slice e .str) l ≤ 1048576) : SmB l := fun s hs => by
  have := tot_all h s hs
  rwa [tot_str] at this
theorem smBH_of {e : TypeId} {h : HK} (hs : tot (.slice e Y_impl_Hunk) h ≤ 1048576) : SmBH h := fun x hx => by
  have := tot_all hs x hx
  refine smB_of (e := 0) ?_
  simp only [tot] at this ⊢
  omega

theorem law_UnifiedText (t0 : PV S_string) (t1 : PV S_laws_Hunk) (t2 : PV (.int .i64)) (hw : WfV S_string t0) (hw1 : WfV S_laws_Hunk t1) (_ : WfV (.int .i64) t2) : f_L_FnExactUnifiedText t0 t1 t2 = some ((true, ()), ()) := by
  unfold f_L_FnExactUnifiedText
  rw [p_L_szStringS t0 1048576 (by omega) (by omega) hw, Option.bind_some]
  by_cases hs : ((tot S_string t0 : Nat) : Int) ≤ 1048576
  · rw [szR_pos hs]
    dsimp only
    rw [decide_eq_false (by omega : ¬ ((1048576 : Int) - ((tot S_string t0 : Nat) : Int) < 0)), cond_false]
    rw [p_L_szHunkS t1 (1048576 - ((tot S_string t0 : Nat) : Int)) (by omega) (by omega) hw1, Option.bind_some]
    by_cases hs1 : ((tot S_laws_Hunk t1 : Nat) : Int) ≤ 1048576 - ((tot S_string t0 : Nat) : Int)
    · rw [szR_pos hs1]
      dsimp only
      have hs' : tot S_string t0 ≤ 1048576 := by omega
      have hs1' : tot S_laws_Hunk t1 ≤ 1048576 := by omega
      have hb1 : tot S_impl_Hunk t1 ≤ 1048576 := hs1'
      have hl : Sm t0 := Sm.of hs' (by omega)
      have hh : SmH t1 := SmH.of (e := 0) hb1 (by omega)
      have hb : SmB t0 := smB_of (e := 0) hs'
      have hbh : SmBH t1 := smBH_of (e := 0) hb1
      rw [decide_eq_false (by omega : ¬ ((1048576 : Int) - ((tot S_string t0 : Nat) : Int) - ((tot S_laws_Hunk t1 : Nat) : Int) < 0)), cond_false]
      simp only [p_L_toStringS t0 hs', p_L_toHunkS t1 hs1', unified_S hl hh hb hbh, unified_I hl hh hb hbh, Option.bind_some, p_L_eqStringS t0 (by omega), p_L_eqHunkS t1 (by omega), beq_self_eq_true, Bool.not_true, cond_false]
    · rw [szR_neg hs1]; rfl
  · rw [szR_neg hs]; rfl
end R
end

section
/- Runs of rows that change something. -/
open Go Go.Dn
namespace R
set_option linter.unusedVariables false

def lo (rows : RW) : Nat → Nat
  | 0 => 0
  | k + 1 => bif kd rows k == 1 then k + 1 else lo rows k
def hiF (rows : RW) : Nat → Nat → Nat
  | 0, k => k
  | f + 1, k => bif kd rows k == 1 then k else hiF rows f (k + 1)
def hi (rows : RW) (k : Nat) : Nat := hiF rows (rows.length - k) k
def anyC (rows : RW) (c : Int) (i j : Nat) : Bool := ((rows.take j).drop i).any fun (r : PV Y_impl_Row) => r.1 == c
def runA (rows : RW) (c : Int) (k : Nat) : Bool := anyC rows c (lo rows k) (hi rows k)

theorem anyC_self {rows : RW} {c : Int} {i : Nat} (h : i ≤ rows.length) : anyC rows c i i = false := by
  unfold anyC
  rw [List.drop_eq_nil_of_le (by simp; omega)]
  rfl
theorem anyC_succ {rows : RW} {c : Int} {i j : Nat} (hij : i ≤ j) (hj : j < rows.length) : anyC rows c i (j + 1) = (anyC rows c i j || (kd rows j == c)) := by
  unfold anyC kd
  rw [← List.take_append_getElem hj, List.drop_append_of_le_length (by simp; omega), List.any_append, getD_of hj]
  simp
theorem anyC_mem {rows : RW} {c : Int} {i j k : Nat} (h1 : i ≤ k) (h2 : k < j) (hj : j ≤ rows.length) (hk : kd rows k = c) : anyC rows c i j = true := by
  unfold anyC
  rw [List.any_eq_true]
  have hk' : k < rows.length := by omega
  refine ⟨rows[k], ?_, ?_⟩
  · rw [List.mem_iff_getElem]
    exact ⟨k - i, by simp; omega, by simp [show i + (k - i) = k from by omega]⟩
  · unfold kd at hk
    rw [getD_of hk'] at hk
    rw [hk]
    exact beq_self_eq_true c

theorem lo_le (rows : RW) : ∀ k, lo rows k ≤ k
  | 0 => Nat.le_refl _
  | k + 1 => by
    simp only [lo]
    have := lo_le rows k
    cases (kd rows k == 1)
    · rw [cond_false]; omega
    · rw [cond_true]; omega
theorem lo_run {rows : RW} {i : Nat} (hi0 : lo rows i = i) : ∀ k, i ≤ k → (∀ m, i ≤ m → m < k → (kd rows m == 1) = false) → lo rows k = i
  | 0, h, _ => by
    have : i = 0 := by omega
    subst this; rfl
  | k + 1, h, hm => by
    by_cases e : i = k + 1
    · rw [← e]; exact hi0
    · simp only [lo]
      rw [hm k (by omega) (by omega), cond_false]
      exact lo_run hi0 k (by omega) fun m h1 h2 => hm m h1 (by omega)

theorem hiF_spec (rows : RW) : ∀ f k, k ≤ hiF rows f k ∧ hiF rows f k ≤ k + f ∧ (∀ m, k ≤ m → m < hiF rows f k → (kd rows m == 1) = false) ∧ (hiF rows f k < k + f → (kd rows (hiF rows f k) == 1) = true)
  | 0, k => ⟨Nat.le_refl _, Nat.le_refl _, fun m h1 h2 => by simp only [hiF] at h2; omega, fun h => by simp only [hiF] at h; omega⟩
  | f + 1, k => by
    simp only [hiF]
    cases h : (kd rows k == 1)
    · rw [cond_false]
      obtain ⟨a1, a2, a3, a4⟩ := hiF_spec rows f (k + 1)
      refine ⟨by omega, by omega, fun m h1 h2 => ?_, fun hh => a4 (by omega)⟩
      by_cases e : m = k
      · subst e; exact h
      · exact a3 m (by omega) h2
    · rw [cond_true]
      exact ⟨Nat.le_refl _, by omega, fun m h1 h2 => by omega, fun _ => h⟩
theorem hi_spec {rows : RW} {k : Nat} (hk : k ≤ rows.length) : k ≤ hi rows k ∧ hi rows k ≤ rows.length ∧ (∀ m, k ≤ m → m < hi rows k → (kd rows m == 1) = false) ∧ (hi rows k < rows.length → (kd rows (hi rows k) == 1) = true) := by
  obtain ⟨a1, a2, a3, a4⟩ := hiF_spec rows (rows.length - k) k
  unfold hi
  exact ⟨a1, by omega, a3, fun h => a4 (by omega)⟩
theorem hi_run {rows : RW} {i k : Nat} (hin : i ≤ rows.length) (h1 : i ≤ k) (h2 : k < hi rows i) : hi rows k = hi rows i := by
  obtain ⟨a1, a2, a3, a4⟩ := hi_spec hin
  obtain ⟨b1, b2, b3, b4⟩ := hi_spec (rows := rows) (k := k) (by omega)
  rcases Nat.lt_trichotomy (hi rows k) (hi rows i) with h | h | h
  · have e1 := b4 (by omega)
    rw [a3 (hi rows k) (by omega) h] at e1
    cases e1
  · exact h
  · have e1 := a4 (by omega)
    rw [b3 (hi rows i) (by omega) h] at e1
    cases e1

theorem run_lo {g : PV Y_impl_Group} {rows : RW} (hg : g.2.2.1 = rows) (hl : rows.length ≤ 1048576) {c e : Int} : ∀ k, k ≤ rows.length → w_I_Group_runHas_2 (g, c, (k : Int), e, ()) = some (g, c, (lo rows k : Int), e, ())
  | 0, _ => by
    refine fix_end (B := fun d => b_I_Group_runHas_2 d.1 d.2.1 d.2.2.1 d.2.2.2.1) ?_
    show b_I_Group_runHas_2 g c ((0 : Nat) : Int) e = _
    unfold b_I_Group_runHas_2
    rw [decide_eq_false (by omega : ¬ (((0 : Nat) : Int) > 0)), cond_false]
    rfl
  | k + 1, hk => by
    have w1 : IntKind.wrap .i64 (((k + 1 : Nat) : Int) - 1) = (k : Int) := by rw [wrap64 (by omega) (by omega)]; omega
    have hs : b_I_Group_runHas_2 g c ((k + 1 : Nat) : Int) e = some (bif kd rows k == 1 then .inr (g, c, ((k + 1 : Nat) : Int), e, ()) else .inl (g, c, (k : Int), e, ())) := by
      unfold b_I_Group_runHas_2
      rw [hg, decide_eq_true (by omega : ((k + 1 : Nat) : Int) > 0), cond_true, w1, inB_lt (by omega : k < rows.length), cond_true, toNat_cast]
      unfold kd
      cases ((rows.getD k W0).1 == 1) <;> rfl
    simp only [lo]
    cases h : (kd rows k == 1)
    · rw [h, cond_false] at hs
      rw [cond_false]
      exact (fix_go (B := fun d => b_I_Group_runHas_2 d.1 d.2.1 d.2.2.1 d.2.2.2.1) hs).trans (run_lo hg hl k (by omega))
    · rw [h, cond_true] at hs
      rw [cond_true]
      exact fix_end (B := fun d => b_I_Group_runHas_2 d.1 d.2.1 d.2.2.1 d.2.2.2.1) hs

theorem run_hi {g : PV Y_impl_Group} {rows : RW} (hg : g.2.2.1 = rows) (hl : rows.length ≤ 1048576) {c e : Int} : ∀ f k, rows.length - k = f → k ≤ rows.length → w_I_Group_runHas_4 (g, c, e, (k : Int), ()) = some (g, c, e, (hiF rows f k : Int), ())
  | 0, k, hf, hk => by
    refine fix_end (B := fun d => b_I_Group_runHas_4 d.1 d.2.1 d.2.2.1 d.2.2.2.1) ?_
    show b_I_Group_runHas_4 g c e (k : Int) = _
    unfold b_I_Group_runHas_4
    rw [hg, decide_eq_false (by omega : ¬ ((k : Int) < (rows.length : Int))), cond_false]
    rfl
  | f + 1, k, hf, hk => by
    have w1 : IntKind.wrap .i64 ((k : Int) + 1) = ((k + 1 : Nat) : Int) := by rw [wrap64 (by omega) (by omega)]; omega
    have hs : b_I_Group_runHas_4 g c e (k : Int) = some (bif kd rows k == 1 then .inr (g, c, e, (k : Int), ()) else .inl (g, c, e, ((k + 1 : Nat) : Int), ())) := by
      unfold b_I_Group_runHas_4
      rw [hg, decide_eq_true (by omega : (k : Int) < (rows.length : Int)), cond_true, inB_lt (by omega : k < rows.length), cond_true, toNat_cast, w1]
      unfold kd
      cases ((rows.getD k W0).1 == 1) <;> rfl
    simp only [hiF]
    cases h : (kd rows k == 1)
    · rw [h, cond_false] at hs
      rw [cond_false]
      exact (fix_go (B := fun d => b_I_Group_runHas_4 d.1 d.2.1 d.2.2.1 d.2.2.2.1) hs).trans (run_hi hg hl f (k + 1) (by omega) (by omega))
    · rw [h, cond_true] at hs
      rw [cond_true]
      exact fix_end (B := fun d => b_I_Group_runHas_4 d.1 d.2.1 d.2.2.1 d.2.2.2.1) hs

theorem runHas_I {g : PV Y_impl_Group} {rows : RW} (hg : g.2.2.1 = rows) (hl : rows.length ≤ 1048576) {k : Nat} (hk : k < rows.length) (c : Int) : f_I_Group_runHas g (k : Int) c = some ((runA rows c k, ()), ()) := by
  have h1 := lo_le rows k
  obtain ⟨h2, h3, _, _⟩ := hi_spec (rows := rows) (k := k) (by omega)
  have hcut : cutL (lo rows k : Int) (hi rows k : Int) rows = (rows.take (hi rows k)).drop (lo rows k) := by unfold cutL; simp
  have hlen : ((rows.take (hi rows k)).drop (lo rows k)).length ≤ 1048576 := by simp; omega
  unfold f_I_Group_runHas
  rw [run_lo hg hl k (by omega), Option.bind_some]
  dsimp only
  rw [run_hi hg hl _ k rfl (by omega), Option.bind_some]
  dsimp only
  rw [show hiF rows (rows.length - k) k = hi rows k from rfl, hg]
  rw [show cutB (lo rows k : Int) (hi rows k : Int) rows.length = true from by unfold cutB; simp; omega, cond_true, hcut]
  unfold runA anyC
  generalize (rows.take (hi rows k)).drop (lo rows k) = xs at *
  rw [show w_I_Group_runHas_195_2 (g, c, (lo rows k : Int), (hi rows k : Int), rows, (lo rows k : Int), (hi rows k : Int), xs, xs, false, xs, xs, (xs.length : Int), 0, ()) = _ from
    fix_any (B := fun d => b_I_Group_runHas_195_2 d.1 d.2.1 d.2.2.1 d.2.2.2.1 d.2.2.2.2.1 d.2.2.2.2.2.1 d.2.2.2.2.2.2.1 d.2.2.2.2.2.2.2.1 d.2.2.2.2.2.2.2.2.1 d.2.2.2.2.2.2.2.2.2.1 d.2.2.2.2.2.2.2.2.2.2.1 d.2.2.2.2.2.2.2.2.2.2.2.1 d.2.2.2.2.2.2.2.2.2.2.2.2.1 d.2.2.2.2.2.2.2.2.2.2.2.2.2.1) xs (fun (r : PV Y_impl_Row) => r.1 == c)
      (fun i => (g, c, (lo rows k : Int), (hi rows k : Int), rows, (lo rows k : Int), (hi rows k : Int), xs, xs, false, xs, xs, (xs.length : Int), (i : Int), ()))
      (fun i => .inr (g, c, (lo rows k : Int), (hi rows k : Int), rows, (lo rows k : Int), (hi rows k : Int), xs, xs, false, xs, (i : Int), ())) (.inl (g, c, (lo rows k : Int), (hi rows k : Int), rows, (lo rows k : Int), (hi rows k : Int), xs, xs, false, xs, ()))
      (fun i hi' hq => by
        show b_I_Group_runHas_195_2 _ c _ _ _ _ _ _ _ _ _ xs xs.length i = _
        unfold b_I_Group_runHas_195_2
        rw [decide_eq_true (by omega : (i : Int) < (xs.length : Int)), cond_true, inB_lt hi', cond_true, toNat_cast, getD_of hi', hq, cond_false, wrap64 (by omega) (by omega)]; rfl)
      (fun i hi' hq => by
        show b_I_Group_runHas_195_2 _ c _ _ _ _ _ _ _ _ _ xs xs.length i = _
        unfold b_I_Group_runHas_195_2
        rw [decide_eq_true (by omega : (i : Int) < (xs.length : Int)), cond_true, inB_lt hi', cond_true, toNat_cast, getD_of hi', hq, cond_true])
      (by
        show b_I_Group_runHas_195_2 _ c _ _ _ _ _ _ _ _ _ xs xs.length xs.length = _
        unfold b_I_Group_runHas_195_2
        rw [decide_eq_false (Int.lt_irrefl _), cond_false])]
  cases xs.any fun r => r.1 == c
  · rfl
  · simp

/-! ### the reference's runs -/
theorem scan_S {g : PV Y_impl_Group} {rows : RW} (hg : g.2.2.1 = rows) (hl : rows.length ≤ 1048576) {u v : List Bool} {i : Nat} : ∀ f j, rows.length - j = f → i ≤ j → j ≤ rows.length →
    w_S_l8Runs_7 (g, (rows.length : Int), u, v, (i : Int), (j : Int), anyC rows 2 i j, anyC rows 3 i j, ()) = some (g, (rows.length : Int), u, v, (i : Int), (hiF rows f j : Int), anyC rows 2 i (hiF rows f j), anyC rows 3 i (hiF rows f j), ())
  | 0, j, hf, hij, hj => by
    refine fix_end (B := fun d => b_S_l8Runs_7 d.1 d.2.1 d.2.2.1 d.2.2.2.1 d.2.2.2.2.1 d.2.2.2.2.2.1 d.2.2.2.2.2.2.1 d.2.2.2.2.2.2.2.1) ?_
    show b_S_l8Runs_7 g rows.length u v i j (anyC rows 2 i j) (anyC rows 3 i j) = _
    unfold b_S_l8Runs_7
    rw [decide_eq_false (by omega : ¬ ((j : Int) < (rows.length : Int))), cond_false]
    rfl
  | f + 1, j, hf, hij, hj => by
    have hj' : j < rows.length := by omega
    have w1 : IntKind.wrap .i64 ((j : Int) + 1) = ((j + 1 : Nat) : Int) := by rw [wrap64 (by omega) (by omega)]; omega
    have hs : b_S_l8Runs_7 g rows.length u v i j (anyC rows 2 i j) (anyC rows 3 i j) = some (bif kd rows j == 1 then .inr (g, (rows.length : Int), u, v, (i : Int), (j : Int), anyC rows 2 i j, anyC rows 3 i j, ())
        else .inl (g, (rows.length : Int), u, v, (i : Int), ((j + 1 : Nat) : Int), anyC rows 2 i (j + 1), anyC rows 3 i (j + 1), ())) := by
      unfold b_S_l8Runs_7
      rw [hg, anyC_succ hij hj', anyC_succ hij hj', decide_eq_true (by omega : (j : Int) < (rows.length : Int)), cond_true, inB_lt hj', cond_true, toNat_cast]
      unfold kd
      cases ((rows.getD j W0).1 == 1)
      · rw [Bool.not_false, cond_true]
        cases anyC rows 2 i j
        · rw [cond_false, cond_true, Option.bind_some]
          dsimp only
          cases anyC rows 3 i j
          · rw [cond_false, hg, inB_lt hj', cond_true, Option.bind_some]
            dsimp only
            rw [w1, toNat_cast]
            rfl
          · rw [cond_true, Option.bind_some]
            dsimp only
            rw [w1]
            rfl
        · rw [cond_true, Option.bind_some]
          dsimp only
          cases anyC rows 3 i j
          · rw [cond_false, hg, inB_lt hj', cond_true, Option.bind_some]
            dsimp only
            rw [w1, toNat_cast]
            rfl
          · rw [cond_true, Option.bind_some]
            dsimp only
            rw [w1]
            rfl
      · rfl
    simp only [hiF]
    cases h : (kd rows j == 1)
    · rw [h, cond_false] at hs
      rw [cond_false]
      exact (fix_go (B := fun d => b_S_l8Runs_7 d.1 d.2.1 d.2.2.1 d.2.2.2.1 d.2.2.2.2.1 d.2.2.2.2.2.1 d.2.2.2.2.2.2.1 d.2.2.2.2.2.2.2.1) hs).trans (scan_S hg hl f (j + 1) (by omega) (by omega) (by omega))
    · rw [h, cond_true] at hs
      rw [cond_true]
      exact fix_end (B := fun d => b_S_l8Runs_7 d.1 d.2.1 d.2.2.1 d.2.2.2.1 d.2.2.2.2.1 d.2.2.2.2.2.1 d.2.2.2.2.2.2.1 d.2.2.2.2.2.2.2.1) hs

def between (i m : Nat) (a : Bool) (f : Nat → Bool) (k : Nat) : Bool := if i ≤ k ∧ k < i + m then a else f k
theorem between_set {n i m : Nat} {a : Bool} {f : Nat → Bool} : (mkT n (between i m a f)).set (i + m) a = mkT n (between i (m + 1) a f) := by
  rw [mkT_set]
  refine mkT_ext fun r hr => ?_
  unfold between
  by_cases h : r = i + m
  · rw [if_pos h, if_pos (by omega)]
  · rw [if_neg h]
    by_cases h2 : i ≤ r ∧ r < i + m
    · rw [if_pos h2, if_pos (by omega)]
    · rw [if_neg h2, if_neg (by omega)]

theorem fill_S {g : PV Y_impl_Group} {n i j : Nat} (hn : n ≤ 1048576) (hij : i ≤ j) (hj : j ≤ n) {a b : Bool} {f h : Nat → Bool} :
    w_S_l8Runs_12 (g, (n : Int), mkT n f, mkT n h, (i : Int), (j : Int), a, b, (i : Int), ()) = some (g, (n : Int), mkT n (between i (j - i) a f), mkT n (between i (j - i) b h), (i : Int), (j : Int), ()) := by
  have := fix_all (B := fun d => b_S_l8Runs_12 d.1 d.2.1 d.2.2.1 d.2.2.2.1 d.2.2.2.2.1 d.2.2.2.2.2.1 d.2.2.2.2.2.2.1 d.2.2.2.2.2.2.2.1 d.2.2.2.2.2.2.2.2.1) (fun m => (g, (n : Int), mkT n (between i m a f), mkT n (between i m b h), (i : Int), (j : Int), a, b, ((i + m : Nat) : Int), ())) (j - i)
    (r := (g, (n : Int), mkT n (between i (j - i) a f), mkT n (between i (j - i) b h), (i : Int), (j : Int), ()))
    (fun m hm => by
      show b_S_l8Runs_12 g n (mkT n (between i m a f)) (mkT n (between i m b h)) i j a b ((i + m : Nat) : Int) = _
      unfold b_S_l8Runs_12
      rw [decide_eq_true (by omega : ((i + m : Nat) : Int) < (j : Int)), cond_true, inB_lt (by rw [mkT_len]; omega), cond_true, inB_lt (by rw [mkT_len]; omega), cond_true, toNat_cast, between_set, between_set, wrap64 (by omega) (by omega)]
      simp [Int.add_assoc])
    (by
      show b_S_l8Runs_12 g n _ _ i j a b ((i + (j - i) : Nat) : Int) = _
      unfold b_S_l8Runs_12
      rw [decide_eq_false (by omega : ¬ (((i + (j - i) : Nat) : Int) < (j : Int))), cond_false])
  have e : ∀ (x : Bool) (f : Nat → Bool), mkT n f = mkT n (between i 0 x f) := fun x f => mkT_ext fun r _ => by unfold between; rw [if_neg (by omega)]
  rw [show mkT n f = mkT n (between i 0 a f) from e a f, show mkT n h = mkT n (between i 0 b h) from e b h]
  rw [← show mkT n f = mkT n (between i 0 a f) from e a f, ← show mkT n h = mkT n (between i 0 b h) from e b h] at this ⊢
  exact this

/-- What is told of the rows ahead of a place. -/
def told (rows : RW) (c : Int) (i : Nat) (k : Nat) : Bool := decide (k < i) && (!(kd rows k == 1) && runA rows c k)

theorem told_next {rows : RW} {c : Int} {i : Nat} (hin : i < rows.length) (hlo : (kd rows i == 1) = false → lo rows i = i) {k : Nat} (hk : k < rows.length) :
    between i (hi rows i - i) (anyC rows c i (hi rows i)) (told rows c i) k = told rows c (max (hi rows i) (i + 1)) k := by
  obtain ⟨a1, a2, a3, a4⟩ := hi_spec (rows := rows) (k := i) (by omega)
  unfold between told
  by_cases h : i ≤ k ∧ k < i + (hi rows i - i)
  · rw [if_pos h]
    have hk1 : k < hi rows i := by omega
    have hki := a3 k h.1 hk1
    have hi1 := a3 i (Nat.le_refl _) (by omega)
    have e1 := lo_run (hlo hi1) k h.1 fun m m1 m2 => a3 m m1 (by omega)
    have e2 := hi_run (by omega : i ≤ rows.length) h.1 hk1
    unfold runA
    rw [e1, e2, hki, decide_eq_true (by omega : k < max (hi rows i) (i + 1))]
    rfl
  · rw [if_neg h]
    by_cases hki : k < i
    · rw [decide_eq_true hki, decide_eq_true (by omega : k < max (hi rows i) (i + 1))]
    · rw [decide_eq_false hki]
      by_cases hm : k < max (hi rows i) (i + 1)
      · have : k = i := by omega
        subst this
        have hh : hi rows k = k := by omega
        have := a4 (by omega)
        rw [hh] at this
        rw [decide_eq_true hm, this]
        rfl
      · rw [decide_eq_false hm]

theorem runs_loop {g : PV Y_impl_Group} {rows : RW} (hg : g.2.2.1 = rows) (hl : rows.length ≤ 1048576) : ∀ f i, rows.length - i ≤ f → i ≤ rows.length → ((kd rows i == 1) = false → i < rows.length → lo rows i = i) →
    w_S_l8Runs_4 (g, (rows.length : Int), mkT rows.length (told rows 2 i), mkT rows.length (told rows 3 i), (i : Int), ()) = some (mkT rows.length (told rows 2 rows.length), mkT rows.length (told rows 3 rows.length), ())
  | 0, i, hf, hin, hlo => by
    have : i = rows.length := by omega
    subst this
    refine fix_end (B := fun d => b_S_l8Runs_4 d.1 d.2.1 d.2.2.1 d.2.2.2.1 d.2.2.2.2.1) ?_
    show b_S_l8Runs_4 g rows.length _ _ rows.length = _
    unfold b_S_l8Runs_4
    rw [decide_eq_false (Int.lt_irrefl _), cond_false]
  | f + 1, i, hf, hin, hlo => by
    by_cases hlt : i < rows.length
    · obtain ⟨a1, a2, a3, a4⟩ := hi_spec (rows := rows) (k := i) (by omega)
      have hs : b_S_l8Runs_4 g rows.length (mkT rows.length (told rows 2 i)) (mkT rows.length (told rows 3 i)) i =
          some (.inl (g, (rows.length : Int), mkT rows.length (told rows 2 (max (hi rows i) (i + 1))), mkT rows.length (told rows 3 (max (hi rows i) (i + 1))), ((max (hi rows i) (i + 1) : Nat) : Int), ())) := by
        unfold b_S_l8Runs_4
        have s1 := scan_S (u := mkT rows.length (told rows 2 i)) (v := mkT rows.length (told rows 3 i)) (i := i) hg hl _ i rfl (Nat.le_refl _) (by omega)
        rw [anyC_self (by omega), anyC_self (by omega)] at s1
        rw [decide_eq_true (by omega : (i : Int) < (rows.length : Int)), cond_true, s1, Option.bind_some]
        dsimp only
        rw [show hiF rows (rows.length - i) i = hi rows i from rfl, fill_S (by omega) a1 a2, Option.bind_some]
        dsimp only
        rw [wrap64 (by omega) (by omega)]
        have e : f_S_l1Most (hi rows i : Int) ((i : Int) + 1) = some ((((max (hi rows i) (i + 1) : Nat) : Int), ()), ()) := by
          unfold f_S_l1Most
          by_cases h : (hi rows i : Int) > (i : Int) + 1
          · rw [decide_eq_true h, cond_true, show max (hi rows i) (i + 1) = hi rows i from by omega]
          · rw [decide_eq_false h, cond_false, show max (hi rows i) (i + 1) = i + 1 from by omega]; rfl
        rw [e, Option.bind_some]
        dsimp only
        rw [mkT_ext fun k hk => told_next (c := 2) hlt (fun h => hlo h hlt) hk, mkT_ext fun k hk => told_next (c := 3) hlt (fun h => hlo h hlt) hk]
      refine Eq.trans (fix_go (B := fun d => b_S_l8Runs_4 d.1 d.2.1 d.2.2.1 d.2.2.2.1 d.2.2.2.2.1) hs) ?_
      refine runs_loop hg hl f _ (by omega) (by omega) fun h hl2 => ?_
      by_cases hh : hi rows i ≤ i
      · have e : max (hi rows i) (i + 1) = i + 1 := by omega
        have hii : hi rows i = i := by omega
        have hk := a4 (by omega)
        rw [hii] at hk
        rw [e]
        simp only [lo]
        rw [hk, cond_true]
      · have e : max (hi rows i) (i + 1) = hi rows i := by omega
        rw [e] at h hl2
        rw [a4 hl2] at h
        cases h
    · have : i = rows.length := by omega
      subst this
      refine fix_end (B := fun d => b_S_l8Runs_4 d.1 d.2.1 d.2.2.1 d.2.2.2.1 d.2.2.2.2.1) ?_
      show b_S_l8Runs_4 g rows.length _ _ rows.length = _
      unfold b_S_l8Runs_4
      rw [decide_eq_false (Int.lt_irrefl _), cond_false]

theorem runs_S {g : PV Y_impl_Group} {rows : RW} (hg : g.2.2.1 = rows) (hl : rows.length ≤ 1048576) : f_S_l8Runs g = some ((mkT rows.length (told rows 2 rows.length), mkT rows.length (told rows 3 rows.length), ()), ()) := by
  unfold f_S_l8Runs
  have e : ∀ c : Int, List.replicate rows.length false = mkT rows.length (told rows c 0) := fun c => by
    rw [mkT_rep]
    exact mkT_ext fun k _ => by unfold told; rw [decide_eq_false (by omega)]; rfl
  have := runs_loop hg hl rows.length 0 (by omega) (by omega) (fun _ _ => rfl)
  rw [← e 2, ← e 3] at this
  rw [hg, room_len (by omega), cond_true, cond_true, toNat_cast, show w_S_l8Runs_4 (g, (rows.length : Int), List.replicate rows.length false, List.replicate rows.length false, 0, ()) = _ from this]
  rfl
end R
end

section
/- The text of one half of a group: both sides write the same. -/
open Go Go.Dn
namespace R
set_option linter.unusedVariables false

def showL (sign line : List UInt8) : List UInt8 := bif endP line then sign ++ line else (sign ++ line) ++ [10, 92, 32, 110, 111, 110, 101, 10]
def signL (rows : RW) (c : Int) (k : Nat) : List UInt8 :=
  bif !(kd rows k == 1) && runA rows c k then [33, 32] else bif kd rows k == 2 then [45, 32] else bif kd rows k == 3 then [43, 32] else [32, 32]
def pieceL (rows : RW) (c : Int) (k : Nat) : List UInt8 := bif kd rows k == c then [] else showL (signL rows c k) (rows.getD k W0).2.1
def halfL (rows : RW) (c : Int) : Nat → List UInt8
  | 0 => []
  | k + 1 => halfL rows c k ++ pieceL rows c k

theorem show_I {sign line : List UInt8} (h1 : sign.length ≤ 100) (h2 : line.length ≤ 1048576) : f_I_shown sign line = some ((showL sign line, ()), ()) := by
  unfold f_I_shown showL
  rw [ends_I _ (by omega), Option.bind_some]
  dsimp only
  cases endP line
  · rw [cond_false, cond_false, decide_eq_true (by omega), cond_true, decide_eq_true (by simp; omega), cond_true, decide_eq_true (by simp; omega), cond_true]
    simp
  · rw [cond_true, cond_true, decide_eq_true (by omega), cond_true]
theorem show_S {sign line : List UInt8} (h1 : sign.length ≤ 100) (h2 : line.length ≤ 1048576) (h3 : 1 ≤ line.length) : f_S_l5Shown sign line = some ((showL sign line, ()), ()) := by
  unfold f_S_l5Shown showL
  rw [ends_S _ h3 (by omega), Option.bind_some]
  dsimp only
  cases endP line
  · rw [cond_false, cond_false, decide_eq_true (by omega), cond_true, decide_eq_true (by simp; omega), cond_true]
  · rw [cond_true, cond_true, decide_eq_true (by omega), cond_true]

/-- What good rows tell. -/
def RowsOk (rows : RW) : Prop := rows.length ≤ 80 ∧ ∀ k, k < rows.length → (kd rows k = 1 ∨ kd rows k = 2 ∨ kd rows k = 3) ∧ 1 ≤ List.length (rows.getD k W0).2.1 ∧ List.length (rows.getD k W0).2.1 ≤ 30

theorem sign_len (rows : RW) (c : Int) (k : Nat) : (signL rows c k).length = 2 := by
  unfold signL
  cases (!(kd rows k == 1) && runA rows c k) <;> cases (kd rows k == 2) <;> cases (kd rows k == 3) <;> rfl
theorem piece_len {rows : RW} {c : Int} (h : RowsOk rows) {k : Nat} (hk : k < rows.length) : (pieceL rows c k).length ≤ 40 := by
  obtain ⟨_, _, h3⟩ := h.2 k hk
  have := sign_len rows c k
  unfold pieceL showL
  cases (kd rows k == c)
  · rw [cond_false]
    cases endP (rows.getD k W0).2.1
    · rw [cond_false, List.length_append, List.length_append]; simp only [List.length_cons, List.length_nil]; omega
    · rw [cond_true, List.length_append]; omega
  · simp
theorem half_len {rows : RW} {c : Int} (h : RowsOk rows) : ∀ k, k ≤ rows.length → (halfL rows c k).length ≤ 40 * k
  | 0, _ => by simp [halfL]
  | k + 1, hk => by
    have h1 := half_len (c := c) h k (by omega)
    have h2 := piece_len (c := c) h (by omega : k < rows.length)
    simp only [halfL, List.length_append]
    omega

theorem sign_I2 {rows : RW} {k : Nat} (h : kd rows k = 1 ∨ kd rows k = 2 ∨ kd rows k = 3) : ∃ s : List UInt8, f_I_Row_sign (rows.getD k W0) = some ((s, ()), ()) ∧ s ++ [32] = bif kd rows k == 2 then [45, 32] else bif kd rows k == 3 then [43, 32] else [32, 32] := by
  unfold f_I_Row_sign
  unfold kd at *
  rcases h with h | h | h
  · rw [h]; exact ⟨[32], rfl, rfl⟩
  · rw [h]; exact ⟨[45], rfl, rfl⟩
  · rw [h]; exact ⟨[43], rfl, rfl⟩

theorem half_loop_I {g : PV Y_impl_Group} {rows : RW} (hg : g.2.2.1 = rows) (h : RowsOk rows) (c : Int) : f_I_Group_half g c = some ((halfL rows c rows.length, ()), ()) := by
  have hl := h.1
  have := fix_all (B := fun d => b_I_Group_half_3 d.1 d.2.1 d.2.2.1 d.2.2.2.1 d.2.2.2.2.1 d.2.2.2.2.2.1) (fun i => (c, g, halfL rows c i, rows, (rows.length : Int), (i : Int), ())) rows.length (r := (halfL rows c rows.length, ()))
    (fun i hi' => by
      show b_I_Group_half_3 c g (halfL rows c i) rows rows.length i = _
      obtain ⟨k1, k2, k3⟩ := h.2 i hi'
      have hlen := half_len (c := c) h i (by omega)
      have hpl := piece_len (c := c) h hi'
      have e : IntKind.wrap .i64 ((i : Int) + 1) = ((i + 1 : Nat) : Int) := by rw [wrap64 (by omega) (by omega)]; omega
      have hsl := sign_len rows c i
      unfold b_I_Group_half_3
      rw [decide_eq_true (by omega : (i : Int) < (rows.length : Int)), cond_true, inB_lt hi', cond_true, toNat_cast, runHas_I hg (by omega) hi' c]
      simp only [halfL]
      have hp : pieceL rows c i = bif kd rows i == c then [] else showL (signL rows c i) (rows.getD i W0).2.1 := rfl
      have hkd : kd rows i = (rows.getD i W0).1 := rfl
      rw [← hkd]
      cases hc : (kd rows i == c)
      · rw [hc, cond_false] at hp
        rw [hp] at hpl ⊢
        have hs : signL rows c i = bif !(kd rows i == 1) && runA rows c i then [33, 32] else bif kd rows i == 2 then [45, 32] else bif kd rows i == 3 then [43, 32] else [32, 32] := rfl
        rw [cond_false, Option.bind_some]
        dsimp only
        have hb : ((bif (!(kd rows i == 1)) then some (c, g, halfL rows c i, rows.getD i W0, rows, (rows.length : Int), (i : Int), runA rows c i, ()) else some (c, g, halfL rows c i, rows.getD i W0, rows, (rows.length : Int), (i : Int), false, ())) :
            Option ((PV (.int .i64) × PV Y_impl_Group × PV .str × PV Y_impl_Row × PV S_impl_Row × PV (.int .i64) × PV (.int .i64) × PV .bool × Unit))) = some (c, g, halfL rows c i, rows.getD i W0, rows, (rows.length : Int), (i : Int), (!(kd rows i == 1) && runA rows c i), ()) := by
          cases (kd rows i == 1) <;> rfl
        rw [hb, Option.bind_some]
        dsimp only
        cases hr : (!(kd rows i == 1) && runA rows c i)
        · rw [hr, cond_false] at hs
          obtain ⟨s, s1, s2⟩ := sign_I2 k1
          rw [cond_false, s1, Option.bind_some]
          dsimp only
          have s3 : s ++ [32] = signL rows c i := s2.trans hs.symm
          have s4 : s.length + 1 = 2 := by rw [← hsl, ← s3]; simp
          rw [decide_eq_true (by simp; omega), cond_true, s3, show_I (by omega) (by omega), Option.bind_some]
          dsimp only
          rw [decide_eq_true (by omega), cond_true, Option.bind_some]
          dsimp only
          rw [e]
        · rw [hr, cond_true] at hs
          rw [cond_true, ← hs, show_I (by omega) (by omega), Option.bind_some]
          dsimp only
          rw [decide_eq_true (by omega), cond_true, Option.bind_some]
          dsimp only
          rw [e]
      · rw [hc, cond_true] at hp
        rw [hp, cond_true, Option.bind_some, List.append_nil]
        dsimp only
        rw [e])
    (by
      show b_I_Group_half_3 c g (halfL rows c rows.length) rows rows.length rows.length = _
      unfold b_I_Group_half_3
      rw [decide_eq_false (Int.lt_irrefl _), cond_false])
  unfold f_I_Group_half
  rw [hg, show w_I_Group_half_3 (c, g, [], rows, (rows.length : Int), 0, ()) = _ from this]
  rfl

theorem told_at {rows : RW} {c : Int} {k : Nat} (hk : k < rows.length) : (mkT rows.length (told rows c rows.length)).getD k false = (!(kd rows k == 1) && runA rows c k) := by
  rw [mkT_get hk]
  unfold told
  rw [decide_eq_true hk]
  rfl

theorem self_in {rows : RW} {k : Nat} (hk : k < rows.length) (h1 : (kd rows k == 1) = false) : runA rows (kd rows k) k = true := by
  obtain ⟨a1, a2, a3, a4⟩ := hi_spec (rows := rows) (k := k) (by omega)
  have : k < hi rows k := by
    rcases Nat.lt_or_ge k (hi rows k) with h | h
    · exact h
    · have e : hi rows k = k := by omega
      have := a4 (by omega)
      rw [e, h1] at this
      cases this
  exact anyC_mem (lo_le rows k) this a2 rfl

theorem half_loop_S {g : PV Y_impl_Group} {rows : RW} (hg : g.2.2.1 = rows) (h : RowsOk rows) (old : Bool) : f_S_l8Half g old = some ((halfL rows (bif old then 3 else 2) rows.length, ()), ()) := by
  have hl := h.1
  generalize hc : (bif old then (3 : Int) else 2) = c
  have := fix_all (B := fun d => b_S_l8Half_4 d.1 d.2.1 d.2.2.1 d.2.2.2.1 d.2.2.2.2.1 d.2.2.2.2.2.1 d.2.2.2.2.2.2.1) (fun i => (old, mkT rows.length (told rows 2 rows.length), mkT rows.length (told rows 3 rows.length), halfL rows c i, rows, (rows.length : Int), (i : Int), ())) rows.length (r := (halfL rows c rows.length, ()))
    (fun i hi' => by
      show b_S_l8Half_4 old (mkT rows.length (told rows 2 rows.length)) (mkT rows.length (told rows 3 rows.length)) (halfL rows c i) rows rows.length i = _
      obtain ⟨k1, k2, k3⟩ := h.2 i hi'
      have hlen := half_len (c := c) h i (by omega)
      have hpl := piece_len (c := c) h hi'
      have e : IntKind.wrap .i64 ((i : Int) + 1) = ((i + 1 : Nat) : Int) := by rw [wrap64 (by omega) (by omega)]; omega
      have hsl := sign_len rows c i
      have hself := fun h1 => self_in hi' h1
      have hp : pieceL rows c i = bif kd rows i == c then [] else showL (signL rows c i) (rows.getD i W0).2.1 := rfl
      have hs : signL rows c i = bif !(kd rows i == 1) && runA rows c i then [33, 32] else bif kd rows i == 2 then [45, 32] else bif kd rows i == 3 then [43, 32] else [32, 32] := rfl
      have hsh : showL (signL rows c i) (rows.getD i W0).2.1 = showL (signL rows c i) (rows.getD i W0).2.1 := rfl
      have hS := show_S (sign := signL rows c i) (line := (rows.getD i W0).2.1) (by omega) (by omega) k2
      have hshl : (kd rows i == c) = false → (showL (signL rows c i) (rows.getD i W0).2.1).length ≤ 40 := fun hh => by rw [hp, hh, cond_false] at hpl; exact hpl
      unfold b_S_l8Half_4
      rw [decide_eq_true (by omega : (i : Int) < (rows.length : Int)), cond_true, inB_lt hi', cond_true, toNat_cast]
      simp only [halfL]
      rw [hp]
      have hkd : kd rows i = (rows.getD i W0).1 := rfl
      rw [hkd] at hs hself hp k1 hshl ⊢
      generalize hx : rows.getD i W0 = x at *
      have g2 := told_at (c := 2) hi'
      have g3 := told_at (c := 3) hi'
      rw [hkd] at g2 g3
      have i2 : inB (i : Int) (mkT rows.length (told rows 2 rows.length)).length = true := inB_lt (by rw [mkT_len]; exact hi')
      have i3 : inB (i : Int) (mkT rows.length (told rows 3 rows.length)).length = true := inB_lt (by rw [mkT_len]; exact hi')
      generalize mkT rows.length (told rows 2 rows.length) = G2 at *
      generalize mkT rows.length (told rows 3 rows.length) = G3 at *
      rcases k1 with k1 | k1 | k1
      · -- kept
        have e1 : (x.1 == 1) = true := by rw [k1]; rfl
        have e2 : (x.1 == 2) = false := by rw [k1]; rfl
        have e3 : (x.1 == 3) = false := by rw [k1]; rfl
        have ec : (x.1 == c) = false := by rw [k1, ← hc]; cases old <;> rfl
        have hshl := hshl ec
        rw [e1, e2, e3] at hs
        simp only [Bool.not_true, Bool.false_and, cond_false] at hs
        rw [hs] at hS hshl
        simp only [e1, e2, e3, ec, cond_false, Option.bind_some, Bool.not_true, hS, hs, decide_eq_true (by omega : (halfL rows c i).length + (showL [32, 32] x.2.1).length ≤ 1099511627776), cond_true, e]
      · have e1 : (x.1 == 1) = false := by rw [k1]; rfl
        have e2 : (x.1 == 2) = true := by rw [k1]; rfl
        have e3 : (x.1 == 3) = false := by rw [k1]; rfl
        cases old
        · have ec : (x.1 == c) = true := by rw [k1, ← hc]; rfl
          simp only [e1, e2, e3, ec, cond_false, cond_true, Option.bind_some, Bool.not_true, Bool.not_false, List.append_nil, e]
        · have ec : (x.1 == c) = false := by rw [k1, ← hc]; rfl
          have hshl := hshl ec
          have hsf := hself e1
          rw [k1] at hsf
          have hcc : c = 3 := hc.symm
          subst hcc
          rw [e1, e2, e3] at hs
          rw [e1, hsf] at g2
          rw [e1] at g3
          simp only [Bool.not_false, Bool.true_and] at g2 g3 hs
          cases hr : runA rows 3 i
          · rw [hr] at g3 hs
            simp only [cond_false, cond_true] at hs
            rw [hs] at hS hshl
            simp only [e1, e2, e3, ec, cond_false, cond_true, Option.bind_some, Bool.not_true, Bool.not_false, toNat_cast, i2, i3, g2, g3, hS, hs, decide_eq_true (by omega : (halfL rows 3 i).length + (showL [45, 32] x.2.1).length ≤ 1099511627776), e]
          · rw [hr] at g3 hs
            simp only [cond_false, cond_true] at hs
            rw [hs] at hS hshl
            simp only [e1, e2, e3, ec, cond_false, cond_true, Option.bind_some, Bool.not_true, Bool.not_false, toNat_cast, i2, i3, g2, g3, hS, hs, decide_eq_true (by omega : (halfL rows 3 i).length + (showL [33, 32] x.2.1).length ≤ 1099511627776), e]
      · have e1 : (x.1 == 1) = false := by rw [k1]; rfl
        have e2 : (x.1 == 2) = false := by rw [k1]; rfl
        have e3 : (x.1 == 3) = true := by rw [k1]; rfl
        cases old
        · have ec : (x.1 == c) = false := by rw [k1, ← hc]; rfl
          have hshl := hshl ec
          have hsf := hself e1
          rw [k1] at hsf
          have hcc : c = 2 := hc.symm
          subst hcc
          rw [e1, e2, e3] at hs
          rw [e1, hsf] at g3
          rw [e1] at g2
          simp only [Bool.not_false, Bool.true_and] at g2 g3 hs
          cases hr : runA rows 2 i
          · rw [hr] at g2 hs
            simp only [cond_false, cond_true] at hs
            rw [hs] at hS hshl
            simp only [e1, e2, e3, ec, cond_false, cond_true, Option.bind_some, Bool.not_true, Bool.not_false, toNat_cast, i2, i3, g2, g3, hS, hs, decide_eq_true (by omega : (halfL rows 2 i).length + (showL [43, 32] x.2.1).length ≤ 1099511627776), e]
          · rw [hr] at g2 hs
            simp only [cond_false, cond_true] at hs
            rw [hs] at hS hshl
            simp only [e1, e2, e3, ec, cond_false, cond_true, Option.bind_some, Bool.not_true, Bool.not_false, toNat_cast, i2, i3, g2, g3, hS, hs, decide_eq_true (by omega : (halfL rows 2 i).length + (showL [33, 32] x.2.1).length ≤ 1099511627776), e]
        · have ec : (x.1 == c) = true := by rw [k1, ← hc]; rfl
          simp only [e1, e2, e3, ec, cond_false, cond_true, Option.bind_some, Bool.not_true, Bool.not_false, List.append_nil, e])
    (by
      show b_S_l8Half_4 old _ _ (halfL rows c rows.length) rows rows.length rows.length = _
      unfold b_S_l8Half_4
      rw [decide_eq_false (Int.lt_irrefl _), cond_false])
  unfold f_S_l8Half
  rw [runs_S hg (by omega), Option.bind_some]
  dsimp only
  rw [hg, show w_S_l8Half_4 (old, mkT rows.length (told rows 2 rows.length), mkT rows.length (told rows 3 rows.length), [], rows, (rows.length : Int), 0, ()) = _ from this]
  rfl

theorem rowsOk_of {g : PV Y_impl_Group} (h : goodG g = true) : RowsOk g.2.2.1 := by
  unfold goodG inI at h
  simp only [Bool.and_eq_true, decide_eq_true_eq, Bool.not_eq_true'] at h
  obtain ⟨_, _, ⟨h1, h2⟩, h3, _⟩ := h
  refine ⟨by omega, fun k hk => ?_⟩
  have hb : badRow g.2.2.1 k = false := by
    cases hb : badRow g.2.2.1 k with
    | false => rfl
    | true => rw [anyN_iff.2 ⟨k, hk, hb⟩] at h3; cases h3
  unfold badRow inI at hb
  simp only [Bool.or_eq_false_iff, Bool.not_eq_false', Bool.and_eq_true, decide_eq_true_eq] at hb
  obtain ⟨⟨b1, b2⟩, b3, _⟩ := hb
  have := line_len b3
  refine ⟨?_, this.1, this.2⟩
  have e : ∀ z : Int, z ≥ 1 → z ≤ 3 → z = 1 ∨ z = 2 ∨ z = 3 := fun z _ _ => by omega
  exact e _ b1 b2
end R
end

section
/- Groups side by side: both sides write the same. -/
open Go Go.Dn
namespace R
set_option linter.unusedVariables false

def pairT (a m : Nat) : List UInt8 := if m ≤ 1 then dec (numb a m) else dec (numb a m) ++ ([44] ++ dec (a + m))
theorem pairT_len {a m : Nat} (ha : a ≤ 10000) (hm : m ≤ 10000) : (pairT a m).length ≤ 43 := by
  have h1 := dec_len (numb a m) (Nat.le_trans (numb_le ha) (by omega))
  have h2 := dec_len (a + m) (by omega)
  unfold pairT
  split
  · omega
  · simp only [List.length_append, List.length_cons, List.length_nil]; omega

theorem pair_S (a m : Nat) (ha : a ≤ 10000) (hm : m ≤ 10000) : f_S_l4Pair (a : Int) (m : Int) = some ((pairT a m, ()), ()) := by
  have hn := numb_le (m := m) ha
  have h1 := dec_len (numb a m) (by omega)
  have h2 := dec_len (a + m) (by omega)
  unfold f_S_l4Pair
  rw [number_S a m ha, Option.bind_some]
  dsimp only
  rw [num_S _ (by omega), Option.bind_some, show IntKind.wrap .i64 ((a : Int) + (m : Int)) = ((a + m : Nat) : Int) from by rw [wrap64 (by omega) (by omega)]; omega, num_S (a + m) (by omega), Option.bind_some]
  dsimp only
  unfold pairT
  by_cases h : m ≤ 1
  · rw [decide_eq_false (by omega : ¬ (m : Int) > 1), if_pos h]; rfl
  · rw [decide_eq_true (by omega : (m : Int) > 1), if_neg h, cond_true, decide_eq_true (by simp only [List.length_cons, List.length_nil]; omega), cond_true, decide_eq_true (by simp only [List.length_append, List.length_cons, List.length_nil]; omega), cond_true]; rfl

theorem pair_I (a m : Nat) (ha : a ≤ 10000) (hm : m ≤ 10000) : f_I_pairOf ((numb a m : Nat) : Int) ((a + m : Nat) : Int) = some ((pairT a m, ()), ()) := by
  have hn := numb_le (m := m) ha
  have h1 := dec_len (numb a m) (by omega)
  have h2 := dec_len (a + m) (by omega)
  unfold f_I_pairOf pairT
  rw [num_I _ (by omega), num_I _ (by omega)]
  simp only [Option.bind_some]
  by_cases h : m ≤ 1
  · have e : numb a m = a + m := by unfold numb; split <;> omega
    rw [if_pos h, show (((numb a m : Nat) : Int) == ((a + m : Nat) : Int)) = true from by rw [e]; exact beq_self_eq_true _]; rfl
  · have e : numb a m ≠ a + m := by unfold numb; split <;> omega
    rw [if_neg h, show (((numb a m : Nat) : Int) == ((a + m : Nat) : Int)) = false from by rw [beq_eq_false_iff_ne]; omega, cond_false, decide_eq_true (by simp only [List.length_cons, List.length_nil]; omega), cond_true, decide_eq_true (by simp only [List.length_append, List.length_cons, List.length_nil]; omega), cond_true, List.append_assoc]
theorem end_I (a m : Nat) (ha : a ≤ 10000) (hm : m ≤ 10000) : f_I_endOf (a : Int) (m : Int) = some ((((a + m : Nat) : Int), ()), ()) := by
  unfold f_I_endOf
  rw [wrap64 (by omega) (by omega)]
  rfl

def hasK (rows : RW) (c : Int) : Bool := rows.any fun (r : PV Y_impl_Row) => r.1 == c
theorem has_I {g : PV Y_impl_Group} {rows : RW} (hg : g.2.2.1 = rows) (hl : rows.length ≤ 1048576) (c : Int) : f_I_Group_has g c = some ((hasK rows c, ()), ()) := by
  unfold f_I_Group_has hasK
  rw [hg]
  have step : ∀ i (hi : i < rows.length), b_I_Group_has_195_2 g c g c false rows rows false rows rows rows.length i = some (if rows[i].1 == c then .inr (.inr (g, c, g, c, false, rows, rows, false, rows, (i : Int), ())) else .inl (g, c, g, c, false, rows, rows, false, rows, rows, (rows.length : Int), ((i + 1 : Nat) : Int), ())) := by
    intro i hi
    unfold b_I_Group_has_195_2
    rw [decide_eq_true (by omega : (i : Int) < (rows.length : Int)), cond_true, inB_lt hi, cond_true, toNat_cast, getD_of hi]
    cases rows[i].1 == c
    · rw [cond_false, wrap64 (by omega) (by omega)]; rfl
    · rfl
  rw [show w_I_Group_has_195_2 (g, c, g, c, false, rows, rows, false, rows, rows, (rows.length : Int), 0, ()) = _ from fix_any (B := fun d => b_I_Group_has_195_2 d.1 d.2.1 d.2.2.1 d.2.2.2.1 d.2.2.2.2.1 d.2.2.2.2.2.1 d.2.2.2.2.2.2.1 d.2.2.2.2.2.2.2.1 d.2.2.2.2.2.2.2.2.1 d.2.2.2.2.2.2.2.2.2.1 d.2.2.2.2.2.2.2.2.2.2.1 d.2.2.2.2.2.2.2.2.2.2.2.1) rows (fun (r : PV Y_impl_Row) => r.1 == c)
    (fun i => (g, c, g, c, false, rows, rows, false, rows, rows, (rows.length : Int), (i : Int), ())) (fun i => .inr (g, c, g, c, false, rows, rows, false, rows, (i : Int), ())) (.inl (g, c, g, c, false, rows, rows, false, rows, ()))
    (fun i hi hq => by show b_I_Group_has_195_2 g c g c false rows rows false rows rows rows.length i = _; rw [step i hi, hq]; rfl)
    (fun i hi hq => by show b_I_Group_has_195_2 g c g c false rows rows false rows rows rows.length i = _; rw [step i hi, hq]; rfl)
    (by
      show b_I_Group_has_195_2 g c g c false rows rows false rows rows rows.length rows.length = _
      unfold b_I_Group_has_195_2
      rw [decide_eq_false (Int.lt_irrefl _), cond_false])]
  cases rows.any fun (r : PV Y_impl_Row) => r.1 == c
  · rfl
  · rw [if_pos rfl, Option.bind_some]
    dsimp only
    rw [decide_eq_true (show ((_ : Nat) : Int) ≥ 0 from Int.natCast_nonneg _)]
theorem has_S {g : PV Y_impl_Group} {rows : RW} (hg : g.2.2.1 = rows) (hl : rows.length ≤ 1048576) (c : Int) : f_S_l8Some g c = some ((hasK rows c, ()), ()) := by
  unfold f_S_l8Some hasK
  rw [hg]
  have step : ∀ i (hi : i < rows.length), b_S_l8Some_2 c rows rows.length i = some (if rows[i].1 == c then .inr (.inr (true, ())) else .inl (c, rows, (rows.length : Int), ((i + 1 : Nat) : Int), ())) := by
    intro i hi
    unfold b_S_l8Some_2
    rw [decide_eq_true (by omega : (i : Int) < (rows.length : Int)), cond_true, inB_lt hi, cond_true, toNat_cast, getD_of hi]
    cases rows[i].1 == c
    · rw [cond_false, wrap64 (by omega) (by omega)]; rfl
    · rfl
  rw [show w_S_l8Some_2 (c, rows, (rows.length : Int), 0, ()) = _ from fix_any (B := fun d => b_S_l8Some_2 d.1 d.2.1 d.2.2.1 d.2.2.2.1) rows (fun (r : PV Y_impl_Row) => r.1 == c)
    (fun i => (c, rows, (rows.length : Int), (i : Int), ())) (fun _ => .inr (true, ())) (.inl ())
    (fun i hi hq => by show b_S_l8Some_2 c rows rows.length i = _; rw [step i hi, hq]; rfl)
    (fun i hi hq => by show b_S_l8Some_2 c rows rows.length i = _; rw [step i hi, hq]; rfl)
    (by
      show b_S_l8Some_2 c rows rows.length rows.length = _
      unfold b_S_l8Some_2
      rw [decide_eq_false (Int.lt_irrefl _), cond_false])]
  cases rows.any fun (r : PV Y_impl_Row) => r.1 == c <;> rfl

def top1 (x : PV Y_impl_Group) : List UInt8 := ([42, 42, 42, 42, 42, 42, 42, 42, 42, 42, 42, 42, 42, 42, 42, 10, 42, 42, 42, 32] ++ pairT (Int.toNat x.1) (sideL x.2.2.1 3).length) ++ [32, 42, 42, 42, 42, 10]
def top2 (x : PV Y_impl_Group) : List UInt8 := ([45, 45, 45, 32] ++ pairT (Int.toNat x.2.1) (sideL x.2.2.1 2).length) ++ [32, 45, 45, 45, 45, 10]
def opt (x : PV Y_impl_Group) (d c : Int) : List UInt8 := bif hasK x.2.2.1 d then halfL x.2.2.1 c (List.length x.2.2.1) else []
def sideT (x : PV Y_impl_Group) : List UInt8 := ((top1 x ++ opt x 2 3) ++ top2 x) ++ opt x 3 2
def sidesT (g : GR) : List UInt8 := g.flatMap sideT

theorem side_facts {x : PV Y_impl_Group} (h : goodG x = true) : (top1 x).length ≤ 69 ∧ (top2 x).length ≤ 53 ∧ (∀ c, (halfL x.2.2.1 c (List.length x.2.2.1)).length ≤ 3200) ∧ (sideT x).length ≤ 6522 := by
  obtain ⟨⟨a, ea, ha⟩, ⟨b, eb, hb⟩, h3, h4⟩ := group_facts h
  have c1 := pairT_len (a := a) (m := (sideL x.2.2.1 3).length) (by omega) (by omega)
  have c2 := pairT_len (a := b) (m := (sideL x.2.2.1 2).length) (by omega) (by omega)
  have t1 : (top1 x).length ≤ 69 := by
    unfold top1
    rw [ea, toNat_cast]
    simp only [List.length_append, List.length_cons, List.length_nil]
    omega
  have t2 : (top2 x).length ≤ 53 := by
    unfold top2
    rw [eb, toNat_cast]
    simp only [List.length_append, List.length_cons, List.length_nil]
    omega
  have hr := rowsOk_of h
  have hh : ∀ c, (halfL x.2.2.1 c (List.length x.2.2.1)).length ≤ 3200 := fun c => by
    have := half_len (c := c) hr (List.length x.2.2.1) (Nat.le_refl _)
    have := hr.1
    omega
  have ho : ∀ d c, (opt x d c).length ≤ 3200 := fun d c => by
    unfold opt
    cases hasK x.2.2.1 d
    · exact Nat.zero_le _
    · exact hh c
  have o1 := ho 2 3
  have o2 := ho 3 2
  refine ⟨t1, t2, hh, ?_⟩
  unfold sideT
  simp only [List.length_append]
  omega

theorem room {n : Nat} (h : n ≤ 10000000) : decide (n ≤ 1099511627776) = true := decide_eq_true (by omega)

theorem sidesText_I' {g : GR} (hs : SmG g) (hg : goodGs g = true) : f_I_sidesText g = some ((sidesT g, ()), ()) := by
  have hl := hs.1
  have hf := fix_fold (B := fun d => b_I_sidesText_3 d.1 d.2.1 d.2.2.1 d.2.2.2.1) g (fun a x => a ++ sideT x) (fun a i => (a, g, (g.length : Int), (i : Int), ())) (fun a => (a, ())) (fun i a => a.length ≤ 6522 * i)
    (fun i hi a hI => by
      have hm := hs.2 _ (List.getElem_mem hi)
      obtain ⟨hx, h20⟩ := good_mem' hg hi
      obtain ⟨⟨p, ep, hp⟩, ⟨q, eq, hq⟩, h3, h4⟩ := group_facts hx
      obtain ⟨t1, t2, th, ts⟩ := side_facts hx
      refine ⟨by rw [List.length_append]; omega, ?_⟩
      show b_I_sidesText_3 a g g.length i = _
      unfold b_I_sidesText_3 f_I_Group_old f_I_Group_fresh
      rw [decide_eq_true (by omega : (i : Int) < (g.length : Int)), cond_true, inB_lt hi, cond_true, toNat_cast, getD_of hi, sideOf_I hm, Option.bind_some, Option.bind_some, sideOf_I hm, Option.bind_some, Option.bind_some]
      have hr := rowsOk_of hx
      have k2 := half_loop_I (g := g[i]) rfl hr 3
      have k3 := half_loop_I (g := g[i]) rfl hr 2
      have j2 := has_I (g := g[i]) rfl hm.1 2
      have j3 := has_I (g := g[i]) rfl hm.1 3
      have u3 := th 3
      have u2 := th 2
      have e1 : ([42, 42, 42, 42, 42, 42, 42, 42, 42, 42, 42, 42, 42, 42, 42, 10, 42, 42, 42, 32] ++ pairT p (sideL g[i].2.2.1 3).length) ++ [32, 42, 42, 42, 42, 10] = top1 g[i] := by unfold top1; rw [ep, toNat_cast]
      have e2 : ([45, 45, 45, 32] ++ pairT q (sideL g[i].2.2.1 2).length) ++ [32, 45, 45, 45, 45, 10] = top2 g[i] := by unfold top2; rw [eq, toNat_cast]
      have c1 := pairT_len (a := p) (m := (sideL g[i].2.2.1 3).length) (by omega) (by omega)
      have c2 := pairT_len (a := q) (m := (sideL g[i].2.2.1 2).length) (by omega) (by omega)
      dsimp only
      rw [ep, number_I p _ (by omega), Option.bind_some, end_I p _ (by omega) (by omega), Option.bind_some]
      dsimp only
      rw [pair_I p _ (by omega) (by omega), Option.bind_some]
      dsimp only
      rw [room (by simp only [List.length_cons, List.length_nil]; omega), cond_true, room (by simp only [List.length_append, List.length_cons, List.length_nil]; omega), cond_true, e1, room (by omega), cond_true, j2, Option.bind_some]
      dsimp only
      have fin : ∀ z : List UInt8, z.length ≤ 6522 * i + 3300 →
          ((f_I_numberOf g[i].2.1 ((sideL g[i].2.2.1 2).length : Int)).bind fun r18 => (f_I_endOf g[i].2.1 ((sideL g[i].2.2.1 2).length : Int)).bind fun r19 => (f_I_pairOf r18.1.1 r19.1.1).bind fun r20 =>
            bif decide (([45, 45, 45, 32] : List UInt8).length + r20.1.1.length ≤ 1099511627776) then
              bif decide ((([45, 45, 45, 32] : List UInt8) ++ r20.1.1).length + ([32, 45, 45, 45, 45, 10] : List UInt8).length ≤ 1099511627776) then
                bif decide (z.length + (([45, 45, 45, 32] ++ r20.1.1) ++ [32, 45, 45, 45, 45, 10]).length ≤ 1099511627776) then
                  (f_I_Group_has g[i] 3).bind fun r22 =>
                    bif r22.1.1 then
                      (f_I_Group_half g[i] 2).bind fun r23 =>
                        bif decide ((z ++ (([45, 45, 45, 32] ++ r20.1.1) ++ [32, 45, 45, 45, 45, 10])).length + r23.1.1.length ≤ 1099511627776) then
                          some (((z ++ (([45, 45, 45, 32] ++ r20.1.1) ++ [32, 45, 45, 45, 45, 10])) ++ r23.1.1), g, (g.length : Int), (i : Int), ())
                        else none
                    else some ((z ++ (([45, 45, 45, 32] ++ r20.1.1) ++ [32, 45, 45, 45, 45, 10])), g, (g.length : Int), (i : Int), ())
                else none
              else none
            else none : Option (PV .str × PV S_impl_Group × PV (.int .i64) × PV (.int .i64) × Unit)) = some ((z ++ top2 g[i]) ++ opt g[i] 3 2, g, (g.length : Int), (i : Int), ()) := by
        intro z hz
        rw [eq, number_I q _ (by omega), Option.bind_some, end_I q _ (by omega) (by omega), Option.bind_some]
        dsimp only
        rw [pair_I q _ (by omega) (by omega), Option.bind_some]
        dsimp only
        rw [room (by simp only [List.length_cons, List.length_nil]; omega), cond_true, room (by simp only [List.length_append, List.length_cons, List.length_nil]; omega), cond_true, e2, room (by omega), cond_true, j3, Option.bind_some]
        dsimp only
        unfold opt
        cases hasK g[i].2.2.1 3
        · rw [cond_false, cond_false, List.append_nil]
        · rw [cond_true, cond_true, k3, Option.bind_some]
          dsimp only
          rw [room (by rw [List.length_append]; omega), cond_true]
      have hw : IntKind.wrap .i64 ((i : Int) + 1) = ((i + 1 : Nat) : Int) := by rw [wrap64 (by omega) (by omega)]; omega
      have es : a ++ sideT g[i] = (((a ++ top1 g[i]) ++ opt g[i] 2 3) ++ top2 g[i]) ++ opt g[i] 3 2 := by unfold sideT; simp only [List.append_assoc]
      rw [es]
      have eo : opt g[i] 2 3 = bif hasK g[i].2.2.1 2 then halfL g[i].2.2.1 3 (List.length g[i].2.2.1) else [] := rfl
      rw [eo]
      cases hasK g[i].2.2.1 2
      · rw [cond_false, cond_false, Option.bind_some, List.append_nil]
        refine (congrArg (fun z => Option.bind z _) (fin (a ++ top1 g[i]) (by rw [List.length_append]; omega))).trans ?_
        rw [Option.bind_some]
        dsimp only
        rw [hw]
      · rw [cond_true, cond_true, k2, Option.bind_some]
        dsimp only
        rw [room (by rw [List.length_append]; omega), cond_true, Option.bind_some]
        refine (congrArg (fun z => Option.bind z _) (fin ((a ++ top1 g[i]) ++ halfL g[i].2.2.1 3 (List.length g[i].2.2.1)) (by rw [List.length_append, List.length_append]; omega))).trans ?_
        rw [Option.bind_some]
        dsimp only
        rw [hw])
    (fun a _ => by
      show b_I_sidesText_3 a g g.length g.length = _
      unfold b_I_sidesText_3
      rw [decide_eq_false (Int.lt_irrefl _), cond_false]) [] (Nat.zero_le _)
  unfold f_I_sidesText
  rw [show w_I_sidesText_3 ([], g, (g.length : Int), 0, ()) = _ from hf.1, Option.bind_some, foldl_app]
  rfl

theorem sidesText_S' {g : GR} (hs : SmG g) (hg : goodGs g = true) : f_S_l8Text g = some ((sidesT g, ()), ()) := by
  have hl := hs.1
  have hf := fix_fold (B := fun d => b_S_l8Text_3 d.1 d.2.1 d.2.2.1 d.2.2.2.1) g (fun a x => a ++ sideT x) (fun a i => (a, g, (g.length : Int), (i : Int), ())) (fun a => (a, ())) (fun i a => a.length ≤ 6522 * i)
    (fun i hi a hI => by
      have hm := hs.2 _ (List.getElem_mem hi)
      obtain ⟨hx, h20⟩ := good_mem' hg hi
      obtain ⟨⟨p, ep, hp⟩, ⟨q, eq, hq⟩, h3, h4⟩ := group_facts hx
      obtain ⟨t1, t2, th, ts⟩ := side_facts hx
      refine ⟨by rw [List.length_append]; omega, ?_⟩
      show b_S_l8Text_3 a g g.length i = _
      unfold b_S_l8Text_3
      rw [decide_eq_true (by omega : (i : Int) < (g.length : Int)), cond_true, inB_lt hi, cond_true, toNat_cast, getD_of hi, old_S hm, Option.bind_some]
      have hr := rowsOk_of hx
      have k2 : f_S_l8Half g[i] true = _ := half_loop_S (g := g[i]) rfl hr true
      have k3 : f_S_l8Half g[i] false = _ := half_loop_S (g := g[i]) rfl hr false
      rw [cond_true] at k2
      rw [cond_false] at k3
      have j2 := has_S (g := g[i]) rfl hm.1 2
      have j3 := has_S (g := g[i]) rfl hm.1 3
      have u3 := th 3
      have u2 := th 2
      have e1 : ([42, 42, 42, 42, 42, 42, 42, 42, 42, 42, 42, 42, 42, 42, 42, 10, 42, 42, 42, 32] ++ pairT p (sideL g[i].2.2.1 3).length) ++ [32, 42, 42, 42, 42, 10] = top1 g[i] := by unfold top1; rw [ep, toNat_cast]
      have e2 : ([45, 45, 45, 32] ++ pairT q (sideL g[i].2.2.1 2).length) ++ [32, 45, 45, 45, 45, 10] = top2 g[i] := by unfold top2; rw [eq, toNat_cast]
      have c1 := pairT_len (a := p) (m := (sideL g[i].2.2.1 3).length) (by omega) (by omega)
      have c2 := pairT_len (a := q) (m := (sideL g[i].2.2.1 2).length) (by omega) (by omega)
      dsimp only
      rw [ep, pair_S p _ (by omega) (by omega), Option.bind_some]
      dsimp only
      rw [room (by simp only [List.length_cons, List.length_nil]; omega), cond_true, room (by simp only [List.length_append, List.length_cons, List.length_nil]; omega), cond_true, e1, room (by omega), cond_true, j2, Option.bind_some]
      dsimp only
      have fin : ∀ z : List UInt8, z.length ≤ 6522 * i + 3300 →
          ((f_S_l6New g[i]).bind fun r11 => (f_S_l4Pair g[i].2.1 (r11.1.1.length : Int)).bind fun r20 =>
            bif decide (([45, 45, 45, 32] : List UInt8).length + r20.1.1.length ≤ 1099511627776) then
              bif decide ((([45, 45, 45, 32] : List UInt8) ++ r20.1.1).length + ([32, 45, 45, 45, 45, 10] : List UInt8).length ≤ 1099511627776) then
                bif decide (z.length + (([45, 45, 45, 32] ++ r20.1.1) ++ [32, 45, 45, 45, 45, 10]).length ≤ 1099511627776) then
                  (f_S_l8Some g[i] 3).bind fun r22 =>
                    bif r22.1.1 then
                      (f_S_l8Half g[i] false).bind fun r23 =>
                        bif decide ((z ++ (([45, 45, 45, 32] ++ r20.1.1) ++ [32, 45, 45, 45, 45, 10])).length + r23.1.1.length ≤ 1099511627776) then
                          some (((z ++ (([45, 45, 45, 32] ++ r20.1.1) ++ [32, 45, 45, 45, 45, 10])) ++ r23.1.1), g, (g.length : Int), (i : Int), ())
                        else none
                    else some ((z ++ (([45, 45, 45, 32] ++ r20.1.1) ++ [32, 45, 45, 45, 45, 10])), g, (g.length : Int), (i : Int), ())
                else none
              else none
            else none : Option (PV .str × PV S_impl_Group × PV (.int .i64) × PV (.int .i64) × Unit)) = some ((z ++ top2 g[i]) ++ opt g[i] 3 2, g, (g.length : Int), (i : Int), ()) := by
        intro z hz
        rw [new_S hm, Option.bind_some]
        dsimp only
        rw [eq, pair_S q _ (by omega) (by omega), Option.bind_some]
        dsimp only
        rw [room (by simp only [List.length_cons, List.length_nil]; omega), cond_true, room (by simp only [List.length_append, List.length_cons, List.length_nil]; omega), cond_true, e2, room (by omega), cond_true, j3, Option.bind_some]
        dsimp only
        unfold opt
        cases hasK g[i].2.2.1 3
        · rw [cond_false, cond_false, List.append_nil]
        · rw [cond_true, cond_true, k3, Option.bind_some]
          dsimp only
          rw [room (by rw [List.length_append]; omega), cond_true]
      have hw : IntKind.wrap .i64 ((i : Int) + 1) = ((i + 1 : Nat) : Int) := by rw [wrap64 (by omega) (by omega)]; omega
      have es : a ++ sideT g[i] = (((a ++ top1 g[i]) ++ opt g[i] 2 3) ++ top2 g[i]) ++ opt g[i] 3 2 := by unfold sideT; simp only [List.append_assoc]
      rw [es]
      have eo : opt g[i] 2 3 = bif hasK g[i].2.2.1 2 then halfL g[i].2.2.1 3 (List.length g[i].2.2.1) else [] := rfl
      rw [eo]
      cases hasK g[i].2.2.1 2
      · rw [cond_false, cond_false, Option.bind_some, List.append_nil]
        refine (congrArg (fun z => Option.bind z _) (fin (a ++ top1 g[i]) (by rw [List.length_append]; omega))).trans ?_
        rw [Option.bind_some]
        dsimp only
        rw [hw]
      · rw [cond_true, cond_true, k2, Option.bind_some]
        dsimp only
        rw [room (by rw [List.length_append]; omega), cond_true, Option.bind_some]
        refine (congrArg (fun z => Option.bind z _) (fin ((a ++ top1 g[i]) ++ halfL g[i].2.2.1 3 (List.length g[i].2.2.1)) (by rw [List.length_append, List.length_append]; omega))).trans ?_
        rw [Option.bind_some]
        dsimp only
        rw [hw])
    (fun a _ => by
      show b_S_l8Text_3 a g g.length g.length = _
      unfold b_S_l8Text_3
      rw [decide_eq_false (Int.lt_irrefl _), cond_false]) [] (Nat.zero_le _)
  unfold f_S_l8Text
  rw [show w_S_l8Text_3 ([], g, (g.length : Int), 0, ()) = _ from hf.1, Option.bind_some, foldl_app]
  rfl

def stOk (g : GR) : Bool := goodGs g && decide ((sidesT g).length ≤ 3000)
def stR (g : GR) : List UInt8 := bif stOk g then sidesT g else []
theorem sidesTextR_I {g : GR} (hs : SmG g) : f_I_SidesText g = some ((stR g, stOk g, ()), ()) := by
  unfold f_I_SidesText stR stOk f_I_short
  rw [groups_I hs, Option.bind_some]
  dsimp only
  cases hg : goodGs g
  · rfl
  · rw [Bool.not_true, cond_false, sidesText_I' hs hg, Option.bind_some]
    dsimp only
    by_cases h : (sidesT g).length ≤ 3000
    · rw [decide_eq_false (by omega : ¬ ((sidesT g).length : Int) > 3000), decide_eq_true h]; rfl
    · rw [decide_eq_true (by omega : ((sidesT g).length : Int) > 3000), decide_eq_false h]; rfl
theorem sidesTextR_S {g : GR} (hs : SmG g) : f_S_SidesText g = some ((stR g, stOk g, ()), ()) := by
  unfold f_S_SidesText stR stOk
  rw [groups_S hs, Option.bind_some]
  dsimp only
  cases hg : goodGs g
  · rfl
  · rw [Bool.not_true, cond_false, sidesText_S' hs hg, Option.bind_some, Option.bind_some]
    dsimp only
    by_cases h : (sidesT g).length ≤ 3000
    · rw [decide_eq_false (by omega : ¬ ((sidesT g).length : Int) > 3000), decide_eq_true h, cond_false, sidesText_S' hs hg, Option.bind_some]; rfl
    · rw [decide_eq_true (by omega : ((sidesT g).length : Int) > 3000), decide_eq_false h]; rfl
end R
end

section
/- The text of the context diff: both sides write the same; the law. -/
open Go Go.Dn
namespace R
set_option linter.unusedVariables false

def ctOk (l : TX) (h : HK) (w : Int) : Bool := goOk l h w && stOk (goR l h w)
def ctR (l : TX) (h : HK) (w : Int) : List UInt8 := bif goOk l h w then stR (goR l h w) else []
theorem context_I {l : TX} {h : HK} {w : Int} (hl : Sm l) (hh : SmH h) (hb : SmB l) (hbh : SmBH h) : f_I_ContextText l h w = some ((ctR l h w, ctOk l h w, ()), ()) := by
  unfold f_I_ContextText ctR ctOk
  rw [groupsOf_I hl hh, Option.bind_some]
  dsimp only
  cases hk : goOk l h w
  · rfl
  · rw [Bool.not_true, cond_false, sidesTextR_I (goR_sm hb hbh), Option.bind_some]
    rfl
theorem context_S {l : TX} {h : HK} {w : Int} (hl : Sm l) (hh : SmH h) (hb : SmB l) (hbh : SmBH h) : f_S_ContextText l h w = some ((ctR l h w, ctOk l h w, ()), ()) := by
  unfold f_S_ContextText ctR ctOk
  rw [groupsOf_S hl hh, Option.bind_some]
  dsimp only
  cases hk : goOk l h w
  · rfl
  · rw [Bool.not_true, cond_false, sidesTextR_S (goR_sm hb hbh), Option.bind_some]
    rfl

theorem law_ContextText (t0 : PV S_string) (t1 : PV S_laws_Hunk) (t2 : PV (.int .i64)) (hw : WfV S_string t0) (hw1 : WfV S_laws_Hunk t1) (_ : WfV (.int .i64) t2) : f_L_FnExactContextText t0 t1 t2 = some ((true, ()), ()) := by
  unfold f_L_FnExactContextText
  rw [p_L_szStringS t0 1048576 (by omega) (by omega) hw, Option.bind_some]
  by_cases hs : ((tot S_string t0 : Nat) : Int) ≤ 1048576
  · rw [szR_pos hs]
    dsimp only
    rw [decide_eq_false (by omega : ¬ ((1048576 : Int) - ((tot S_string t0 : Nat) : Int) < 0)), cond_false]
    rw [p_L_szHunkS t1 (1048576 - ((tot S_string t0 : Nat) : Int)) (by omega) (by omega) hw1, Option.bind_some]
    by_cases hs1 : ((tot S_laws_Hunk t1 : Nat) : Int) ≤ 1048576 - ((tot S_string t0 : Nat) : Int)
    · rw [szR_pos hs1]
      dsimp only
      have hs' : tot S_string t0 ≤ 1048576 := by omega
      have hs1' : tot S_laws_Hunk t1 ≤ 1048576 := by omega
      have hb1 : tot S_impl_Hunk t1 ≤ 1048576 := hs1'
      have hl : Sm t0 := Sm.of hs' (by omega)
      have hh : SmH t1 := SmH.of (e := 0) hb1 (by omega)
      have hb : SmB t0 := smB_of (e := 0) hs'
      have hbh : SmBH t1 := smBH_of (e := 0) hb1
      rw [decide_eq_false (by omega : ¬ ((1048576 : Int) - ((tot S_string t0 : Nat) : Int) - ((tot S_laws_Hunk t1 : Nat) : Int) < 0)), cond_false]
      simp only [p_L_toStringS t0 hs', p_L_toHunkS t1 hs1', context_S hl hh hb hbh, context_I hl hh hb hbh, Option.bind_some, p_L_eqStringS t0 (by omega), p_L_eqHunkS t1 (by omega), beq_self_eq_true, Bool.not_true, cond_false]
    · rw [szR_neg hs1]; rfl
  · rw [szR_neg hs]; rfl
end R
end
