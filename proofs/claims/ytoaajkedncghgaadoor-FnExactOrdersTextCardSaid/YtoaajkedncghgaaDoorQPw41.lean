/- Parts of the proof: PbO Pw1 Pw2 Pw3. -/
import Derived.Test.YtoaajkedncghgaaDoorPaO
import Derived.Test.YtoaajkedncghgaaDoorL3
import Derived.Lib.ItoaLen
section
/- Plain laws of the helpers. -/
open Go Go.Dn
namespace O
set_option linter.unusedVariables false
theorem p_L_szStringS (t0 : PV S_string) (L : Int) (h0 : 0 ≤ L) (h1 : L ≤ 1048576) (hw : WfV S_string t0) : f_L_szStringS t0 L = some ((szR (tot S_string t0) L, ()), ()) := by
  have hl : List.length t0 ≤ 9223372036854775807 := hw.1
  unfold f_L_szStringS
  rw [wrap64 (by omega) (by omega)]
  by_cases hc : (t0.length : Int) ≤ L
  · rw [decide_eq_false (by omega : ¬ (L - (t0.length : Int) < 0)), cond_false, show w_L_szStringS_5 (t0, L - (t0.length : Int), 0, ()) = _ from sz_loop (T := .str) (xs := t0) (B := fun d => b_L_szStringS_5 d.1 d.2.1 d.2.2.1) (fun i hi l g0 g1 => by
      show b_L_szStringS_5 t0 l i = _
      generalize hxs : t0 = xs at *
      have hi' : (i : Int) < (xs.length : Int) := by omega
      unfold b_L_szStringS_5
      rw [decide_eq_true hi', cond_true, inB_lt hi, cond_true, toNat_cast, getD_of hi]
      have hx : (xs[i]).length ≤ 9223372036854775807 := hw.2 _ (List.getElem_mem hi)
      rw [wrap64 (by omega) (by omega), wrap64 (x := (i : Int) + 1) (by omega) (by omega)]
      by_cases hq : ((tot .str xs[i] : Nat) : Int) ≤ l
      · rw [if_pos hq]; rw [tot_str] at hq ⊢; rw [decide_eq_false (by omega : ¬ (l - (xs[i].length : Int) < 0)), cond_false]
      · rw [if_neg hq]; rw [tot_str] at hq; rw [decide_eq_true (by omega : l - (xs[i].length : Int) < 0), cond_true]) (fun l => by
      show b_L_szStringS_5 t0 l t0.length = _
      unfold b_L_szStringS_5
      rw [decide_eq_false (Int.lt_irrefl _), cond_false]) (by omega) (by omega)]
    exact sz_out hc tot_slice
  · rw [decide_eq_true (by omega : L - (t0.length : Int) < 0), cond_true, szR_neg (by rw [tot_slice]; omega)]

theorem p_L_szOrder (t0 : PV Y_impl_Order) (L : Int) (h0 : 0 ≤ L) (h1 : L ≤ 1048576) (hw : WfV Y_impl_Order t0) : f_L_szOrder t0 L = some ((szR (tot Y_impl_Order t0) L, ()), ()) := by
  unfold f_L_szOrder
  rw [p_L_szStringS _ L (by omega) (by omega) hw.2.2.2.1, Option.bind_some]
  by_cases c3 : ((tot S_string t0.2.2.2.1 : Nat) : Int) ≤ L
  · rw [szR_pos c3]; (try dsimp only); rw [decide_eq_false (by omega : ¬ (L - ((tot S_string t0.2.2.2.1 : Nat) : Int) < 0)), cond_false]
    rw [szR_pos (by simp only [tot] at *; omega)]
    refine congrArg (fun (z : Int) => some ((z, ()), ())) ?_
    simp only [tot] at *; omega
  · rw [szR_neg c3]; rw [szR_neg (by simp only [tot] at *; omega)]; rfl

theorem p_L_szOrderS (t0 : PV S_laws_Order) (L : Int) (h0 : 0 ≤ L) (h1 : L ≤ 1048576) (hw : WfV S_laws_Order t0) : f_L_szOrderS t0 L = some ((szR (tot S_laws_Order t0) L, ()), ()) := by
  have hl : List.length t0 ≤ 9223372036854775807 := hw.1
  unfold f_L_szOrderS
  rw [wrap64 (by omega) (by omega)]
  by_cases hc : (t0.length : Int) ≤ L
  · rw [decide_eq_false (by omega : ¬ (L - (t0.length : Int) < 0)), cond_false, show w_L_szOrderS_5 (t0, L - (t0.length : Int), 0, ()) = _ from sz_loop (T := Y_impl_Order) (xs := t0) (B := fun d => b_L_szOrderS_5 d.1 d.2.1 d.2.2.1) (fun i hi l g0 g1 => by
      show b_L_szOrderS_5 t0 l i = _
      generalize hxs : t0 = xs at *
      have hi' : (i : Int) < (xs.length : Int) := by omega
      unfold b_L_szOrderS_5
      rw [decide_eq_true hi', cond_true, inB_lt hi, cond_true, toNat_cast, getD_of hi]
      rw [p_L_szOrder _ l g0 g1 (hw.2 _ (List.getElem_mem hi)), Option.bind_some, wrap64 (x := (i : Int) + 1) (by omega) (by omega)]
      by_cases hq : ((tot Y_impl_Order xs[i] : Nat) : Int) ≤ l
      · rw [if_pos hq, szR_pos hq]; dsimp only; rw [decide_eq_false (by omega : ¬ (l - ((tot Y_impl_Order xs[i] : Nat) : Int) < 0)), cond_false]
      · rw [if_neg hq, szR_neg hq]; rfl) (fun l => by
      show b_L_szOrderS_5 t0 l t0.length = _
      unfold b_L_szOrderS_5
      rw [decide_eq_false (Int.lt_irrefl _), cond_false]) (by omega) (by omega)]
    exact sz_out hc tot_slice
  · rw [decide_eq_true (by omega : L - (t0.length : Int) < 0), cond_true, szR_neg (by rw [tot_slice]; omega)]

theorem p_L_toStringS (t0 : PV S_string) (hs : tot S_string t0 ≤ 1048576) : f_L_toStringS t0 = some ((t0, ()), ()) := by
  unfold f_L_toStringS
  have hl : List.length t0 ≤ 1048576 := Nat.le_trans (Nat.le_add_right _ _) (tot_slice ▸ hs)
  rw [room_len (by omega), cond_true, toNat_cast]
  rw [show w_L_toStringS_3 (t0, List.replicate t0.length _, 0, ()) = _ from to_loop (xs := t0) t0 (B := lp_L_toStringS_3.B) rfl (fun i hi acc ha => by
      show b_L_toStringS_3 t0 acc i = _
      unfold b_L_toStringS_3
      have hi' : (i : Int) < (t0.length : Int) := by omega
      rw [decide_eq_true hi', cond_true, inB_lt hi, cond_true, toNat_cast, getD_of hi]
      rw [inB_lt (by omega), cond_true, wrap64 (by omega) (by omega)]) (fun acc => by
      show b_L_toStringS_3 t0 acc t0.length = _
      unfold b_L_toStringS_3
      rw [decide_eq_false (Int.lt_irrefl _), cond_false])]
  rfl

theorem p_L_toOrder (t0 : PV Y_impl_Order) (hs : tot Y_impl_Order t0 ≤ 1048576) : f_L_toOrder t0 = some ((t0, ()), ()) := by
  unfold f_L_toOrder
  simp only [tot] at hs
  rw [p_L_toStringS t0.2.2.2.1 (by simp only [tot]; omega), Option.bind_some]

theorem p_L_toOrderS (t0 : PV S_laws_Order) (hs : tot S_laws_Order t0 ≤ 1048576) : f_L_toOrderS t0 = some ((t0, ()), ()) := by
  unfold f_L_toOrderS
  have hl : List.length t0 ≤ 1048576 := Nat.le_trans (Nat.le_add_right _ _) (tot_slice ▸ hs)
  rw [room_len (by omega), cond_true, toNat_cast]
  rw [show w_L_toOrderS_3 (t0, List.replicate t0.length _, 0, ()) = _ from to_loop (xs := t0) t0 (B := lp_L_toOrderS_3.B) rfl (fun i hi acc ha => by
      show b_L_toOrderS_3 t0 acc i = _
      unfold b_L_toOrderS_3
      have hi' : (i : Int) < (t0.length : Int) := by omega
      rw [decide_eq_true hi', cond_true, inB_lt hi, cond_true, toNat_cast, getD_of hi]
      rw [p_L_toOrder _ (Nat.le_trans (tot_mem hi) hs), Option.bind_some, inB_lt (by omega), cond_true, wrap64 (by omega) (by omega)]) (fun acc => by
      show b_L_toOrderS_3 t0 acc t0.length = _
      unfold b_L_toOrderS_3
      rw [decide_eq_false (Int.lt_irrefl _), cond_false])]
  rfl

theorem p_L_eqStringS (t0 : PV S_string) (hs : tot S_string t0 ≤ 4611686018427387904) : f_L_eqStringS t0 t0 = some ((true, ()), ()) := by
  unfold f_L_eqStringS
  have hl : List.length t0 ≤ 4611686018427387904 := Nat.le_trans (Nat.le_add_right _ _) (tot_slice ▸ hs)
  rw [beq_self_eq_true, Bool.not_true, cond_false]
  rw [show w_L_eqStringS_4 (t0, t0, 0, ()) = _ from eq_loop (xs := t0) (B := fun d => b_L_eqStringS_4 d.1 d.2.1 d.2.2.1) (fun i hi => by
      show b_L_eqStringS_4 t0 t0 i = _
      unfold b_L_eqStringS_4
      have hi' : (i : Int) < (t0.length : Int) := by omega
      rw [decide_eq_true hi', cond_true, inB_lt hi, cond_true, cond_true, toNat_cast, getD_of hi]
      rw [beq_self_eq_true, Bool.not_true, cond_false, wrap64 (by omega) (by omega)]) (by
      show b_L_eqStringS_4 t0 t0 t0.length = _
      unfold b_L_eqStringS_4
      rw [decide_eq_false (Int.lt_irrefl _), cond_false])]
  rfl

theorem p_L_eqOrder (t0 : PV Y_impl_Order) (hs : tot Y_impl_Order t0 ≤ 4611686018427387904) : f_L_eqOrder t0 t0 = some ((true, ()), ()) := by
  unfold f_L_eqOrder
  simp only [tot] at hs
  rw [beq_self_eq_true, Bool.not_true, cond_false]
  rw [beq_self_eq_true, Bool.not_true, cond_false]
  rw [beq_self_eq_true, Bool.not_true, cond_false]
  rw [p_L_eqStringS t0.2.2.2.1 (by simp only [tot]; omega), Option.bind_some, Bool.not_true, cond_false]

theorem p_L_eqOrderS (t0 : PV S_impl_Order) (hs : tot S_impl_Order t0 ≤ 4611686018427387904) : f_L_eqOrderS t0 t0 = some ((true, ()), ()) := by
  unfold f_L_eqOrderS
  have hl : List.length t0 ≤ 4611686018427387904 := Nat.le_trans (Nat.le_add_right _ _) (tot_slice ▸ hs)
  rw [beq_self_eq_true, Bool.not_true, cond_false]
  rw [show w_L_eqOrderS_4 (t0, t0, 0, ()) = _ from eq_loop (xs := t0) (B := fun d => b_L_eqOrderS_4 d.1 d.2.1 d.2.2.1) (fun i hi => by
      show b_L_eqOrderS_4 t0 t0 i = _
      unfold b_L_eqOrderS_4
      have hi' : (i : Int) < (t0.length : Int) := by omega
      rw [decide_eq_true hi', cond_true, inB_lt hi, cond_true, cond_true, toNat_cast, getD_of hi]
      rw [p_L_eqOrder _ (Nat.le_trans (tot_mem hi) hs), Option.bind_some, Bool.not_true, cond_false, wrap64 (by omega) (by omega)]) (by
      show b_L_eqOrderS_4 t0 t0 t0.length = _
      unfold b_L_eqOrderS_4
      rw [decide_eq_false (Int.lt_irrefl _), cond_false])]
  rfl

end O
end

section
/- Lines: both sides' tests of lines answer the same. -/
open Go Go.Dn
namespace O
set_option linter.unusedVariables false

theorem in_I (a b c : Int) : f_I_in a b c = some ((decide (a ≥ b) && decide (a ≤ c), ()), ()) := by
  unfold f_I_in
  cases decide (a ≥ b) <;> rfl
theorem in_S (a b c : Int) : f_S_l1In a b c = some ((decide (a ≥ b) && decide (a ≤ c), ()), ()) := by
  unfold f_S_l1In
  cases decide (a ≥ b) <;> rfl

def inI (a b c : Int) : Bool := decide (a ≥ b) && decide (a ≤ c)
def hasEnd (s : List UInt8) : Bool := (s.take (s.length - 1)).contains 10
def lineP (s : List UInt8) : Bool := inI (s.length : Int) 1 30 && !hasEnd s
def endP (s : List UInt8) : Bool := s.drop (s.length - 1) == [10]

theorem line_len {s : List UInt8} (h : lineP s = true) : 1 ≤ s.length ∧ s.length ≤ 30 := by
  unfold lineP inI at h
  simp only [Bool.and_eq_true, decide_eq_true_eq] at h
  omega

theorem line_S (s : List UInt8) (hs : s.length ≤ 4611686018427387904) : f_S_l1Line s = some ((lineP s, ()), ()) := by
  unfold f_S_l1Line
  have hw : IntKind.wrap .i64 ((s.length : Int) - 1) = (s.length : Int) - 1 := wrap64 (by omega) (by omega)
  rw [show w_S_l1Line_2 (s, 0, ()) = _ from fix_anyN (B := fun d => b_S_l1Line_2 d.1 d.2.1) (s.length - 1) (fun i => s.getD i 0 == 10) (fun i => (s, (i : Int), ())) (fun _ => .inr (false, ())) (.inl (s, ()))
    (fun i hi hq => by
      show b_S_l1Line_2 s i = _
      unfold b_S_l1Line_2
      rw [hw, decide_eq_true (by omega : (i : Int) < (s.length : Int) - 1), cond_true, inB_lt (by omega), cond_true, toNat_cast]
      rw [show ((((s.getD i 0 : UInt8).toNat : Nat) : Int) == 10) = (s.getD i 0 == 10) from byte_eq (n := 10) (by omega), hq, cond_false, wrap64 (by omega) (by omega)]
      simp)
    (fun i hi hq => by
      show b_S_l1Line_2 s i = _
      unfold b_S_l1Line_2
      rw [hw, decide_eq_true (by omega : (i : Int) < (s.length : Int) - 1), cond_true, inB_lt (by omega), cond_true, toNat_cast]
      rw [show ((((s.getD i 0 : UInt8).toNat : Nat) : Int) == 10) = (s.getD i 0 == 10) from byte_eq (n := 10) (by omega), hq, cond_true])
    (by
      show b_S_l1Line_2 s ((s.length - 1 : Nat) : Int) = _
      unfold b_S_l1Line_2
      rw [hw, decide_eq_false (by omega : ¬ (((s.length - 1 : Nat) : Int) < (s.length : Int) - 1)), cond_false])]
  rw [contains_take (by omega)]
  unfold lineP hasEnd
  cases (s.take (s.length - 1)).contains 10
  · simp only [Bool.false_eq_true, if_false, Option.bind_some, in_S]; simp [inI]
  · simp

theorem ends_S (s : List UInt8) (h1 : 1 ≤ s.length) (hs : s.length ≤ 4611686018427387904) : f_S_l1Ends s = some ((endP s, ()), ()) := by
  unfold f_S_l1Ends
  have hw : IntKind.wrap .i64 ((s.length : Int) - 1) = ((s.length - 1 : Nat) : Int) := by rw [wrap64 (by omega) (by omega)]; omega
  rw [hw, inB_lt (by omega), cond_true, toNat_cast]
  rw [show ((((s.getD (s.length - 1) 0 : UInt8).toNat : Nat) : Int) == 10) = (s.getD (s.length - 1) 0 == 10) from byte_eq (n := 10) (by omega)]
  unfold endP
  rw [List.drop_eq_getElem_cons (by omega : s.length - 1 < s.length), List.drop_of_length_le (by omega), getD_of (by omega)]
  simp

theorem line_I (s : List UInt8) (hs : s.length ≤ 4611686018427387904) : f_I_isLine s = some ((lineP s, ()), ()) := by
  unfold f_I_isLine
  rw [in_I, Option.bind_some]
  dsimp only
  unfold lineP
  cases h : inI (s.length : Int) 1 30
  · unfold inI at h; rw [h]; rfl
  · have h' := h
    unfold inI at h'
    rw [h', cond_true]
    simp only [Bool.and_eq_true, decide_eq_true_eq] at h'
    rw [wrap64 (by omega) (by omega)]
    rw [show cutB 0 ((s.length : Int) - 1) s.length = true from by unfold cutB; simp; omega, cond_true]
    unfold f_strings_Contains containsF
    rw [Option.bind_some]
    unfold hasEnd cutL
    rw [show ((s.length : Int) - 1).toNat = s.length - 1 from by omega]
    simp

theorem ends_I (s : List UInt8) (hs : s.length ≤ 4611686018427387904) : f_I_isEnded s = some ((endP s, ()), ()) := by
  unfold f_I_isEnded f_strings_HasSuffix f_internal_stringslite_HasSuffix endP
  by_cases h : 1 ≤ s.length
  · rw [decide_eq_true (by simp; omega : (s.length : Int) ≥ (([10] : List UInt8).length : Int)), cond_true]
    have hw : IntKind.wrap .i64 ((s.length : Int) - (([10] : List UInt8).length : Int)) = ((s.length - 1 : Nat) : Int) := by
      rw [show ((([10] : List UInt8).length : Nat) : Int) = 1 from rfl, wrap64 (by omega) (by omega)]; omega
    rw [hw, show cutB ((s.length - 1 : Nat) : Int) (s.length : Int) s.length = true from by unfold cutB; simp, cond_true]
    unfold cutL
    simp
  · have : s = [] := List.eq_nil_of_length_eq_zero (by omega)
    subst this
    rfl

/-- Lines, each by itself, and not too many. -/
def linesP (l : List (List UInt8)) : Bool := decide (l.length ≤ 40) && !(l.any fun s => !lineP s)
def endsP (l : List (List UInt8)) : Bool := !(anyN l.length fun k => decide ((k : Int) < (l.length : Int) - 1) && !(endP (l.getD k [])))
def goodP (l : List (List UInt8)) : Bool := linesP l && endsP l

def Sm (l : List (List UInt8)) : Prop := l.length ≤ 4611686018427387904 ∧ ∀ s ∈ l, s.length ≤ 4611686018427387904

theorem Sm.len {l : List (List UInt8)} (h : Sm l) : l.length ≤ 4611686018427387904 := h.1
theorem Sm.mem {l : List (List UInt8)} (h : Sm l) {i : Nat} (hi : i < l.length) : (l[i]).length ≤ 4611686018427387904 := h.2 _ (List.getElem_mem hi)
theorem Sm.of {l : List (List UInt8)} {n : Nat} (h : tot (.slice 9 .str) l ≤ n) (hn : n ≤ 4611686018427387904) : Sm l := by
  refine ⟨?_, fun s hs => ?_⟩
  · have h' := h
    rw [tot_slice] at h'
    omega
  · obtain ⟨i, hi, rfl⟩ := List.mem_iff_getElem.1 hs
    have := Nat.le_trans (tot_mem (e := 9) (t := .str) (xs := l) hi) h
    rw [tot_str] at this
    omega
end O
end

section
/- Good orders: both sides answer the same. -/
open Go Go.Dn
namespace O
set_option linter.unusedVariables false

def badO (s : List UInt8) : Bool := !lineP s || (!endP s || s == [46, 10])
def freshP (l : List (List UInt8)) : Bool := inI (l.length : Int) 1 40 && !(l.any badO)
def orderP (x : PV Y_impl_Order) : Bool :=
  (inI x.2.1 0 1000 && inI x.2.2.1 x.2.1 1000) &&
    bif x.1 == 1 then (x.2.2.1 == x.2.1) && freshP x.2.2.2.1
    else bif x.1 == 2 then (x.2.2.1 == x.2.1) && (decide (x.2.1 ≥ 1) && freshP x.2.2.2.1)
    else bif x.1 == 3 then decide (x.2.1 ≥ 1) && freshP x.2.2.2.1
    else bif x.1 == 4 then decide (x.2.1 ≥ 1) && ((List.length x.2.2.2.1 : Int) == 0)
    else bif x.1 == 5 then decide (x.2.1 ≥ 1) && ((x.2.2.1 == x.2.1) && ((List.length x.2.2.2.1 : Int) == 0))
    else false
def ordersP (l : List (PV Y_impl_Order)) : Bool := decide (l.length ≤ 60) && !(l.any fun x => !orderP x)

theorem bad_I (s : List UInt8) (hs : s.length ≤ 4611686018427387904) : f_I_goodOrder_1 s = some ((badO s, ()), ()) := by
  unfold f_I_goodOrder_1 badO
  rw [line_I s hs, ends_I s hs, Option.bind_some, Option.bind_some]
  dsimp only
  cases lineP s <;> cases endP s <;> rfl

theorem fresh_S (t0 : List (List UInt8)) (hs : Sm t0) : f_S_l9Lines t0 = some ((freshP t0, ()), ()) := by
  have hl := hs.len
  unfold f_S_l9Lines
  have hr : ∀ i, i < t0.length → (((f_S_l1Line (t0.getD i [])).bind fun r4 => bif !r4.1.1 then some (t0, t0, (t0.length : Int), (i : Int), true, ()) else
      (f_S_l1Ends (t0.getD i [])).bind fun r5 => bif !r5.1.1 then some (t0, t0, (t0.length : Int), (i : Int), true, ()) else some (t0, t0, (t0.length : Int), (i : Int), (t0.getD i []) == [46, 10], ())) : Option (PV S_string × PV S_string × Int × Int × Bool × Unit)) =
      some (t0, t0, (t0.length : Int), (i : Int), badO (t0.getD i []), ()) := by
    intro i hi
    unfold badO
    rw [getD_of hi, line_S _ (hs.mem hi), Option.bind_some]
    dsimp only
    cases hL : lineP t0[i]
    · rfl
    · rw [Bool.not_true, cond_false, Bool.false_or, ends_S _ (line_len hL).1 (hs.mem hi), Option.bind_some]
      dsimp only
      cases endP t0[i] <;> rfl
  rw [show w_S_l9Lines_2 (t0, t0, (t0.length : Int), 0, ()) = _ from fix_anyN (B := fun d => b_S_l9Lines_2 d.1 d.2.1 d.2.2.1 d.2.2.2.1) t0.length (fun k => badO (t0.getD k []))
      (fun i => (t0, t0, (t0.length : Int), (i : Int), ())) (fun _ => .inr (false, ())) (.inl (t0, ()))
      (fun i hi hq => by
        show b_S_l9Lines_2 t0 t0 t0.length i = _
        unfold b_S_l9Lines_2
        rw [decide_eq_true (by omega : (i : Int) < (t0.length : Int)), cond_true, inB_lt hi, cond_true, toNat_cast, hr i hi, hq, Option.bind_some]
        dsimp only
        rw [cond_false, wrap64 (by omega) (by omega)]; rfl)
      (fun i hi hq => by
        show b_S_l9Lines_2 t0 t0 t0.length i = _
        unfold b_S_l9Lines_2
        rw [decide_eq_true (by omega : (i : Int) < (t0.length : Int)), cond_true, inB_lt hi, cond_true, toNat_cast, hr i hi, hq, Option.bind_some]
        rfl)
      (by
        show b_S_l9Lines_2 t0 t0 t0.length t0.length = _
        unfold b_S_l9Lines_2
        rw [decide_eq_false (Int.lt_irrefl _), cond_false])]
  rw [anyN_list (f := badO)]
  unfold freshP
  cases t0.any badO
  · simp only [Bool.false_eq_true, if_false, Option.bind_some, in_S]; simp [inI]
  · simp

theorem order_S (x : PV Y_impl_Order) (hs : Sm x.2.2.2.1) : f_S_l9Order x = some ((orderP x, ()), ()) := by
  unfold f_S_l9Order orderP
  rw [in_S, in_S, Option.bind_some, Option.bind_some]
  dsimp only
  unfold inI
  cases decide (x.2.1 ≥ 0) && decide (x.2.1 ≤ 1000)
  · rfl
  · rw [Bool.not_true, cond_false, Option.bind_some]
    dsimp only
    cases decide (x.2.2.1 ≥ x.2.1) && decide (x.2.2.1 ≤ 1000)
    · rfl
    · rw [Bool.not_true, cond_false, fresh_S _ hs]
      simp only [Option.bind_some, Bool.true_and]
      cases x.1 == 1 <;> cases x.1 == 2 <;> cases x.1 == 3 <;> cases x.1 == 4 <;> cases x.1 == 5 <;> cases x.2.2.1 == x.2.1 <;> cases decide (x.2.1 ≥ 1) <;> rfl

theorem loop_I (x : PV Y_impl_Order) (a : Bool) (l : List (List UInt8)) (b : Bool) (hs : Sm l) :
    w_I_goodOrder_70_2 (x, a, l, (l.length : Int), b, true, l, l, false, l, l, (l.length : Int), 0, ()) = some (if l.any badO then .inr (x, a, l, (l.length : Int), b, true, l, l, false, l, ((l.findIdx badO : Nat) : Int), ()) else .inl (x, a, l, (l.length : Int), b, true, l, l, false, l, ())) := by
  have hl := hs.len
  exact fix_any (B := fun d => b_I_goodOrder_70_2 d.1 d.2.1 d.2.2.1 d.2.2.2.1 d.2.2.2.2.1 d.2.2.2.2.2.1 d.2.2.2.2.2.2.1 d.2.2.2.2.2.2.2.1 d.2.2.2.2.2.2.2.2.1 d.2.2.2.2.2.2.2.2.2.1 d.2.2.2.2.2.2.2.2.2.2.1 d.2.2.2.2.2.2.2.2.2.2.2.1 d.2.2.2.2.2.2.2.2.2.2.2.2.1) l badO
      (fun i => (x, a, l, (l.length : Int), b, true, l, l, false, l, l, (l.length : Int), (i : Int), ())) (fun i => .inr (x, a, l, (l.length : Int), b, true, l, l, false, l, (i : Int), ())) (.inl (x, a, l, (l.length : Int), b, true, l, l, false, l, ()))
      (fun i hi hq => by
        show b_I_goodOrder_70_2 _ _ _ _ _ _ _ _ _ _ l l.length i = _
        unfold b_I_goodOrder_70_2
        rw [decide_eq_true (by omega : (i : Int) < (l.length : Int)), cond_true, inB_lt hi, cond_true, toNat_cast, getD_of hi, bad_I _ (hs.mem hi), Option.bind_some]
        dsimp only
        rw [hq, cond_false, wrap64 (by omega) (by omega)]; rfl)
      (fun i hi hq => by
        show b_I_goodOrder_70_2 _ _ _ _ _ _ _ _ _ _ l l.length i = _
        unfold b_I_goodOrder_70_2
        rw [decide_eq_true (by omega : (i : Int) < (l.length : Int)), cond_true, inB_lt hi, cond_true, toNat_cast, getD_of hi, bad_I _ (hs.mem hi), Option.bind_some]
        dsimp only
        rw [hq, cond_true])
      (by
        show b_I_goodOrder_70_2 _ _ _ _ _ _ _ _ _ _ l l.length l.length = _
        unfold b_I_goodOrder_70_2
        rw [decide_eq_false (Int.lt_irrefl _), cond_false])

theorem order_I (x : PV Y_impl_Order) (hs : Sm x.2.2.2.1) : f_I_goodOrder x = some ((orderP x, ()), ()) := by
  unfold f_I_goodOrder orderP
  rw [in_I, in_I, Option.bind_some, Option.bind_some]
  dsimp only
  unfold inI
  cases decide (x.2.1 ≥ 0) && decide (x.2.1 ≤ 1000)
  · rfl
  · rw [Bool.not_true, cond_false, Option.bind_some]
    dsimp only
    cases decide (x.2.2.1 ≥ x.2.1) && decide (x.2.2.1 ≤ 1000)
    · rfl
    · rw [Bool.not_true, cond_false, in_I, Option.bind_some]
      dsimp only
      unfold freshP inI
      generalize hb : (decide ((List.length x.2.2.2.1 : Int) ≥ 1) && decide ((List.length x.2.2.2.1 : Int) ≤ 40)) = b
      cases b
      · rw [cond_false, Option.bind_some]
        dsimp only
        simp only [Bool.true_and]
        cases x.1 == 1 <;> cases x.1 == 2 <;> cases x.1 == 3 <;> cases x.1 == 4 <;> cases x.1 == 5 <;> cases x.2.2.1 == x.2.1 <;> cases decide (x.2.1 ≥ 1) <;> cases ((List.length x.2.2.2.1 : Int) == 0) <;> rfl
      · rw [cond_true, loop_I x _ _ _ hs]
        cases List.any x.2.2.2.1 badO
        · rw [if_neg (by simp), Option.bind_some]
          dsimp only
          rw [cond_true, Option.bind_some]
          dsimp only
          simp only [Bool.true_and]
          cases x.1 == 1 <;> cases x.1 == 2 <;> cases x.1 == 3 <;> cases x.1 == 4 <;> cases x.1 == 5 <;> cases x.2.2.1 == x.2.1 <;> cases decide (x.2.1 ≥ 1) <;> cases ((List.length x.2.2.2.1 : Int) == 0) <;> rfl
        · rw [if_pos rfl, Option.bind_some]
          dsimp only
          rw [cond_true, decide_eq_true (by omega : ((List.findIdx badO x.2.2.2.1 : Nat) : Int) ≥ 0), Option.bind_some]
          dsimp only
          simp only [Bool.true_and]
          cases x.1 == 1 <;> cases x.1 == 2 <;> cases x.1 == 3 <;> cases x.1 == 4 <;> cases x.1 == 5 <;> cases x.2.2.1 == x.2.1 <;> cases decide (x.2.1 ≥ 1) <;> cases ((List.length x.2.2.2.1 : Int) == 0) <;> rfl

theorem Sm.order {l : List (PV Y_impl_Order)} (hs : tot S_impl_Order l ≤ 4611686018427387904) {i : Nat} (hi : i < l.length) : Sm l[i].2.2.2.1 := by
  have h := Nat.le_trans (tot_mem (e := 103) (t := Y_impl_Order) hi) hs
  refine Sm.of (n := 4611686018427387904) ?_ (Nat.le_refl _)
  simp only [tot] at h ⊢
  omega

theorem orders_S (t0 : List (PV Y_impl_Order)) (hs : tot S_impl_Order t0 ≤ 4611686018427387904) : f_S_l9Good t0 = some ((ordersP t0, ()), ()) := by
  have hl : t0.length ≤ 4611686018427387904 := Nat.le_trans (Nat.le_add_right _ _) (tot_slice (e := 103) (t := Y_impl_Order) ▸ hs)
  unfold f_S_l9Good
  rw [show w_S_l9Good_2 (t0, t0, (t0.length : Int), 0, ()) = _ from fix_any (B := fun d => b_S_l9Good_2 d.1 d.2.1 d.2.2.1 d.2.2.2.1) t0 (fun x => !orderP x) (fun i => (t0, t0, (t0.length : Int), (i : Int), ())) (fun _ => .inr (false, ())) (.inl (t0, ()))
    (fun i hi hq => by
      show b_S_l9Good_2 t0 t0 t0.length i = _
      unfold b_S_l9Good_2
      rw [decide_eq_true (by omega : (i : Int) < (t0.length : Int)), cond_true, inB_lt hi, cond_true, toNat_cast, getD_of hi, order_S _ (Sm.order hs hi), Option.bind_some]
      dsimp only
      rw [hq, cond_false, wrap64 (by omega) (by omega)]; rfl)
    (fun i hi hq => by
      show b_S_l9Good_2 t0 t0 t0.length i = _
      unfold b_S_l9Good_2
      rw [decide_eq_true (by omega : (i : Int) < (t0.length : Int)), cond_true, inB_lt hi, cond_true, toNat_cast, getD_of hi, order_S _ (Sm.order hs hi), Option.bind_some]
      dsimp only
      rw [hq, cond_true])
    (by
      show b_S_l9Good_2 t0 t0 t0.length t0.length = _
      unfold b_S_l9Good_2
      rw [decide_eq_false (Int.lt_irrefl _), cond_false])]
  unfold ordersP
  cases h : t0.any fun x => !orderP x
  · simp; omega
  · simp

theorem orders_I (t0 : List (PV Y_impl_Order)) (hs : tot S_impl_Order t0 ≤ 4611686018427387904) : f_I_goodOrders t0 = some ((ordersP t0, ()), ()) := by
  unfold f_I_goodOrders ordersP
  by_cases hl : t0.length ≤ 60
  · rw [decide_eq_true (by omega : (t0.length : Int) ≤ 60), cond_true, decide_eq_true hl, Bool.true_and]
    rw [show w_I_goodOrders_53_2 (t0, false, t0, (t0.length : Int), true, true, t0, t0, false, t0, t0, (t0.length : Int), 0, ()) = _ from
      fix_any (B := fun d => b_I_goodOrders_53_2 d.1 d.2.1 d.2.2.1 d.2.2.2.1 d.2.2.2.2.1 d.2.2.2.2.2.1 d.2.2.2.2.2.2.1 d.2.2.2.2.2.2.2.1 d.2.2.2.2.2.2.2.2.1 d.2.2.2.2.2.2.2.2.2.1 d.2.2.2.2.2.2.2.2.2.2.1 d.2.2.2.2.2.2.2.2.2.2.2.1 d.2.2.2.2.2.2.2.2.2.2.2.2.1) t0 (fun x => !orderP x)
      (fun i => (t0, false, t0, (t0.length : Int), true, true, t0, t0, false, t0, t0, (t0.length : Int), (i : Int), ())) (fun i => .inr (t0, false, t0, (t0.length : Int), true, true, t0, t0, false, t0, (i : Int), ())) (.inl (t0, false, t0, (t0.length : Int), true, true, t0, t0, false, t0, ()))
      (fun i hi hq => by
        show b_I_goodOrders_53_2 _ _ _ _ _ _ _ _ _ _ t0 t0.length i = _
        unfold b_I_goodOrders_53_2 f_I_goodOrders_1
        rw [decide_eq_true (by omega : (i : Int) < (t0.length : Int)), cond_true, inB_lt hi, cond_true, toNat_cast, getD_of hi, order_I _ (Sm.order hs hi), Option.bind_some, Option.bind_some]
        dsimp only
        rw [hq, cond_false, wrap64 (by omega) (by omega)]; rfl)
      (fun i hi hq => by
        show b_I_goodOrders_53_2 _ _ _ _ _ _ _ _ _ _ t0 t0.length i = _
        unfold b_I_goodOrders_53_2 f_I_goodOrders_1
        rw [decide_eq_true (by omega : (i : Int) < (t0.length : Int)), cond_true, inB_lt hi, cond_true, toNat_cast, getD_of hi, order_I _ (Sm.order hs hi), Option.bind_some, Option.bind_some]
        dsimp only
        rw [hq, cond_true])
      (by
        show b_I_goodOrders_53_2 _ _ _ _ _ _ _ _ _ _ t0 t0.length t0.length = _
        unfold b_I_goodOrders_53_2
        rw [decide_eq_false (Int.lt_irrefl _), cond_false])]
    cases h : t0.any fun x => !orderP x
    · rfl
    · simp
  · rw [decide_eq_false (by omega : ¬ (t0.length : Int) ≤ 60), cond_false, decide_eq_false hl]; rfl
end O
end

section
/- Orders as texts: both sides write the same. -/
open Go Go.Dn
namespace O
set_option linter.unusedVariables false

theorem wrap8 {x : Int} (h1 : 0 ≤ x) (h2 : x ≤ 255) : IntKind.wrap .u8 x = x := by
  simp [IntKind.wrap, IntKind.signed, IntKind.bits]
  omega

abbrev dec (n : Nat) : List UInt8 := Lib.decDigits n
abbrev TX := List (List UInt8)

theorem dec_len (n : Nat) (h : n ≤ 1000000) : (dec n).length ≤ 21 := by
  have := Lib.itoa_length_le (n : Int) (by omega) (by omega)
  rwa [Lib.itoa_nonneg] at this

theorem dig_one {n : Nat} (h : n < 10) : bytesOfInts [IntKind.wrap .u8 (IntKind.wrap .i64 (48 + (n : Int)))] = [UInt8.ofNat (48 + n)] := by
  rw [wrap64 (by omega) (by omega), wrap8 (by omega) (by omega)]
  show [UInt8.ofNat ((48 + (n : Int)).toNat)] = _
  congr 2

theorem num_n : ∀ (f n : Nat), n < f → n ≤ 1000000 → fn_S_l1Num f (n : Int) = some ((dec n, ()), ())
  | 0, n, h, _ => by omega
  | f + 1, n, h, hb => by
    show fr_S_l1Num (fn_S_l1Num f) (n : Int) = _
    unfold fr_S_l1Num
    by_cases hn : n < 10
    · rw [decide_eq_true (by omega : (n : Int) < 10), cond_true, dig_one hn, show dec n = _ from Lib.decDigits_one hn]
    · rw [decide_eq_false (by omega : ¬ (n : Int) < 10), cond_false, show ((10 : Nat) == 0) = false from rfl, cond_false]
      rw [show (n : Int).tdiv 10 = ((n / 10 : Nat) : Int) from by rw [Int.tdiv_eq_ediv_of_nonneg (by omega)]; omega, show (n : Int).tmod 10 = ((n % 10 : Nat) : Int) from by rw [Int.tmod_eq_emod_of_nonneg (by omega)]; omega]
      rw [wrap64 (x := ((n / 10 : Nat) : Int)) (by omega) (by omega), num_n f (n / 10) (by omega) (by omega), Option.bind_some, cond_false]
      have hl := dec_len (n / 10) (by omega)
      rw [dig_one (by omega)]
      dsimp only
      rw [decide_eq_true (by simp only [List.length_cons, List.length_nil]; omega), cond_true]
      rw [show dec n = dec (n / 10) ++ [UInt8.ofNat (48 + n % 10)] from by
        show Lib.decDigits n = _
        rw [Lib.decDigits, dif_neg hn]]

theorem num_S (n : Nat) (h : n ≤ 1000000) : f_S_l1Num (n : Int) = some ((dec n, ()), ()) := by
  unfold f_S_l1Num
  exact num_n _ n (by simp) h
theorem num_I (n : Nat) (h : n ≤ 1000000) : f_strconv_Itoa (n : Int) = some ((dec n, ()), ()) := by
  unfold f_strconv_Itoa itoaF
  rw [decide_eq_true (by omega), decide_eq_true (by omega : (n : Int) ≤ 9223372036854775807), Lib.itoa_nonneg]
  rfl

def pairT (a b : Nat) : List UInt8 := if a = b then dec a else (dec a ++ [44]) ++ dec b
theorem pairT_len {a b : Nat} (ha : a ≤ 10000) (hb : b ≤ 10000) : (pairT a b).length ≤ 43 := by
  have := dec_len a (by omega)
  have := dec_len b (by omega)
  unfold pairT
  split
  · omega
  · simp only [List.length_append, List.length_cons, List.length_nil]; omega
theorem pair_I {a b : Nat} (ha : a ≤ 10000) (hb : b ≤ 10000) : f_I_pairOf (a : Int) (b : Int) = some ((pairT a b, ()), ()) := by
  have h1 := dec_len a (by omega)
  have h2 := dec_len b (by omega)
  unfold f_I_pairOf pairT
  rw [num_I a (by omega), num_I b (by omega)]
  by_cases h : a = b
  · rw [if_pos h, show ((a : Int) == (b : Int)) = true from by rw [h]; exact beq_self_eq_true _]; rfl
  · rw [if_neg h, show ((a : Int) == (b : Int)) = false from beq_eq_false_iff_ne.2 (by omega), cond_false, Option.bind_some]
    dsimp only
    rw [decide_eq_true (by simp only [List.length_cons, List.length_nil]; omega), cond_true, Option.bind_some]
    dsimp only
    rw [decide_eq_true (by simp only [List.length_append, List.length_cons, List.length_nil]; omega), cond_true]
theorem pair_S {a b : Nat} (ha : a ≤ 10000) (hb : b ≤ 10000) : f_S_l5Numbers (a : Int) (b : Int) = some ((pairT a b, ()), ()) := by
  have h1 := dec_len a (by omega)
  have h2 := dec_len b (by omega)
  unfold f_S_l5Numbers pairT
  rw [num_S a (by omega), num_S b (by omega)]
  by_cases h : a = b
  · rw [if_pos h, show ((a : Int) == (b : Int)) = true from by rw [h]; exact beq_self_eq_true _]; rfl
  · rw [if_neg h, show ((a : Int) == (b : Int)) = false from beq_eq_false_iff_ne.2 (by omega), cond_false, Option.bind_some]
    dsimp only
    rw [decide_eq_true (by simp only [List.length_cons, List.length_nil]; omega), cond_true, Option.bind_some]
    dsimp only
    rw [decide_eq_true (by simp only [List.length_append, List.length_cons, List.length_nil]; omega), cond_true]

theorem foldl_app {α : Type} (f : α → List UInt8) : ∀ (l : List α) (a : List UInt8), l.foldl (fun a r => a ++ f r) a = a ++ l.flatMap f
  | [], a => by simp
  | x :: l, a => by rw [List.foldl_cons, foldl_app f l, List.flatMap_cons, List.append_assoc]

theorem join_empty : ∀ xs : TX, Go.Lib.join xs [] = xs.flatten
  | [] => rfl
  | x :: r => by
    rw [Go.Lib.join_cons]
    have : ∀ r : TX, Go.Lib.joinTail [] r = r.flatten := fun r => by
      unfold Go.Lib.joinTail
      rw [show (r.map fun s => ([] : List UInt8) ++ s) = r from by rw [show (fun s : List UInt8 => ([] : List UInt8) ++ s) = id from funext fun s => rfl, List.map_id]]
    rw [this, List.flatten_cons]

theorem lines_len : ∀ {l : TX}, (∀ s ∈ l, s.length ≤ 30) → l.flatten.length ≤ 30 * l.length
  | [], _ => by simp
  | s :: l, h => by
    have h1 := h s (List.mem_cons_self ..)
    have h2 := lines_len (l := l) fun y hy => h y (List.mem_cons_of_mem _ hy)
    rw [List.flatten_cons, List.length_append, List.length_cons, Nat.mul_add]
    omega

theorem text_S (l : TX) (hl : l.length ≤ 40) (h : ∀ s ∈ l, s.length ≤ 30) : f_S_l1Text l = some ((l.flatten, ()), ()) := by
  have hF := fix_fold (B := fun d => b_S_l1Text_3 d.1 d.2.1 d.2.2.1 d.2.2.2.1) l (fun (o : List UInt8) s => o ++ s) (fun o i => (o, l, (l.length : Int), (i : Int), ())) (fun o => (o, ())) (fun i o => o.length ≤ 30 * i)
    (fun i hi o hI => by
      have h0 := h _ (List.getElem_mem hi)
      refine ⟨by rw [List.length_append]; omega, ?_⟩
      show b_S_l1Text_3 o l l.length i = _
      unfold b_S_l1Text_3
      rw [decide_eq_true (by omega : (i : Int) < (l.length : Int)), cond_true, inB_lt hi, cond_true, toNat_cast, getD_of hi, decide_eq_true (by omega), cond_true, wrap64 (by omega) (by omega)]
      rfl)
    (fun o hI => by
      show b_S_l1Text_3 o l l.length l.length = _
      unfold b_S_l1Text_3
      rw [decide_eq_false (Int.lt_irrefl _), cond_false]) [] (Nat.zero_le _)
  unfold f_S_l1Text
  rw [show w_S_l1Text_3 ([], l, (l.length : Int), 0, ()) = _ from hF.1, Option.bind_some]
  dsimp only
  have hm : ∀ (l : TX) (o : List UInt8), l.foldl (fun (o : List UInt8) s => o ++ s) o = o ++ l.flatten := by
    intro l
    induction l with
    | nil => intro o; simp
    | cons s l ih => intro o; rw [List.foldl_cons, ih, List.flatten_cons, List.append_assoc]
  rw [hm, List.nil_append]
theorem join_I (l : TX) (hl : l.length ≤ 40) (h : ∀ s ∈ l, s.length ≤ 30) : f_strings_Join l [] = some ((l.flatten, ()), ()) := by
  have := lines_len h
  unfold f_strings_Join joinF
  rw [join_empty, decide_eq_true (by omega), decide_eq_true (by omega)]
  rfl

/-! ### an order -/
def wordT (k : Int) : List UInt8 := gs0.getD k.toNat []
def newT (l : TX) : List UInt8 := if 0 < l.length then l.flatten ++ [46, 10] else []
def ordT (x : PV Y_impl_Order) : List UInt8 := ((pairT x.2.1.toNat x.2.2.1.toNat ++ wordT x.1) ++ [10]) ++ newT x.2.2.2.1

theorem fresh_ok {l : TX} (h : freshP l = true) : l.length ≤ 40 ∧ ∀ s ∈ l, s.length ≤ 30 := by
  unfold freshP inI at h
  simp only [Bool.and_eq_true, decide_eq_true_eq, Bool.not_eq_true'] at h
  refine ⟨by omega, fun s hs => ?_⟩
  have h1 := List.any_eq_false.1 h.2 s hs
  unfold badO at h1
  cases hl : lineP s with
  | false => rw [hl] at h1; exact absurd rfl h1
  | true => exact (line_len hl).2

theorem kinds {k : Int} {e g f z : Bool} (h : (bif k == 1 then e && f else bif k == 2 then e && (g && f) else bif k == 3 then g && f else bif k == 4 then g && z else bif k == 5 then g && (e && z) else false) = true) : (1 ≤ k ∧ k ≤ 5) ∧ (f = true ∨ z = true) := by
  by_cases k1 : k = 1
  · subst k1; cases e <;> cases g <;> cases f <;> cases z <;> simp_all
  by_cases k2 : k = 2
  · subst k2; cases e <;> cases g <;> cases f <;> cases z <;> simp_all
  by_cases k3 : k = 3
  · subst k3; cases e <;> cases g <;> cases f <;> cases z <;> simp_all
  by_cases k4 : k = 4
  · subst k4; cases e <;> cases g <;> cases f <;> cases z <;> simp_all
  by_cases k5 : k = 5
  · subst k5; cases e <;> cases g <;> cases f <;> cases z <;> simp_all
  · simp [k1, k2, k3, k4, k5] at h

theorem order_ok {x : PV Y_impl_Order} (h : orderP x = true) : (∃ a : Nat, x.2.1 = (a : Int) ∧ a ≤ 1000) ∧ (∃ b : Nat, x.2.2.1 = (b : Int) ∧ b ≤ 1000) ∧ (1 ≤ x.1 ∧ x.1 ≤ 5) ∧ List.length x.2.2.2.1 ≤ 40 ∧ ∀ s ∈ (x.2.2.2.1 : TX), s.length ≤ 30 := by
  unfold orderP inI at h
  rw [Bool.and_eq_true] at h
  obtain ⟨h1, h2⟩ := h
  simp only [Bool.and_eq_true, decide_eq_true_eq] at h1
  have hk : (1 ≤ x.1 ∧ x.1 ≤ 5) ∧ (freshP x.2.2.2.1 = true ∨ (List.length x.2.2.2.1 : Int) = 0) := by
    obtain ⟨k1, k2⟩ := kinds (k := x.1) h2
    exact ⟨k1, k2.imp id fun h => beq_iff_eq.1 h⟩
  refine ⟨⟨x.2.1.toNat, (Int.toNat_of_nonneg (by omega)).symm, by omega⟩, ⟨x.2.2.1.toNat, (Int.toNat_of_nonneg (by omega)).symm, by omega⟩, hk.1, ?_⟩
  rcases hk.2 with hf | h0
  · exact fresh_ok hf
  · have : List.length x.2.2.2.1 = 0 := by omega
    exact ⟨by omega, fun s hs => by rw [List.eq_nil_of_length_eq_zero this] at hs; cases hs⟩

theorem word_len {k : Int} (h : 1 ≤ k ∧ k ≤ 5) : (wordT k).length ≤ 5 := by
  have : k = 1 ∨ k = 2 ∨ k = 3 ∨ k = 4 ∨ k = 5 := by omega
  rcases this with rfl | rfl | rfl | rfl | rfl <;> decide
theorem newT_len {l : TX} (hl : l.length ≤ 40) (h : ∀ s ∈ l, s.length ≤ 30) : (newT l).length ≤ 1202 := by
  have := lines_len h
  unfold newT
  split
  · simp only [List.length_append, List.length_cons, List.length_nil]; omega
  · exact Nat.zero_le _
theorem ordT_len {x : PV Y_impl_Order} (h : orderP x = true) : (ordT x).length ≤ 1300 := by
  obtain ⟨⟨a, ea, ha⟩, ⟨b, eb, hb⟩, hk, hl, hs⟩ := order_ok h
  have h1 := pairT_len (a := a) (b := b) (by omega) (by omega)
  have h2 := word_len hk
  have h3 := newT_len hl hs
  unfold ordT
  rw [ea, eb, toNat_cast, toNat_cast]
  simp only [List.length_append, List.length_cons, List.length_nil]; omega

theorem in6 {k : Int} (h : 1 ≤ k ∧ k ≤ 5) : inB k 6 = true := by
  have : k = 1 ∨ k = 2 ∨ k = 3 ∨ k = 4 ∨ k = 5 := by omega
  rcases this with rfl | rfl | rfl | rfl | rfl <;> decide

theorem step_I {x : PV Y_impl_Order} (h : orderP x = true) {l : List (PV Y_impl_Order)} {i : Nat} (hi : i < l.length) (hx : l[i] = x) (hll : l.length ≤ 60) {o : List UInt8} (ho : o.length ≤ 1300 * i) :
    b_I_OrdersText_5 o l (l.length : Int) (i : Int) = some (.inl (o ++ ordT x, l, (l.length : Int), ((i + 1 : Nat) : Int), ())) := by
  obtain ⟨⟨a, ea, ha⟩, ⟨b, eb, hb⟩, hk, hl, hs⟩ := order_ok h
  have h1 := pairT_len (a := a) (b := b) (by omega) (by omega)
  have h2 := word_len hk
  have h3 := lines_len hs
  unfold b_I_OrdersText_5
  rw [decide_eq_true (by omega : (i : Int) < (l.length : Int)), cond_true, inB_lt hi, cond_true, toNat_cast, getD_of hi, hx, ea, eb, pair_I (by omega) (by omega), Option.bind_some]
  rw [show gs0.length = 6 from rfl, in6 hk, cond_true, show gs0.getD x.1.toNat [] = wordT x.1 from rfl]
  dsimp only
  rw [decide_eq_true (by omega), cond_true, decide_eq_true (by simp only [List.length_append, List.length_cons, List.length_nil]; omega), cond_true, join_I _ hl hs, Option.bind_some]
  dsimp only
  rw [decide_eq_true (by simp only [List.length_append, List.length_cons, List.length_nil]; omega), cond_true, decide_eq_true (by simp only [List.length_append, List.length_cons, List.length_nil]; omega), cond_true]
  unfold ordT newT
  rw [ea, eb, toNat_cast, toNat_cast]
  by_cases h0 : 0 < List.length x.2.2.2.1
  · rw [decide_eq_true (by omega : (List.length x.2.2.2.1 : Int) > 0), cond_true, decide_eq_true (by simp only [List.length_append, List.length_cons, List.length_nil]; omega), cond_true, if_pos h0, Option.bind_some]
    dsimp only
    rw [wrap64 (by omega) (by omega)]
    simp only [List.append_assoc, Int.natCast_add]
    rfl
  · rw [decide_eq_false (by omega : ¬ (List.length x.2.2.2.1 : Int) > 0), cond_false, if_neg h0, Option.bind_some]
    dsimp only
    rw [wrap64 (by omega) (by omega)]
    rw [List.eq_nil_of_length_eq_zero (l := x.2.2.2.1) (by omega)]
    simp only [List.append_assoc, List.flatten_nil, List.append_nil, Int.natCast_add]
    rfl

theorem step_S {x : PV Y_impl_Order} (h : orderP x = true) {l : List (PV Y_impl_Order)} {i : Nat} (hi : i < l.length) (hx : l[i] = x) (hll : l.length ≤ 60) {o : List UInt8} (ho : o.length ≤ 1300 * i) :
    b_S_l9Text_3 o l (l.length : Int) (i : Int) = some (.inl (o ++ ordT x, l, (l.length : Int), ((i + 1 : Nat) : Int), ())) := by
  obtain ⟨⟨a, ea, ha⟩, ⟨b, eb, hb⟩, hk, hl, hs⟩ := order_ok h
  have h1 := pairT_len (a := a) (b := b) (by omega) (by omega)
  have h2 := word_len hk
  have h3 := lines_len hs
  unfold b_S_l9Text_3 f_S_l9Words
  rw [decide_eq_true (by omega : (i : Int) < (l.length : Int)), cond_true, inB_lt hi, cond_true, toNat_cast, getD_of hi, hx, ea, eb, pair_S (by omega) (by omega), Option.bind_some, Option.bind_some]
  dsimp only
  rw [show ([[], [97], [105], [99], [100], [115, 47, 46, 47, 47]] : TX) = gs0 from rfl, show List.length gs0 = 6 from rfl, in6 hk, cond_true, show gs0.getD x.1.toNat [] = wordT x.1 from rfl]
  rw [decide_eq_true (by omega), cond_true, decide_eq_true (by simp only [List.length_append, List.length_cons, List.length_nil]; omega), cond_true, decide_eq_true (by simp only [List.length_append, List.length_cons, List.length_nil]; omega), cond_true]
  unfold ordT newT
  rw [ea, eb, toNat_cast, toNat_cast]
  by_cases h0 : 0 < List.length x.2.2.2.1
  · rw [decide_eq_true (by omega : (List.length x.2.2.2.1 : Int) > 0), cond_true, text_S _ hl hs, Option.bind_some]
    dsimp only
    rw [decide_eq_true (by simp only [List.length_cons, List.length_nil]; omega), cond_true, decide_eq_true (by simp only [List.length_append, List.length_cons, List.length_nil]; omega), cond_true, if_pos h0, Option.bind_some]
    dsimp only
    rw [wrap64 (by omega) (by omega)]
    simp only [List.append_assoc, Int.natCast_add]
    rfl
  · rw [decide_eq_false (by omega : ¬ (List.length x.2.2.2.1 : Int) > 0), cond_false, if_neg h0, Option.bind_some]
    dsimp only
    rw [wrap64 (by omega) (by omega)]
    simp only [List.append_assoc, List.append_nil, Int.natCast_add]
    rfl

def textO (l : List (PV Y_impl_Order)) : List UInt8 := l.flatMap ordT
theorem good_at {l : List (PV Y_impl_Order)} (h : ordersP l = true) : l.length ≤ 60 ∧ ∀ x ∈ l, orderP x = true := by
  unfold ordersP at h
  rw [Bool.and_eq_true, decide_eq_true_eq, Bool.not_eq_true'] at h
  exact ⟨h.1, fun x hx => by simpa using List.any_eq_false.1 h.2 x hx⟩

theorem loop_IT {l : List (PV Y_impl_Order)} (h : ordersP l = true) : w_I_OrdersText_5 ([], l, (l.length : Int), 0, ()) = some (textO l, ()) := by
  obtain ⟨hl, hg⟩ := good_at h
  have hF := fix_fold (B := fun d => b_I_OrdersText_5 d.1 d.2.1 d.2.2.1 d.2.2.2.1) l (fun (o : List UInt8) x => o ++ ordT x) (fun o i => (o, l, (l.length : Int), (i : Int), ())) (fun o => (o, ())) (fun i o => o.length ≤ 1300 * i)
    (fun i hi o hI => by
      have hx := hg _ (List.getElem_mem hi)
      have := ordT_len hx
      exact ⟨by rw [List.length_append]; omega, step_I hx hi rfl hl hI⟩)
    (fun o hI => by
      show b_I_OrdersText_5 o l l.length l.length = _
      unfold b_I_OrdersText_5
      rw [decide_eq_false (Int.lt_irrefl _), cond_false]) [] (Nat.zero_le _)
  rw [show w_I_OrdersText_5 ([], l, (l.length : Int), 0, ()) = _ from hF.1, foldl_app]
  rfl
theorem loop_ST {l : List (PV Y_impl_Order)} (h : ordersP l = true) : w_S_l9Text_3 ([], l, (l.length : Int), 0, ()) = some (textO l, ()) := by
  obtain ⟨hl, hg⟩ := good_at h
  have hF := fix_fold (B := fun d => b_S_l9Text_3 d.1 d.2.1 d.2.2.1 d.2.2.2.1) l (fun (o : List UInt8) x => o ++ ordT x) (fun o i => (o, l, (l.length : Int), (i : Int), ())) (fun o => (o, ())) (fun i o => o.length ≤ 1300 * i)
    (fun i hi o hI => by
      have hx := hg _ (List.getElem_mem hi)
      have := ordT_len hx
      exact ⟨by rw [List.length_append]; omega, step_S hx hi rfl hl hI⟩)
    (fun o hI => by
      show b_S_l9Text_3 o l l.length l.length = _
      unfold b_S_l9Text_3
      rw [decide_eq_false (Int.lt_irrefl _), cond_false]) [] (Nat.zero_le _)
  rw [show w_S_l9Text_3 ([], l, (l.length : Int), 0, ()) = _ from hF.1, foldl_app]
  rfl

def oOk (l : List (PV Y_impl_Order)) : Bool := ordersP l && decide ((textO l).length ≤ 3000)
def oR (l : List (PV Y_impl_Order)) : List UInt8 := if oOk l = true then textO l else []

theorem text_I {l : List (PV Y_impl_Order)} (hs : tot S_impl_Order l ≤ 4611686018427387904) : f_I_OrdersText l = some ((oR l, oOk l, ()), ()) := by
  unfold f_I_OrdersText oR oOk f_I_short
  rw [orders_I l hs, Option.bind_some]
  dsimp only
  cases hg : ordersP l
  · rfl
  · rw [Bool.not_true, cond_false, loop_IT hg, Option.bind_some]
    dsimp only
    by_cases h : (textO l).length ≤ 3000
    · rw [decide_eq_false (by omega : ¬ ((textO l).length : Int) > 3000), decide_eq_true h]; rfl
    · rw [decide_eq_true (by omega : ((textO l).length : Int) > 3000), decide_eq_false h]; rfl
theorem text_ST {l : List (PV Y_impl_Order)} (hs : tot S_impl_Order l ≤ 4611686018427387904) : f_S_OrdersText l = some ((oR l, oOk l, ()), ()) := by
  unfold f_S_OrdersText oR oOk f_S_l9Text
  rw [orders_S l hs, Option.bind_some]
  dsimp only
  cases hg : ordersP l
  · rfl
  · rw [Bool.not_true, cond_false, loop_ST hg, Option.bind_some, Option.bind_some, Option.bind_some]
    dsimp only
    by_cases h : (textO l).length ≤ 3000
    · rw [decide_eq_false (by omega : ¬ ((textO l).length : Int) > 3000), decide_eq_true h, cond_false, loop_ST hg, Option.bind_some, Option.bind_some]; rfl
    · rw [decide_eq_true (by omega : ((textO l).length : Int) > 3000), decide_eq_false h]; rfl

theorem law_OrdersText (t0 : PV S_laws_Order) (hw : WfV S_laws_Order t0) : f_L_FnExactOrdersText t0 = some ((true, ()), ()) := by
  unfold f_L_FnExactOrdersText
  rw [p_L_szOrderS t0 1048576 (by omega) (by omega) hw, Option.bind_some]
  by_cases hs : ((tot S_laws_Order t0 : Nat) : Int) ≤ 1048576
  · rw [szR_pos hs]
    dsimp only
    have hs' : tot S_laws_Order t0 ≤ 1048576 := by omega
    have hb : tot S_impl_Order t0 ≤ 1048576 := hs'
    have hc : tot S_impl_Order t0 ≤ 4611686018427387904 := by omega
    rw [decide_eq_false (by omega : ¬ ((1048576 : Int) - ((tot S_laws_Order t0 : Nat) : Int) < 0)), cond_false]
    simp only [p_L_toOrderS t0 hs', text_I hc, text_ST hc, Option.bind_some, p_L_eqOrderS t0 hc, beq_self_eq_true, Bool.not_true, cond_false]
  · rw [szR_neg hs]; rfl
end O
end
