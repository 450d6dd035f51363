/- Good orders: both sides answer the same. -/
import Derived.Test.YtmdlfpmkghkakaaPl1
open Go Go.Dn
namespace R
set_option linter.unusedVariables false

def badO (s : List UInt8) : Bool := !lineP s || (!endP s || s == [46, 10])
def freshP (l : List (List UInt8)) : Bool := inI (l.length : Int) 1 40 && !(l.any badO)
def orderP (x : PV Y_impl_Order) : Bool :=
  (inI x.2.1 0 1000 && inI x.2.2.1 x.2.1 1000) &&
    bif x.1 == 1 then (x.2.2.1 == x.2.1) && freshP x.2.2.2.1
    else bif x.1 == 2 then (x.2.2.1 == x.2.1) && (decide (x.2.1 ≥ 1) && freshP x.2.2.2.1)
    else bif x.1 == 3 then decide (x.2.1 ≥ 1) && freshP x.2.2.2.1
    else bif x.1 == 4 then decide (x.2.1 ≥ 1) && ((List.length x.2.2.2.1 : Int) == 0)
    else bif x.1 == 5 then decide (x.2.1 ≥ 1) && ((x.2.2.1 == x.2.1) && ((List.length x.2.2.2.1 : Int) == 0))
    else false
def ordersP (l : List (PV Y_impl_Order)) : Bool := decide (l.length ≤ 60) && !(l.any fun x => !orderP x)

theorem bad_I (s : List UInt8) (hs : s.length ≤ 4611686018427387904) : f_I_goodOrder_1 s = some ((badO s, ()), ()) := by
  unfold f_I_goodOrder_1 badO
  rw [line_I s hs, ends_I s hs, Option.bind_some, Option.bind_some]
  dsimp only
  cases lineP s <;> cases endP s <;> rfl

theorem fresh_S (t0 : List (List UInt8)) (hs : Sm t0) : f_S_l9Lines t0 = some ((freshP t0, ()), ()) := by
  have hl := hs.len
  unfold f_S_l9Lines
  have hr : ∀ i, i < t0.length → (((f_S_l1Line (t0.getD i [])).bind fun r4 => bif !r4.1.1 then some (t0, t0, (t0.length : Int), (i : Int), true, ()) else
      (f_S_l1Ends (t0.getD i [])).bind fun r5 => bif !r5.1.1 then some (t0, t0, (t0.length : Int), (i : Int), true, ()) else some (t0, t0, (t0.length : Int), (i : Int), (t0.getD i []) == [46, 10], ())) : Option (PV S_string × PV S_string × Int × Int × Bool × Unit)) =
      some (t0, t0, (t0.length : Int), (i : Int), badO (t0.getD i []), ()) := by
    intro i hi
    unfold badO
    rw [getD_of hi, line_S _ (hs.mem hi), Option.bind_some]
    dsimp only
    cases hL : lineP t0[i]
    · rfl
    · rw [Bool.not_true, cond_false, Bool.false_or, ends_S _ (line_len hL).1 (hs.mem hi), Option.bind_some]
      dsimp only
      cases endP t0[i] <;> rfl
  rw [show w_S_l9Lines_2 (t0, t0, (t0.length : Int), 0, ()) = _ from fix_anyN (B := fun d => b_S_l9Lines_2 d.1 d.2.1 d.2.2.1 d.2.2.2.1) t0.length (fun k => badO (t0.getD k []))
      (fun i => (t0, t0, (t0.length : Int), (i : Int), ())) (fun _ => .inr (false, ())) (.inl (t0, ()))
      (fun i hi hq => by
        show b_S_l9Lines_2 t0 t0 t0.length i = _
        unfold b_S_l9Lines_2
        rw [decide_eq_true (by omega : (i : Int) < (t0.length : Int)), cond_true, inB_lt hi, cond_true, toNat_cast, hr i hi, hq, Option.bind_some]
        dsimp only
        rw [cond_false, wrap64 (by omega) (by omega)]; rfl)
      (fun i hi hq => by
        show b_S_l9Lines_2 t0 t0 t0.length i = _
        unfold b_S_l9Lines_2
        rw [decide_eq_true (by omega : (i : Int) < (t0.length : Int)), cond_true, inB_lt hi, cond_true, toNat_cast, hr i hi, hq, Option.bind_some]
        rfl)
      (by
        show b_S_l9Lines_2 t0 t0 t0.length t0.length = _
        unfold b_S_l9Lines_2
        rw [decide_eq_false (Int.lt_irrefl _), cond_false])]
  rw [anyN_list (f := badO)]
  unfold freshP
  cases t0.any badO
  · simp only [Bool.false_eq_true, if_false, Option.bind_some, in_S]; simp [inI]
  · simp

theorem order_S (x : PV Y_impl_Order) (hs : Sm x.2.2.2.1) : f_S_l9Order x = some ((orderP x, ()), ()) := by
  unfold f_S_l9Order orderP
  rw [in_S, in_S, Option.bind_some, Option.bind_some]
  dsimp only
  unfold inI
  cases decide (x.2.1 ≥ 0) && decide (x.2.1 ≤ 1000)
  · rfl
  · rw [Bool.not_true, cond_false, Option.bind_some]
    dsimp only
    cases decide (x.2.2.1 ≥ x.2.1) && decide (x.2.2.1 ≤ 1000)
    · rfl
    · rw [Bool.not_true, cond_false, fresh_S _ hs]
      simp only [Option.bind_some, Bool.true_and]
      cases x.1 == 1 <;> cases x.1 == 2 <;> cases x.1 == 3 <;> cases x.1 == 4 <;> cases x.1 == 5 <;> cases x.2.2.1 == x.2.1 <;> cases decide (x.2.1 ≥ 1) <;> rfl

theorem loop_I (x : PV Y_impl_Order) (a : Bool) (l : List (List UInt8)) (b : Bool) (hs : Sm l) :
    w_I_goodOrder_169_2 (x, a, l, (l.length : Int), b, true, l, l, false, l, l, (l.length : Int), 0, ()) = some (if l.any badO then .inr (x, a, l, (l.length : Int), b, true, l, l, false, l, ((l.findIdx badO : Nat) : Int), ()) else .inl (x, a, l, (l.length : Int), b, true, l, l, false, l, ())) := by
  have hl := hs.len
  exact fix_any (B := fun d => b_I_goodOrder_169_2 d.1 d.2.1 d.2.2.1 d.2.2.2.1 d.2.2.2.2.1 d.2.2.2.2.2.1 d.2.2.2.2.2.2.1 d.2.2.2.2.2.2.2.1 d.2.2.2.2.2.2.2.2.1 d.2.2.2.2.2.2.2.2.2.1 d.2.2.2.2.2.2.2.2.2.2.1 d.2.2.2.2.2.2.2.2.2.2.2.1 d.2.2.2.2.2.2.2.2.2.2.2.2.1) l badO
      (fun i => (x, a, l, (l.length : Int), b, true, l, l, false, l, l, (l.length : Int), (i : Int), ())) (fun i => .inr (x, a, l, (l.length : Int), b, true, l, l, false, l, (i : Int), ())) (.inl (x, a, l, (l.length : Int), b, true, l, l, false, l, ()))
      (fun i hi hq => by
        show b_I_goodOrder_169_2 _ _ _ _ _ _ _ _ _ _ l l.length i = _
        unfold b_I_goodOrder_169_2
        rw [decide_eq_true (by omega : (i : Int) < (l.length : Int)), cond_true, inB_lt hi, cond_true, toNat_cast, getD_of hi, bad_I _ (hs.mem hi), Option.bind_some]
        dsimp only
        rw [hq, cond_false, wrap64 (by omega) (by omega)]; rfl)
      (fun i hi hq => by
        show b_I_goodOrder_169_2 _ _ _ _ _ _ _ _ _ _ l l.length i = _
        unfold b_I_goodOrder_169_2
        rw [decide_eq_true (by omega : (i : Int) < (l.length : Int)), cond_true, inB_lt hi, cond_true, toNat_cast, getD_of hi, bad_I _ (hs.mem hi), Option.bind_some]
        dsimp only
        rw [hq, cond_true])
      (by
        show b_I_goodOrder_169_2 _ _ _ _ _ _ _ _ _ _ l l.length l.length = _
        unfold b_I_goodOrder_169_2
        rw [decide_eq_false (Int.lt_irrefl _), cond_false])

theorem order_I (x : PV Y_impl_Order) (hs : Sm x.2.2.2.1) : f_I_goodOrder x = some ((orderP x, ()), ()) := by
  unfold f_I_goodOrder orderP
  rw [in_I, in_I, Option.bind_some, Option.bind_some]
  dsimp only
  unfold inI
  cases decide (x.2.1 ≥ 0) && decide (x.2.1 ≤ 1000)
  · rfl
  · rw [Bool.not_true, cond_false, Option.bind_some]
    dsimp only
    cases decide (x.2.2.1 ≥ x.2.1) && decide (x.2.2.1 ≤ 1000)
    · rfl
    · rw [Bool.not_true, cond_false, in_I, Option.bind_some]
      dsimp only
      unfold freshP inI
      generalize hb : (decide ((List.length x.2.2.2.1 : Int) ≥ 1) && decide ((List.length x.2.2.2.1 : Int) ≤ 40)) = b
      cases b
      · rw [cond_false, Option.bind_some]
        dsimp only
        simp only [Bool.true_and]
        cases x.1 == 1 <;> cases x.1 == 2 <;> cases x.1 == 3 <;> cases x.1 == 4 <;> cases x.1 == 5 <;> cases x.2.2.1 == x.2.1 <;> cases decide (x.2.1 ≥ 1) <;> cases ((List.length x.2.2.2.1 : Int) == 0) <;> rfl
      · rw [cond_true, loop_I x _ _ _ hs]
        cases List.any x.2.2.2.1 badO
        · rw [if_neg (by simp), Option.bind_some]
          dsimp only
          rw [cond_true, Option.bind_some]
          dsimp only
          simp only [Bool.true_and]
          cases x.1 == 1 <;> cases x.1 == 2 <;> cases x.1 == 3 <;> cases x.1 == 4 <;> cases x.1 == 5 <;> cases x.2.2.1 == x.2.1 <;> cases decide (x.2.1 ≥ 1) <;> cases ((List.length x.2.2.2.1 : Int) == 0) <;> rfl
        · rw [if_pos rfl, Option.bind_some]
          dsimp only
          rw [cond_true, decide_eq_true (by omega : ((List.findIdx badO x.2.2.2.1 : Nat) : Int) ≥ 0), Option.bind_some]
          dsimp only
          simp only [Bool.true_and]
          cases x.1 == 1 <;> cases x.1 == 2 <;> cases x.1 == 3 <;> cases x.1 == 4 <;> cases x.1 == 5 <;> cases x.2.2.1 == x.2.1 <;> cases decide (x.2.1 ≥ 1) <;> cases ((List.length x.2.2.2.1 : Int) == 0) <;> rfl

theorem Sm.order {l : List (PV Y_impl_Order)} (hs : tot S_impl_Order l ≤ 4611686018427387904) {i : Nat} (hi : i < l.length) : Sm l[i].2.2.2.1 := by
  have h := Nat.le_trans (tot_mem (e := 103) (t := Y_impl_Order) hi) hs
  simp only [tot] at h
  show tot (.slice 9 .str) _ ≤ _
  simp only [tot]
  omega

theorem orders_S (t0 : List (PV Y_impl_Order)) (hs : tot S_impl_Order t0 ≤ 4611686018427387904) : f_S_GoodOrders t0 = some ((ordersP t0, ()), ()) := by
  have hl : t0.length ≤ 4611686018427387904 := Nat.le_trans (Nat.le_add_right _ _) (tot_slice (e := 103) (t := Y_impl_Order) ▸ hs)
  unfold f_S_GoodOrders f_S_l9Good
  rw [show w_S_l9Good_2 (t0, t0, (t0.length : Int), 0, ()) = _ from fix_any (B := fun d => b_S_l9Good_2 d.1 d.2.1 d.2.2.1 d.2.2.2.1) t0 (fun x => !orderP x) (fun i => (t0, t0, (t0.length : Int), (i : Int), ())) (fun _ => .inr (false, ())) (.inl (t0, ()))
    (fun i hi hq => by
      show b_S_l9Good_2 t0 t0 t0.length i = _
      unfold b_S_l9Good_2
      rw [decide_eq_true (by omega : (i : Int) < (t0.length : Int)), cond_true, inB_lt hi, cond_true, toNat_cast, getD_of hi, order_S _ (Sm.order hs hi), Option.bind_some]
      dsimp only
      rw [hq, cond_false, wrap64 (by omega) (by omega)]; rfl)
    (fun i hi hq => by
      show b_S_l9Good_2 t0 t0 t0.length i = _
      unfold b_S_l9Good_2
      rw [decide_eq_true (by omega : (i : Int) < (t0.length : Int)), cond_true, inB_lt hi, cond_true, toNat_cast, getD_of hi, order_S _ (Sm.order hs hi), Option.bind_some]
      dsimp only
      rw [hq, cond_true])
    (by
      show b_S_l9Good_2 t0 t0 t0.length t0.length = _
      unfold b_S_l9Good_2
      rw [decide_eq_false (Int.lt_irrefl _), cond_false])]
  unfold ordersP
  cases h : t0.any fun x => !orderP x
  · simp; omega
  · simp

theorem orders_I (t0 : List (PV Y_impl_Order)) (hs : tot S_impl_Order t0 ≤ 4611686018427387904) : f_I_GoodOrders t0 = some ((ordersP t0, ()), ()) := by
  unfold f_I_GoodOrders f_I_goodOrders ordersP
  by_cases hl : t0.length ≤ 60
  · rw [decide_eq_true (by omega : (t0.length : Int) ≤ 60), cond_true, decide_eq_true hl, Bool.true_and]
    rw [show w_I_goodOrders_147_2 (t0, false, t0, (t0.length : Int), true, true, t0, t0, false, t0, t0, (t0.length : Int), 0, ()) = _ from
      fix_any (B := fun d => b_I_goodOrders_147_2 d.1 d.2.1 d.2.2.1 d.2.2.2.1 d.2.2.2.2.1 d.2.2.2.2.2.1 d.2.2.2.2.2.2.1 d.2.2.2.2.2.2.2.1 d.2.2.2.2.2.2.2.2.1 d.2.2.2.2.2.2.2.2.2.1 d.2.2.2.2.2.2.2.2.2.2.1 d.2.2.2.2.2.2.2.2.2.2.2.1 d.2.2.2.2.2.2.2.2.2.2.2.2.1) t0 (fun x => !orderP x)
      (fun i => (t0, false, t0, (t0.length : Int), true, true, t0, t0, false, t0, t0, (t0.length : Int), (i : Int), ())) (fun i => .inr (t0, false, t0, (t0.length : Int), true, true, t0, t0, false, t0, (i : Int), ())) (.inl (t0, false, t0, (t0.length : Int), true, true, t0, t0, false, t0, ()))
      (fun i hi hq => by
        show b_I_goodOrders_147_2 _ _ _ _ _ _ _ _ _ _ t0 t0.length i = _
        unfold b_I_goodOrders_147_2 f_I_goodOrders_1
        rw [decide_eq_true (by omega : (i : Int) < (t0.length : Int)), cond_true, inB_lt hi, cond_true, toNat_cast, getD_of hi, order_I _ (Sm.order hs hi), Option.bind_some, Option.bind_some]
        dsimp only
        rw [hq, cond_false, wrap64 (by omega) (by omega)]; rfl)
      (fun i hi hq => by
        show b_I_goodOrders_147_2 _ _ _ _ _ _ _ _ _ _ t0 t0.length i = _
        unfold b_I_goodOrders_147_2 f_I_goodOrders_1
        rw [decide_eq_true (by omega : (i : Int) < (t0.length : Int)), cond_true, inB_lt hi, cond_true, toNat_cast, getD_of hi, order_I _ (Sm.order hs hi), Option.bind_some, Option.bind_some]
        dsimp only
        rw [hq, cond_true])
      (by
        show b_I_goodOrders_147_2 _ _ _ _ _ _ _ _ _ _ t0 t0.length t0.length = _
        unfold b_I_goodOrders_147_2
        rw [decide_eq_false (Int.lt_irrefl _), cond_false])]
    cases h : t0.any fun x => !orderP x
    · rfl
    · simp
  · rw [decide_eq_false (by omega : ¬ (t0.length : Int) ≤ 60), cond_false, decide_eq_false hl]; rfl

theorem law_GoodOrders (t0 : PV S_laws_Order) (hw : WfV S_laws_Order t0) : f_L_FnExactGoodOrders t0 = some ((true, ()), ()) := by
  unfold f_L_FnExactGoodOrders
  rw [p_L_szOrderS t0 1048576 (by omega) (by omega) hw, Option.bind_some]
  by_cases hs : ((tot S_laws_Order t0 : Nat) : Int) ≤ 1048576
  · rw [szR_pos hs]
    dsimp only
    have hs' : tot S_laws_Order t0 ≤ 1048576 := by omega
    have hb : tot S_impl_Order t0 ≤ 4611686018427387904 := by show tot S_laws_Order t0 ≤ _; omega
    rw [decide_eq_false (by omega : ¬ ((1048576 : Int) - ((tot S_laws_Order t0 : Nat) : Int) < 0)), cond_false]
    simp only [p_L_toOrderS t0 hs', orders_S t0 hb, orders_I t0 hb, p_L_eqOrderS t0 hb, Option.bind_some, beq_self_eq_true, Bool.not_true, cond_false, cond_true]
  · rw [szR_neg hs]; rfl
end R
