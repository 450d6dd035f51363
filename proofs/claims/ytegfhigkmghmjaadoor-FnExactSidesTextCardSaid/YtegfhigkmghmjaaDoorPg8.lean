/- Groups side by side: both sides write the same. -/
import Derived.Test.YtegfhigkmghmjaaDoorPg7
open Go Go.Dn
namespace R
set_option linter.unusedVariables false

def pairT (a m : Nat) : List UInt8 := if m ≤ 1 then dec (numb a m) else dec (numb a m) ++ ([44] ++ dec (a + m))
theorem pairT_len {a m : Nat} (ha : a ≤ 10000) (hm : m ≤ 10000) : (pairT a m).length ≤ 43 := by
  have h1 := dec_len (numb a m) (Nat.le_trans (numb_le ha) (by omega))
  have h2 := dec_len (a + m) (by omega)
  unfold pairT
  split
  · omega
  · simp only [List.length_append, List.length_cons, List.length_nil]; omega

theorem pair_S (a m : Nat) (ha : a ≤ 10000) (hm : m ≤ 10000) : f_S_l4Pair (a : Int) (m : Int) = some ((pairT a m, ()), ()) := by
  have hn := numb_le (m := m) ha
  have h1 := dec_len (numb a m) (by omega)
  have h2 := dec_len (a + m) (by omega)
  unfold f_S_l4Pair
  rw [number_S a m ha, Option.bind_some]
  dsimp only
  rw [num_S _ (by omega), Option.bind_some, show IntKind.wrap .i64 ((a : Int) + (m : Int)) = ((a + m : Nat) : Int) from by rw [wrap64 (by omega) (by omega)]; omega, num_S (a + m) (by omega), Option.bind_some]
  dsimp only
  unfold pairT
  by_cases h : m ≤ 1
  · rw [decide_eq_false (by omega : ¬ (m : Int) > 1), if_pos h]; rfl
  · rw [decide_eq_true (by omega : (m : Int) > 1), if_neg h, cond_true, decide_eq_true (by simp only [List.length_cons, List.length_nil]; omega), cond_true, decide_eq_true (by simp only [List.length_append, List.length_cons, List.length_nil]; omega), cond_true]; rfl

theorem pair_I (a m : Nat) (ha : a ≤ 10000) (hm : m ≤ 10000) : f_I_pairOf ((numb a m : Nat) : Int) ((a + m : Nat) : Int) = some ((pairT a m, ()), ()) := by
  have hn := numb_le (m := m) ha
  have h1 := dec_len (numb a m) (by omega)
  have h2 := dec_len (a + m) (by omega)
  unfold f_I_pairOf pairT
  rw [num_I _ (by omega), num_I _ (by omega)]
  simp only [Option.bind_some]
  by_cases h : m ≤ 1
  · have e : numb a m = a + m := by unfold numb; split <;> omega
    rw [if_pos h, show (((numb a m : Nat) : Int) == ((a + m : Nat) : Int)) = true from by rw [e]; exact beq_self_eq_true _]; rfl
  · have e : numb a m ≠ a + m := by unfold numb; split <;> omega
    rw [if_neg h, show (((numb a m : Nat) : Int) == ((a + m : Nat) : Int)) = false from by rw [beq_eq_false_iff_ne]; omega, cond_false, decide_eq_true (by simp only [List.length_cons, List.length_nil]; omega), cond_true, decide_eq_true (by simp only [List.length_append, List.length_cons, List.length_nil]; omega), cond_true, List.append_assoc]
theorem end_I (a m : Nat) (ha : a ≤ 10000) (hm : m ≤ 10000) : f_I_endOf (a : Int) (m : Int) = some ((((a + m : Nat) : Int), ()), ()) := by
  unfold f_I_endOf
  rw [wrap64 (by omega) (by omega)]
  rfl

def hasK (rows : RW) (c : Int) : Bool := rows.any fun (r : PV Y_impl_Row) => r.1 == c
theorem has_I {g : PV Y_impl_Group} {rows : RW} (hg : g.2.2.1 = rows) (hl : rows.length ≤ 1048576) (c : Int) : f_I_Group_has g c = some ((hasK rows c, ()), ()) := by
  unfold f_I_Group_has hasK
  rw [hg]
  have step : ∀ i (hi : i < rows.length), b_I_Group_has_195_2 g c g c false rows rows false rows rows rows.length i = some (if rows[i].1 == c then .inr (.inr (g, c, g, c, false, rows, rows, false, rows, (i : Int), ())) else .inl (g, c, g, c, false, rows, rows, false, rows, rows, (rows.length : Int), ((i + 1 : Nat) : Int), ())) := by
    intro i hi
    unfold b_I_Group_has_195_2
    rw [decide_eq_true (by omega : (i : Int) < (rows.length : Int)), cond_true, inB_lt hi, cond_true, toNat_cast, getD_of hi]
    cases rows[i].1 == c
    · rw [cond_false, wrap64 (by omega) (by omega)]; rfl
    · rfl
  rw [show w_I_Group_has_195_2 (g, c, g, c, false, rows, rows, false, rows, rows, (rows.length : Int), 0, ()) = _ from fix_any (B := fun d => b_I_Group_has_195_2 d.1 d.2.1 d.2.2.1 d.2.2.2.1 d.2.2.2.2.1 d.2.2.2.2.2.1 d.2.2.2.2.2.2.1 d.2.2.2.2.2.2.2.1 d.2.2.2.2.2.2.2.2.1 d.2.2.2.2.2.2.2.2.2.1 d.2.2.2.2.2.2.2.2.2.2.1 d.2.2.2.2.2.2.2.2.2.2.2.1) rows (fun (r : PV Y_impl_Row) => r.1 == c)
    (fun i => (g, c, g, c, false, rows, rows, false, rows, rows, (rows.length : Int), (i : Int), ())) (fun i => .inr (g, c, g, c, false, rows, rows, false, rows, (i : Int), ())) (.inl (g, c, g, c, false, rows, rows, false, rows, ()))
    (fun i hi hq => by show b_I_Group_has_195_2 g c g c false rows rows false rows rows rows.length i = _; rw [step i hi, hq]; rfl)
    (fun i hi hq => by show b_I_Group_has_195_2 g c g c false rows rows false rows rows rows.length i = _; rw [step i hi, hq]; rfl)
    (by
      show b_I_Group_has_195_2 g c g c false rows rows false rows rows rows.length rows.length = _
      unfold b_I_Group_has_195_2
      rw [decide_eq_false (Int.lt_irrefl _), cond_false])]
  cases rows.any fun (r : PV Y_impl_Row) => r.1 == c
  · rfl
  · rw [if_pos rfl, Option.bind_some]
    dsimp only
    rw [decide_eq_true (show ((_ : Nat) : Int) ≥ 0 from Int.natCast_nonneg _)]
theorem has_S {g : PV Y_impl_Group} {rows : RW} (hg : g.2.2.1 = rows) (hl : rows.length ≤ 1048576) (c : Int) : f_S_l8Some g c = some ((hasK rows c, ()), ()) := by
  unfold f_S_l8Some hasK
  rw [hg]
  have step : ∀ i (hi : i < rows.length), b_S_l8Some_2 c rows rows.length i = some (if rows[i].1 == c then .inr (.inr (true, ())) else .inl (c, rows, (rows.length : Int), ((i + 1 : Nat) : Int), ())) := by
    intro i hi
    unfold b_S_l8Some_2
    rw [decide_eq_true (by omega : (i : Int) < (rows.length : Int)), cond_true, inB_lt hi, cond_true, toNat_cast, getD_of hi]
    cases rows[i].1 == c
    · rw [cond_false, wrap64 (by omega) (by omega)]; rfl
    · rfl
  rw [show w_S_l8Some_2 (c, rows, (rows.length : Int), 0, ()) = _ from fix_any (B := fun d => b_S_l8Some_2 d.1 d.2.1 d.2.2.1 d.2.2.2.1) rows (fun (r : PV Y_impl_Row) => r.1 == c)
    (fun i => (c, rows, (rows.length : Int), (i : Int), ())) (fun _ => .inr (true, ())) (.inl ())
    (fun i hi hq => by show b_S_l8Some_2 c rows rows.length i = _; rw [step i hi, hq]; rfl)
    (fun i hi hq => by show b_S_l8Some_2 c rows rows.length i = _; rw [step i hi, hq]; rfl)
    (by
      show b_S_l8Some_2 c rows rows.length rows.length = _
      unfold b_S_l8Some_2
      rw [decide_eq_false (Int.lt_irrefl _), cond_false])]
  cases rows.any fun (r : PV Y_impl_Row) => r.1 == c <;> rfl

def top1 (x : PV Y_impl_Group) : List UInt8 := ([42, 42, 42, 42, 42, 42, 42, 42, 42, 42, 42, 42, 42, 42, 42, 10, 42, 42, 42, 32] ++ pairT (Int.toNat x.1) (sideL x.2.2.1 3).length) ++ [32, 42, 42, 42, 42, 10]
def top2 (x : PV Y_impl_Group) : List UInt8 := ([45, 45, 45, 32] ++ pairT (Int.toNat x.2.1) (sideL x.2.2.1 2).length) ++ [32, 45, 45, 45, 45, 10]
def opt (x : PV Y_impl_Group) (d c : Int) : List UInt8 := bif hasK x.2.2.1 d then halfL x.2.2.1 c (List.length x.2.2.1) else []
def sideT (x : PV Y_impl_Group) : List UInt8 := ((top1 x ++ opt x 2 3) ++ top2 x) ++ opt x 3 2
def sidesT (g : GR) : List UInt8 := g.flatMap sideT

theorem side_facts {x : PV Y_impl_Group} (h : goodG x = true) : (top1 x).length ≤ 69 ∧ (top2 x).length ≤ 53 ∧ (∀ c, (halfL x.2.2.1 c (List.length x.2.2.1)).length ≤ 3200) ∧ (sideT x).length ≤ 6522 := by
  obtain ⟨⟨a, ea, ha⟩, ⟨b, eb, hb⟩, h3, h4⟩ := group_facts h
  have c1 := pairT_len (a := a) (m := (sideL x.2.2.1 3).length) (by omega) (by omega)
  have c2 := pairT_len (a := b) (m := (sideL x.2.2.1 2).length) (by omega) (by omega)
  have t1 : (top1 x).length ≤ 69 := by
    unfold top1
    rw [ea, toNat_cast]
    simp only [List.length_append, List.length_cons, List.length_nil]
    omega
  have t2 : (top2 x).length ≤ 53 := by
    unfold top2
    rw [eb, toNat_cast]
    simp only [List.length_append, List.length_cons, List.length_nil]
    omega
  have hr := rowsOk_of h
  have hh : ∀ c, (halfL x.2.2.1 c (List.length x.2.2.1)).length ≤ 3200 := fun c => by
    have := half_len (c := c) hr (List.length x.2.2.1) (Nat.le_refl _)
    have := hr.1
    omega
  have ho : ∀ d c, (opt x d c).length ≤ 3200 := fun d c => by
    unfold opt
    cases hasK x.2.2.1 d
    · exact Nat.zero_le _
    · exact hh c
  have o1 := ho 2 3
  have o2 := ho 3 2
  refine ⟨t1, t2, hh, ?_⟩
  unfold sideT
  simp only [List.length_append]
  omega

theorem room {n : Nat} (h : n ≤ 10000000) : decide (n ≤ 1099511627776) = true := decide_eq_true (by omega)

theorem sidesText_I' {g : GR} (hs : SmG g) (hg : goodGs g = true) : f_I_sidesText g = some ((sidesT g, ()), ()) := by
  have hl := hs.1
  have hf := fix_fold (B := fun d => b_I_sidesText_3 d.1 d.2.1 d.2.2.1 d.2.2.2.1) g (fun a x => a ++ sideT x) (fun a i => (a, g, (g.length : Int), (i : Int), ())) (fun a => (a, ())) (fun i a => a.length ≤ 6522 * i)
    (fun i hi a hI => by
      have hm := hs.2 _ (List.getElem_mem hi)
      obtain ⟨hx, h20⟩ := good_mem' hg hi
      obtain ⟨⟨p, ep, hp⟩, ⟨q, eq, hq⟩, h3, h4⟩ := group_facts hx
      obtain ⟨t1, t2, th, ts⟩ := side_facts hx
      refine ⟨by rw [List.length_append]; omega, ?_⟩
      show b_I_sidesText_3 a g g.length i = _
      unfold b_I_sidesText_3 f_I_Group_old f_I_Group_fresh
      rw [decide_eq_true (by omega : (i : Int) < (g.length : Int)), cond_true, inB_lt hi, cond_true, toNat_cast, getD_of hi, sideOf_I hm, Option.bind_some, Option.bind_some, sideOf_I hm, Option.bind_some, Option.bind_some]
      have hr := rowsOk_of hx
      have k2 := half_loop_I (g := g[i]) rfl hr 3
      have k3 := half_loop_I (g := g[i]) rfl hr 2
      have j2 := has_I (g := g[i]) rfl hm.1 2
      have j3 := has_I (g := g[i]) rfl hm.1 3
      have u3 := th 3
      have u2 := th 2
      have e1 : ([42, 42, 42, 42, 42, 42, 42, 42, 42, 42, 42, 42, 42, 42, 42, 10, 42, 42, 42, 32] ++ pairT p (sideL g[i].2.2.1 3).length) ++ [32, 42, 42, 42, 42, 10] = top1 g[i] := by unfold top1; rw [ep, toNat_cast]
      have e2 : ([45, 45, 45, 32] ++ pairT q (sideL g[i].2.2.1 2).length) ++ [32, 45, 45, 45, 45, 10] = top2 g[i] := by unfold top2; rw [eq, toNat_cast]
      have c1 := pairT_len (a := p) (m := (sideL g[i].2.2.1 3).length) (by omega) (by omega)
      have c2 := pairT_len (a := q) (m := (sideL g[i].2.2.1 2).length) (by omega) (by omega)
      dsimp only
      rw [ep, number_I p _ (by omega), Option.bind_some, end_I p _ (by omega) (by omega), Option.bind_some]
      dsimp only
      rw [pair_I p _ (by omega) (by omega), Option.bind_some]
      dsimp only
      rw [room (by simp only [List.length_cons, List.length_nil]; omega), cond_true, room (by simp only [List.length_append, List.length_cons, List.length_nil]; omega), cond_true, e1, room (by omega), cond_true, j2, Option.bind_some]
      dsimp only
      have fin : ∀ z : List UInt8, z.length ≤ 6522 * i + 3300 →
          ((f_I_numberOf g[i].2.1 ((sideL g[i].2.2.1 2).length : Int)).bind fun r18 => (f_I_endOf g[i].2.1 ((sideL g[i].2.2.1 2).length : Int)).bind fun r19 => (f_I_pairOf r18.1.1 r19.1.1).bind fun r20 =>
            bif decide (([45, 45, 45, 32] : List UInt8).length + r20.1.1.length ≤ 1099511627776) then
              bif decide ((([45, 45, 45, 32] : List UInt8) ++ r20.1.1).length + ([32, 45, 45, 45, 45, 10] : List UInt8).length ≤ 1099511627776) then
                bif decide (z.length + (([45, 45, 45, 32] ++ r20.1.1) ++ [32, 45, 45, 45, 45, 10]).length ≤ 1099511627776) then
                  (f_I_Group_has g[i] 3).bind fun r22 =>
                    bif r22.1.1 then
                      (f_I_Group_half g[i] 2).bind fun r23 =>
                        bif decide ((z ++ (([45, 45, 45, 32] ++ r20.1.1) ++ [32, 45, 45, 45, 45, 10])).length + r23.1.1.length ≤ 1099511627776) then
                          some (((z ++ (([45, 45, 45, 32] ++ r20.1.1) ++ [32, 45, 45, 45, 45, 10])) ++ r23.1.1), g, (g.length : Int), (i : Int), ())
                        else none
                    else some ((z ++ (([45, 45, 45, 32] ++ r20.1.1) ++ [32, 45, 45, 45, 45, 10])), g, (g.length : Int), (i : Int), ())
                else none
              else none
            else none : Option (PV .str × PV S_impl_Group × PV (.int .i64) × PV (.int .i64) × Unit)) = some ((z ++ top2 g[i]) ++ opt g[i] 3 2, g, (g.length : Int), (i : Int), ()) := by
        intro z hz
        rw [eq, number_I q _ (by omega), Option.bind_some, end_I q _ (by omega) (by omega), Option.bind_some]
        dsimp only
        rw [pair_I q _ (by omega) (by omega), Option.bind_some]
        dsimp only
        rw [room (by simp only [List.length_cons, List.length_nil]; omega), cond_true, room (by simp only [List.length_append, List.length_cons, List.length_nil]; omega), cond_true, e2, room (by omega), cond_true, j3, Option.bind_some]
        dsimp only
        unfold opt
        cases hasK g[i].2.2.1 3
        · rw [cond_false, cond_false, List.append_nil]
        · rw [cond_true, cond_true, k3, Option.bind_some]
          dsimp only
          rw [room (by rw [List.length_append]; omega), cond_true]
      have hw : IntKind.wrap .i64 ((i : Int) + 1) = ((i + 1 : Nat) : Int) := by rw [wrap64 (by omega) (by omega)]; omega
      have es : a ++ sideT g[i] = (((a ++ top1 g[i]) ++ opt g[i] 2 3) ++ top2 g[i]) ++ opt g[i] 3 2 := by unfold sideT; simp only [List.append_assoc]
      rw [es]
      have eo : opt g[i] 2 3 = bif hasK g[i].2.2.1 2 then halfL g[i].2.2.1 3 (List.length g[i].2.2.1) else [] := rfl
      rw [eo]
      cases hasK g[i].2.2.1 2
      · rw [cond_false, cond_false, Option.bind_some, List.append_nil]
        refine (congrArg (fun z => Option.bind z _) (fin (a ++ top1 g[i]) (by rw [List.length_append]; omega))).trans ?_
        rw [Option.bind_some]
        dsimp only
        rw [hw]
      · rw [cond_true, cond_true, k2, Option.bind_some]
        dsimp only
        rw [room (by rw [List.length_append]; omega), cond_true, Option.bind_some]
        refine (congrArg (fun z => Option.bind z _) (fin ((a ++ top1 g[i]) ++ halfL g[i].2.2.1 3 (List.length g[i].2.2.1)) (by rw [List.length_append, List.length_append]; omega))).trans ?_
        rw [Option.bind_some]
        dsimp only
        rw [hw])
    (fun a _ => by
      show b_I_sidesText_3 a g g.length g.length = _
      unfold b_I_sidesText_3
      rw [decide_eq_false (Int.lt_irrefl _), cond_false]) [] (Nat.zero_le _)
  unfold f_I_sidesText
  rw [show w_I_sidesText_3 ([], g, (g.length : Int), 0, ()) = _ from hf.1, Option.bind_some, foldl_app]
  rfl

theorem sidesText_S' {g : GR} (hs : SmG g) (hg : goodGs g = true) : f_S_l8Text g = some ((sidesT g, ()), ()) := by
  have hl := hs.1
  have hf := fix_fold (B := fun d => b_S_l8Text_3 d.1 d.2.1 d.2.2.1 d.2.2.2.1) g (fun a x => a ++ sideT x) (fun a i => (a, g, (g.length : Int), (i : Int), ())) (fun a => (a, ())) (fun i a => a.length ≤ 6522 * i)
    (fun i hi a hI => by
      have hm := hs.2 _ (List.getElem_mem hi)
      obtain ⟨hx, h20⟩ := good_mem' hg hi
      obtain ⟨⟨p, ep, hp⟩, ⟨q, eq, hq⟩, h3, h4⟩ := group_facts hx
      obtain ⟨t1, t2, th, ts⟩ := side_facts hx
      refine ⟨by rw [List.length_append]; omega, ?_⟩
      show b_S_l8Text_3 a g g.length i = _
      unfold b_S_l8Text_3
      rw [decide_eq_true (by omega : (i : Int) < (g.length : Int)), cond_true, inB_lt hi, cond_true, toNat_cast, getD_of hi, old_S hm, Option.bind_some]
      have hr := rowsOk_of hx
      have k2 : f_S_l8Half g[i] true = _ := half_loop_S (g := g[i]) rfl hr true
      have k3 : f_S_l8Half g[i] false = _ := half_loop_S (g := g[i]) rfl hr false
      rw [cond_true] at k2
      rw [cond_false] at k3
      have j2 := has_S (g := g[i]) rfl hm.1 2
      have j3 := has_S (g := g[i]) rfl hm.1 3
      have u3 := th 3
      have u2 := th 2
      have e1 : ([42, 42, 42, 42, 42, 42, 42, 42, 42, 42, 42, 42, 42, 42, 42, 10, 42, 42, 42, 32] ++ pairT p (sideL g[i].2.2.1 3).length) ++ [32, 42, 42, 42, 42, 10] = top1 g[i] := by unfold top1; rw [ep, toNat_cast]
      have e2 : ([45, 45, 45, 32] ++ pairT q (sideL g[i].2.2.1 2).length) ++ [32, 45, 45, 45, 45, 10] = top2 g[i] := by unfold top2; rw [eq, toNat_cast]
      have c1 := pairT_len (a := p) (m := (sideL g[i].2.2.1 3).length) (by omega) (by omega)
      have c2 := pairT_len (a := q) (m := (sideL g[i].2.2.1 2).length) (by omega) (by omega)
      dsimp only
      rw [ep, pair_S p _ (by omega) (by omega), Option.bind_some]
      dsimp only
      rw [room (by simp only [List.length_cons, List.length_nil]; omega), cond_true, room (by simp only [List.length_append, List.length_cons, List.length_nil]; omega), cond_true, e1, room (by omega), cond_true, j2, Option.bind_some]
      dsimp only
      have fin : ∀ z : List UInt8, z.length ≤ 6522 * i + 3300 →
          ((f_S_l6New g[i]).bind fun r11 => (f_S_l4Pair g[i].2.1 (r11.1.1.length : Int)).bind fun r20 =>
            bif decide (([45, 45, 45, 32] : List UInt8).length + r20.1.1.length ≤ 1099511627776) then
              bif decide ((([45, 45, 45, 32] : List UInt8) ++ r20.1.1).length + ([32, 45, 45, 45, 45, 10] : List UInt8).length ≤ 1099511627776) then
                bif decide (z.length + (([45, 45, 45, 32] ++ r20.1.1) ++ [32, 45, 45, 45, 45, 10]).length ≤ 1099511627776) then
                  (f_S_l8Some g[i] 3).bind fun r22 =>
                    bif r22.1.1 then
                      (f_S_l8Half g[i] false).bind fun r23 =>
                        bif decide ((z ++ (([45, 45, 45, 32] ++ r20.1.1) ++ [32, 45, 45, 45, 45, 10])).length + r23.1.1.length ≤ 1099511627776) then
                          some (((z ++ (([45, 45, 45, 32] ++ r20.1.1) ++ [32, 45, 45, 45, 45, 10])) ++ r23.1.1), g, (g.length : Int), (i : Int), ())
                        else none
                    else some ((z ++ (([45, 45, 45, 32] ++ r20.1.1) ++ [32, 45, 45, 45, 45, 10])), g, (g.length : Int), (i : Int), ())
                else none
              else none
            else none : Option (PV .str × PV S_impl_Group × PV (.int .i64) × PV (.int .i64) × Unit)) = some ((z ++ top2 g[i]) ++ opt g[i] 3 2, g, (g.length : Int), (i : Int), ()) := by
        intro z hz
        rw [new_S hm, Option.bind_some]
        dsimp only
        rw [eq, pair_S q _ (by omega) (by omega), Option.bind_some]
        dsimp only
        rw [room (by simp only [List.length_cons, List.length_nil]; omega), cond_true, room (by simp only [List.length_append, List.length_cons, List.length_nil]; omega), cond_true, e2, room (by omega), cond_true, j3, Option.bind_some]
        dsimp only
        unfold opt
        cases hasK g[i].2.2.1 3
        · rw [cond_false, cond_false, List.append_nil]
        · rw [cond_true, cond_true, k3, Option.bind_some]
          dsimp only
          rw [room (by rw [List.length_append]; omega), cond_true]
      have hw : IntKind.wrap .i64 ((i : Int) + 1) = ((i + 1 : Nat) : Int) := by rw [wrap64 (by omega) (by omega)]; omega
      have es : a ++ sideT g[i] = (((a ++ top1 g[i]) ++ opt g[i] 2 3) ++ top2 g[i]) ++ opt g[i] 3 2 := by unfold sideT; simp only [List.append_assoc]
      rw [es]
      have eo : opt g[i] 2 3 = bif hasK g[i].2.2.1 2 then halfL g[i].2.2.1 3 (List.length g[i].2.2.1) else [] := rfl
      rw [eo]
      cases hasK g[i].2.2.1 2
      · rw [cond_false, cond_false, Option.bind_some, List.append_nil]
        refine (congrArg (fun z => Option.bind z _) (fin (a ++ top1 g[i]) (by rw [List.length_append]; omega))).trans ?_
        rw [Option.bind_some]
        dsimp only
        rw [hw]
      · rw [cond_true, cond_true, k2, Option.bind_some]
        dsimp only
        rw [room (by rw [List.length_append]; omega), cond_true, Option.bind_some]
        refine (congrArg (fun z => Option.bind z _) (fin ((a ++ top1 g[i]) ++ halfL g[i].2.2.1 3 (List.length g[i].2.2.1)) (by rw [List.length_append, List.length_append]; omega))).trans ?_
        rw [Option.bind_some]
        dsimp only
        rw [hw])
    (fun a _ => by
      show b_S_l8Text_3 a g g.length g.length = _
      unfold b_S_l8Text_3
      rw [decide_eq_false (Int.lt_irrefl _), cond_false]) [] (Nat.zero_le _)
  unfold f_S_l8Text
  rw [show w_S_l8Text_3 ([], g, (g.length : Int), 0, ()) = _ from hf.1, Option.bind_some, foldl_app]
  rfl

def stOk (g : GR) : Bool := goodGs g && decide ((sidesT g).length ≤ 3000)
def stR (g : GR) : List UInt8 := bif stOk g then sidesT g else []
theorem sidesTextR_I {g : GR} (hs : SmG g) : f_I_SidesText g = some ((stR g, stOk g, ()), ()) := by
  unfold f_I_SidesText stR stOk f_I_short
  rw [groups_I hs, Option.bind_some]
  dsimp only
  cases hg : goodGs g
  · rfl
  · rw [Bool.not_true, cond_false, sidesText_I' hs hg, Option.bind_some]
    dsimp only
    by_cases h : (sidesT g).length ≤ 3000
    · rw [decide_eq_false (by omega : ¬ ((sidesT g).length : Int) > 3000), decide_eq_true h]; rfl
    · rw [decide_eq_true (by omega : ((sidesT g).length : Int) > 3000), decide_eq_false h]; rfl
theorem sidesTextR_S {g : GR} (hs : SmG g) : f_S_SidesText g = some ((stR g, stOk g, ()), ()) := by
  unfold f_S_SidesText stR stOk
  rw [groups_S hs, Option.bind_some]
  dsimp only
  cases hg : goodGs g
  · rfl
  · rw [Bool.not_true, cond_false, sidesText_S' hs hg, Option.bind_some, Option.bind_some]
    dsimp only
    by_cases h : (sidesT g).length ≤ 3000
    · rw [decide_eq_false (by omega : ¬ ((sidesT g).length : Int) > 3000), decide_eq_true h, cond_false, sidesText_S' hs hg, Option.bind_some]; rfl
    · rw [decide_eq_true (by omega : ((sidesT g).length : Int) > 3000), decide_eq_false h]; rfl

theorem law_SidesText (t0 : PV S_laws_Group) (hw : WfV S_laws_Group t0) : f_L_FnExactSidesText t0 = some ((true, ()), ()) := by
  unfold f_L_FnExactSidesText
  rw [p_L_szGroupS t0 1048576 (by omega) (by omega) hw, Option.bind_some]
  by_cases hs : ((tot S_laws_Group t0 : Nat) : Int) ≤ 1048576
  · rw [szR_pos hs]
    dsimp only
    have hs' : tot S_laws_Group t0 ≤ 1048576 := by omega
    have hb : tot S_impl_Group t0 ≤ 1048576 := hs'
    have hS : SmG t0 := SmG.of (e := 0) hb
    rw [decide_eq_false (by omega : ¬ ((1048576 : Int) - ((tot S_laws_Group t0 : Nat) : Int) < 0)), cond_false]
    simp only [p_L_toGroupS t0 hs', sidesTextR_S hS, sidesTextR_I hS, Option.bind_some, p_L_eqGroupS t0 (by omega), beq_self_eq_true, Bool.not_true, cond_false]
  · rw [szR_neg hs]; rfl
end R
