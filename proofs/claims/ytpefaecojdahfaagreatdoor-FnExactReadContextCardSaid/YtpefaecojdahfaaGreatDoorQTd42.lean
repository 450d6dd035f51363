/- Parts of the proof: Tc9 Td1. -/
import Derived.Test.YtpefaecojdahfaaGreatDoorQTd41
section
/- What the reference answers to a text side by side. -/
open Go Go.Dn
namespace R
set_option linter.unusedVariables false

def toRow (c : Int) (x : PV Y_spec_l8Line) : PV Y_impl_Row := mkRow (bif spB x then 1 else c) x.2.1
theorem toRow_one {c : Int} {x : PV Y_spec_l8Line} (hc : (c == 1) = false) : ((toRow c x).1 == 1) = spB x := by
  show ((bif spB x then (1 : Int) else c) == 1) = spB x
  cases spB x
  · exact hc
  · rfl

theorem isL_at {l : List UInt8} (h : isL l) : (l.length = 2 → l.getD 1 0 = 10) ∧ (3 ≤ l.length → endP (l.drop 2) = true) := by
  obtain ⟨t, rfl, ht⟩ := h
  refine ⟨fun h2 => ?_, fun h3 => ?_⟩
  · obtain ⟨a, rfl⟩ := List.length_eq_one_iff.1 (by simpa using h2 : t.length = 1)
    rfl
  · rw [List.length_append, List.length_singleton] at h3
    rw [List.drop_append_of_le_length (by omega), endP_app (by simp)]
    decide
theorem rowSH (sg : UInt8) {l : List UInt8} (h : isL l) : rowS sg l = rowH sg l := by
  have hcon : ([32, sg, 33] : List UInt8).contains (l.getD 0 0) = ([32, 33, sg] : List UInt8).contains (l.getD 0 0) := by
    simp only [List.contains_cons, List.contains_nil, Bool.or_false]
    cases (l.getD 0 0 == 32) <;> cases (l.getD 0 0 == sg) <;> cases (l.getD 0 0 == 33) <;> rfl
  unfold rowS rowH
  rw [hcon]
  by_cases h3 : 3 ≤ l.length
  · rw [decide_eq_true h3, decide_eq_true (by omega : 1 < l.length), Bool.true_and, Bool.true_and, Bool.and_comm]
  · rw [decide_eq_false h3, Bool.false_and, Bool.and_false]
    by_cases h1 : 1 < l.length
    · rw [(isL_at h).1 (by omega), show ((10 : UInt8) == 32) = false from rfl, Bool.false_and, Bool.and_false]
    · rw [decide_eq_false h1, Bool.false_and]
theorem rowH_len {sg : UInt8} {l : List UInt8} (h : isL l) (hr : rowH sg l = true) : 3 ≤ l.length := by
  rw [← rowSH sg h] at hr
  unfold rowS at hr
  simp only [Bool.and_eq_true, decide_eq_true_eq] at hr
  exact hr.2.1
theorem mkRow_L8 {sg : UInt8} {q : Int} {l : List UInt8} (ls : TX) (h : isL l) (hr : rowH sg l = true) : toRow q (mkL8 l ls) = mkRow (kdH q l) (lineQ (l.drop 2) ls) := by
  have he := (isL_at h).2 (rowH_len h hr)
  have e1 : spB (mkL8 l ls) = (l.getD 0 0 == 32) := b32 _
  have e2 : lineS (l.drop 2) ls = lineQ (l.drop 2) ls := by
    unfold lineS lineQ plainB
    rw [he, cond_true]
  unfold toRow kdH
  rw [e1]
  show mkRow _ (lineS (l.drop 2) ls) = _
  rw [e2]

theorem takeS_H (sg : UInt8) (q : Int) : ∀ (fu : Nat) (ls : TX), (∀ l ∈ ls, isL l) → (takeS sg fu ls).1.map (toRow q) = (takeH sg q fu ls).1 ∧ (takeH sg q fu ls).2 = ls.drop (takeS sg fu ls).2
  | 0, ls, _ => ⟨rfl, rfl⟩
  | _ + 1, [], _ => ⟨rfl, rfl⟩
  | fu + 1, l :: ls, hl => by
    have h := hl l (List.mem_cons_self ..)
    obtain ⟨k1, k2⟩ := takeS_H sg q fu (restQ ls) (fun x hx => hl x (List.mem_cons_of_mem _ (restQ_mem hx)))
    obtain ⟨u, hu, hu2⟩ := stepC_pre ls
    unfold takeS takeH
    rw [rowSH sg h]
    cases hr : rowH sg l
    · exact ⟨rfl, rfl⟩
    · rw [cond_true, cond_true]
      refine ⟨?_, ?_⟩
      · rw [List.map_cons, mkRow_L8 ls h hr, k1]
      · dsimp only
        rw [k2, ← hu2, show u.length + 1 + (takeS sg fu (restQ ls)).2 = (u.length + (takeS sg fu (restQ ls)).2) + 1 by omega, List.drop_succ_cons, ← List.drop_drop]
        congr 1
        conv => rhs; rw [hu]
        rw [List.drop_left]

theorem rwF_mg : ∀ (fu : Nat) (o n : LN8) (r : RW), mg fu (o.map (toRow 2)) (n.map (toRow 3)) = some r → rwF fu o n = r
  | 0, o, n, r, h => Option.some.inj h
  | f + 1, [], [], r, h => Option.some.inj h
  | f + 1, [], y :: b, r, h => by
    simp only [List.map_nil, List.map_cons, mg, toRow_one (c := 3) (x := y) rfl] at h
    unfold rwF
    cases hy : spB y <;> rw [hy] at h
    · obtain ⟨r', h1, rfl⟩ := Option.map_eq_some_iff.1 h
      rw [cond_false, rwF_mg f [] b r' h1]
      unfold toRow
      rw [hy]; rfl
    · cases h
  | f + 1, x :: a, [], r, h => by
    simp only [List.map_nil, List.map_cons, mg, toRow_one (c := 2) (x := x) rfl] at h
    unfold rwF
    cases hx : spB x <;> rw [hx] at h
    · obtain ⟨r', h1, rfl⟩ := Option.map_eq_some_iff.1 h
      rw [cond_false, rwF_mg f a [] r' h1]
      unfold toRow
      rw [hx]; rfl
    · cases h
  | f + 1, x :: a, y :: b, r, h => by
    simp only [List.map_cons, mg, toRow_one (c := 2) (x := x) rfl, toRow_one (c := 3) (x := y) rfl] at h
    unfold rwF
    cases hx : spB x <;> rw [hx] at h
    · obtain ⟨r', h1, rfl⟩ := Option.map_eq_some_iff.1 h
      rw [cond_false, rwF_mg f a (y :: b) r' h1]
      unfold toRow
      rw [hx]; rfl
    · rw [cond_true] at h ⊢
      cases hy : spB y <;> rw [hy] at h
      · obtain ⟨r', h1, rfl⟩ := Option.map_eq_some_iff.1 h
        rw [cond_false, rwF_mg f (x :: a) b r' h1]
        unfold toRow
        rw [hy]; rfl
      · obtain ⟨r', h1, rfl⟩ := Option.map_eq_some_iff.1 h
        rw [cond_true, rwF_mg f a b r' h1]
        unfold toRow
        rw [hx]; rfl

theorem keep_map (c d : Int) (hd : (d == 1) = false) : ∀ (l : LN8), (keepS l).map (toRow c) = keepR (l.map (toRow d))
  | [] => rfl
  | x :: l => by
    have ih := keep_map c d hd l
    unfold keepS keepR at ih ⊢
    rw [List.map_cons]
    cases h : spB x
    · rw [List.filter_cons_of_neg (by rw [h]; simp), List.filter_cons_of_neg (by rw [toRow_one hd, h]; simp), ih]
    · rw [List.filter_cons_of_pos h, List.filter_cons_of_pos (by rw [toRow_one hd, h]), List.map_cons, ih]
      unfold toRow
      rw [h]; rfl

theorem rowsOf_eq {o w : LN8} {n1 m : Nat} {rows : RW} (h1 : n1 = 0 ↔ o = []) (h2 : m = 0 ↔ w = []) (ho : oldH (o.map (toRow 2)) (w.map (toRow 3)) = oldR rows) (hn : newH (o.map (toRow 2)) (w.map (toRow 3)) = newR rows) (hr : NG rows) : rowsOf o w (n1 == 0) (m == 0) = rows := by
  have key : ∀ (o' n' : LN8), o'.map (toRow 2) = oldR rows → n'.map (toRow 3) = newR rows → rwF (o'.length + n'.length) o' n' = rows := fun o' n' e1 e2 => by
    refine rwF_mg _ o' n' rows ?_
    rw [e1, e2]
    refine mg_rows rows _ hr ?_
    rw [← e1, ← e2, List.length_map, List.length_map]
    exact Nat.le_refl _
  unfold rowsOf
  unfold oldH at ho
  unfold newH at hn
  rw [List.length_map] at ho hn
  rw [List.length_map] at hn
  have z1 : (n1 == 0) = (o.length == 0) := by
    rw [Bool.eq_iff_iff, beq_iff_eq, beq_iff_eq, h1, List.length_eq_zero_iff]
  have z2 : (m == 0) = (w.length == 0) := by
    rw [Bool.eq_iff_iff, beq_iff_eq, beq_iff_eq, h2, List.length_eq_zero_iff]
  rw [z1, z2]
  cases q1 : (o.length == 0) <;> rw [q1] at ho hn
  · rw [cond_false] at ho hn
    cases q2 : (w.length == 0) <;> rw [q2] at hn
    · exact key o w ho hn
    · rw [cond_true] at hn
      exact key o (keepS o) ho (by rw [keep_map 3 2 rfl]; exact hn)
  · rw [cond_true] at ho hn
    cases q2 : (w.length == 0)
    · exact key (keepS w) w (by rw [keep_map 2 3 rfl]; exact ho) hn
    · have hw : w = [] := List.length_eq_zero_iff.1 (beq_iff_eq.1 q2)
      subst hw
      exact key [] [] ho hn

theorem one_step_good {x : PV Y_impl_Group} (h : goodG x = true) {more : TX} (hm : MoreOk more) (hL : ∀ l ∈ scL x ++ more, isL l) (hn : (scL x ++ more).length ≤ 3000) (hl : ∀ l ∈ scL x ++ more, 1 ≤ l.length ∧ l.length ≤ 3000) :
    ∃ k : Nat, f_S_l8One (scL x ++ more) = some ((x, (k : Int), ()), ()) ∧ 3 ≤ k ∧ k ≤ (scL x ++ more).length ∧ (scL x ++ more).drop k = more := by
  obtain ⟨hr, hadj, hch, ⟨a, ea, ha, ha2⟩, ⟨b, eb, hb, hb2⟩⟩ := goodG_facts h
  obtain ⟨t1, t2, t3, t4⟩ := halves h hm
  have e : scL x ++ more = starL :: hd1 x :: (optL x 2 3 ++ (hd2 x :: (optL x 3 2 ++ more))) := by unfold scL; simp
  have g1 := range_good (p := pS1) (q := qS1) (endR_pair (less := 0) ha ha2)
  have g2 := range_good (p := pS2) (q := qS2) (endR_pair (less := 0) hb hb2)
  have f1 : hd1 x = pS1 ++ pairT a (sideL x.2.2.1 3).length ++ qS1 := by unfold hd1; rw [ea, toNat_cast]
  have f2 : hd2 x = pS2 ++ pairT b (sideL x.2.2.1 2).length ++ qS2 := by unfold hd2; rw [eb, toNat_cast]
  rw [← f1] at g1
  rw [← f2] at g2
  rw [e] at hL hn hl ⊢
  obtain ⟨T1, hT1⟩ : ∃ T1, T1 = optL x 2 3 ++ (hd2 x :: (optL x 3 2 ++ more)) := ⟨_, rfl⟩
  obtain ⟨R2, hR2⟩ : ∃ R2, R2 = optL x 3 2 ++ more := ⟨_, rfl⟩
  rw [← hT1] at t1 hL hn hl ⊢
  rw [← hR2] at t1 t2
  have LT : ∀ l ∈ T1, isL l := fun l hl' => hL l (List.mem_cons_of_mem _ (List.mem_cons_of_mem _ hl'))
  obtain ⟨o, n1, hB⟩ : ∃ o n1, takeS 45 T1.length T1 = (o, n1) := ⟨_, _, rfl⟩
  obtain ⟨s1, s2⟩ := takeS_H 45 2 T1.length T1 LT
  rw [hB, t1] at s1 s2
  simp only at s1 s2
  have LR : ∀ l ∈ R2, isL l := fun l hl' => LT l (List.mem_of_mem_drop (i := n1) (by rw [← s2]; exact List.mem_cons_of_mem _ hl'))
  obtain ⟨w, m, hE⟩ : ∃ w m, takeS 43 R2.length R2 = (w, m) := ⟨_, _, rfl⟩
  obtain ⟨s3, s4⟩ := takeS_H 43 3 R2.length R2 LR
  rw [hE, t2] at s3 s4
  simp only at s3 s4
  have k1 := (takeS_len 45 T1.length T1)
  have k2 := (takeS_len 43 R2.length R2)
  rw [hB] at k1
  rw [hE] at k2
  simp only at k1 k2
  have hone := one_good (l1 := hd1 x) (l2 := hd2 x) (t1 := T1) (r2 := R2) (by rw [g1]) hB s2.symm (by rw [g2]) hE hn hl
  have hrows : rowsOf o w (n1 == 0) (m == 0) = x.2.2.1 := rowsOf_eq k1.2.2 k2.2.2 (by rw [s1, s3]; exact t3) (by rw [s1, s3]; exact t4) (NG_of hr hadj)
  have hgrp : grpS (rangeS pS1 qS1 (hd1 x)).1 (rangeS pS2 qS2 (hd2 x)).1 (rowsOf o w (n1 == 0) (m == 0)) = x := by
    unfold grpS
    rw [hrows, g1, g2]
    have q1 := atH_numb (a := a) (side_old x.2.2.1)
    have q2 := atH_numb (a := b) (side_new x.2.2.1)
    unfold atH at q1 q2
    rw [side_old] at q1
    rw [side_new] at q2
    show ((bif decide (0 < (sideL x.2.2.1 3).length) then ((numb a (sideL x.2.2.1 3).length : Nat) : Int) - 1 else ((numb a (sideL x.2.2.1 3).length : Nat) : Int)), ((bif decide (0 < (sideL x.2.2.1 2).length) then ((numb b (sideL x.2.2.1 2).length : Nat) : Int) - 1 else ((numb b (sideL x.2.2.1 2).length : Nat) : Int)), (x.2.2.1, ()))) = x
    rw [q1, q2, ← ea, ← eb]
  rw [hgrp] at hone
  have hd1' : (T1.drop n1).length = R2.length + 1 := by rw [← s2]; rfl
  rw [List.length_drop] at hd1'
  refine ⟨3 + n1 + m, hone, by omega, by simp only [List.length_cons]; omega, ?_⟩
  rw [show 3 + n1 + m = (n1 + (1 + m)) + 1 + 1 by omega, List.drop_succ_cons, List.drop_succ_cons, ← List.drop_drop, ← s2, ← List.drop_drop]
  exact s4.symm

noncomputable abbrev BX (d : PV .str × PV S_string × PV S_impl_Group × Unit) := b_S_ReadContext_5 d.1 d.2.1 d.2.2.1
theorem readS_step {t0 : List UInt8} {ls : TX} {out : GR} {g : PV Y_impl_Group} {k : Nat} (h : f_S_l8One ls = some ((g, (k : Int), ()), ())) (h3 : 3 ≤ k) (hk : k ≤ ls.length) (ho : out.length ≤ 10000) : b_S_ReadContext_5 t0 ls out = some (.inl (t0, ls.drop k, out ++ [g], ())) := by
  unfold b_S_ReadContext_5
  rw [decide_eq_true (by omega : (ls.length : Int) > 0), cond_true, h, Option.bind_some]
  dsimp only
  rw [show ((k : Int) == 0) = false from beq_eq_false_iff_ne.2 (by omega), cond_false, roomB_ok (by simp; omega), cond_true, cutBI hk (Nat.le_refl _), cond_true, cutI, List.take_length]
theorem readS_go {t0 : List UInt8} {ls ls' : TX} {out out' : GR} {r} (h : b_S_ReadContext_5 t0 ls out = some (.inl (t0, ls', out', ()))) (h2 : w_S_ReadContext_5 (t0, ls', out', ()) = some r) : w_S_ReadContext_5 (t0, ls, out, ()) = some r :=
  Eq.trans (fix_go (B := BX) (s := (t0, ls, out, ())) (t := (t0, ls', out', ())) h) h2
theorem readS_stop {t0 : List UInt8} {ls : TX} {out : GR} {r} (h : b_S_ReadContext_5 t0 ls out = some (.inr r)) : w_S_ReadContext_5 (t0, ls, out, ()) = some r := fix_end (B := BX) (s := (t0, ls, out, ())) h

theorem readS_loop (t0 : List UInt8) : ∀ (n : Nat) (ls : TX) (out : GR), ls.length ≤ n → ls.length ≤ 3000 → (∀ l ∈ ls, 1 ≤ l.length ∧ l.length ≤ 3000) → out.length + ls.length ≤ 6000 → (∀ x ∈ out, GW x) →
    (∃ (gs : GR), gs.length ≤ 6000 ∧ (∀ x ∈ gs, GW x) ∧ w_S_ReadContext_5 (t0, ls, out, ()) = some (.inl (t0, gs, ()))) ∨ w_S_ReadContext_5 (t0, ls, out, ()) = some (.inr ([], 1, false, ())) := by
  intro n
  induction n with
  | zero =>
    intro ls out h _ _ ho hg
    obtain rfl : ls = [] := List.eq_nil_of_length_eq_zero (by omega)
    exact .inl ⟨out, by omega, hg, readS_stop rfl⟩
  | succ n ih =>
    intro ls out h h1 hm ho hg
    by_cases hne : ls = []
    · subst hne
      exact .inl ⟨out, by omega, hg, readS_stop rfl⟩
    · have hpos : 0 < ls.length := List.length_pos_iff.2 hne
      rcases one_total h1 hm with e | ⟨g, k, e, k3, kl, hw⟩
      · refine .inr (readS_stop ?_)
        unfold b_S_ReadContext_5
        rw [decide_eq_true (by omega : (ls.length : Int) > 0), cond_true, e]
        rfl
      · have hs := readS_step (t0 := t0) (out := out) e k3 kl (by omega)
        rcases ih (ls.drop k) (out ++ [g]) (by rw [List.length_drop]; omega) (by rw [List.length_drop]; omega) (fun l hl => hm l (List.mem_of_mem_drop hl)) (by rw [List.length_append, List.length_drop, List.length_singleton]; omega) (fun x hx => by
          rcases List.mem_append.1 hx with hx | hx
          · exact hg x hx
          · obtain rfl := List.mem_singleton.1 hx
            exact hw) with ⟨gs, q1, q2, q3⟩ | q
        · exact .inl ⟨gs, q1, q2, readS_go hs q3⟩
        · exact .inr (readS_go hs q)

theorem readS_good (t0 : List UInt8) : ∀ (gs : GR) (out : GR), (∀ x ∈ gs, goodG x = true) → out.length + gs.length ≤ 20 → (∀ l ∈ gs.flatMap scL, isL l) → (gs.flatMap scL).length ≤ 3000 → (∀ l ∈ gs.flatMap scL, 1 ≤ l.length ∧ l.length ≤ 3000) →
    w_S_ReadContext_5 (t0, gs.flatMap scL, out, ()) = some (.inl (t0, out ++ gs, ()))
  | [], out, _, _, _, _, _ => by rw [List.append_nil]; exact readS_stop rfl
  | x :: gs, out, hg, ho, hL, hn, hl => by
    rw [List.flatMap_cons] at hL hn hl ⊢
    obtain ⟨k, e, k3, kl, hd⟩ := one_step_good (hg x (List.mem_cons_self ..)) (more_ok gs) hL hn hl
    have hs := readS_step (t0 := t0) (out := out) e k3 kl (by omega)
    rw [hd] at hs
    have ih := readS_good t0 gs (out ++ [x]) (fun y hy => hg y (List.mem_cons_of_mem _ hy)) (by simp at ho ⊢; omega) (fun l hl' => hL l (List.mem_append_right _ hl')) (by rw [List.length_append] at hn; omega) (fun l hl' => hl l (List.mem_append_right _ hl'))
    rw [List.append_assoc] at ih
    exact readS_go hs ih

theorem read_S (s : List UInt8) : ∃ (gs : GR) (c : Int) (q : Bool), f_S_ReadContext s = some ((gs, c, q, ()), ()) ∧
    ((goodGs gs = true ∧ sidesT gs = s ∧ s.length ≤ 3000 ∧ c = 0 ∧ q = true) ∨ ((∀ gs, goodGs gs = true → sidesT gs = s → s.length ≤ 3000 → False) ∧ gs = [] ∧ c = 1 ∧ q = false)) := by
  unfold f_S_ReadContext
  by_cases hs : s.length ≤ 3000
  · rw [decide_eq_false (by omega : ¬ (s.length : Int) > 3000), cond_false, l1Cut_S s (by omega), Option.bind_some]
    dsimp only
    have hc := cutP_len s
    have hall : ∀ l ∈ cutP s, 1 ≤ l.length ∧ l.length ≤ 3000 := fun l h => ⟨List.length_pos_iff.2 (cutP_ne h), by have := cutP_mem h; omega⟩
    have key : ∀ gs0, goodGs gs0 = true → sidesT gs0 = s → w_S_ReadContext_5 (s, cutP s, [], ()) = some (.inl (s, gs0, ())) := fun gs0 h1 h2 => by
      obtain ⟨g1, g2⟩ := goods h1
      obtain ⟨e, hL⟩ := text_lines h1
      rw [h2] at e
      rw [e] at hc hall ⊢
      exact readS_good s gs0 [] g1 (by simpa using g2) hL (by omega) hall
    rcases readS_loop s (cutP s).length (cutP s) [] (Nat.le_refl _) (by omega) hall (by simp; omega) (fun x hx => by cases hx) with ⟨gs, q1, q2, q3⟩ | q
    · rw [q3, Option.bind_some]
      have hsm := GW.smG (by omega) q2
      dsimp only
      rw [groups_S hsm, Option.bind_some]
      dsimp only
      have same : ∀ gs0, goodGs gs0 = true → sidesT gs0 = s → gs = gs0 := fun gs0 h1 h2 => by
        have := key gs0 h1 h2
        rw [q3] at this
        have h3 := Sum.inl.inj (Option.some.inj this)
        exact (Prod.mk.inj (Prod.mk.inj h3).2).1
      cases hg : goodGs gs
      · refine ⟨[], 1, false, rfl, .inr ⟨fun gs0 h1 h2 _ => ?_, rfl, rfl, rfl⟩⟩
        rw [same gs0 h1 h2, h1] at hg
        cases hg
      · rw [Bool.not_true, cond_false, sidesText_S' hsm hg, Option.bind_some]
        dsimp only
        rw [Option.bind_some]
        dsimp only
        cases ht : (sidesT gs == s)
        · refine ⟨[], 1, false, rfl, .inr ⟨fun gs0 h1 h2 _ => ?_, rfl, rfl, rfl⟩⟩
          rw [same gs0 h1 h2, h2] at ht
          simp at ht
        · exact ⟨gs, 0, true, rfl, .inl ⟨hg, beq_iff_eq.1 ht, hs, rfl, rfl⟩⟩
    · rw [q, Option.bind_some]
      refine ⟨[], 1, false, rfl, .inr ⟨fun gs0 h1 h2 _ => ?_, rfl, rfl, rfl⟩⟩
      have := key gs0 h1 h2
      rw [q] at this
      cases this
  · rw [decide_eq_true (by omega : (s.length : Int) > 3000), cond_true]
    exact ⟨[], 1, false, rfl, .inr ⟨fun _ _ _ h => hs h, rfl, rfl, rfl⟩⟩

/-- Both sides answer the same. -/
theorem context_both (s : List UInt8) : ∃ (gs : GR) (c : Int) (q : Bool), f_I_ReadContext s = some ((gs, c, q, ()), ()) ∧ f_S_ReadContext s = some ((gs, c, q, ()), ()) ∧ (goodGs gs = true ∨ gs = []) := by
  obtain ⟨g1, c1, q1, e1, h1⟩ := read_I s
  obtain ⟨g2, c2, q2, e2, h2⟩ := read_S s
  rcases h1 with ⟨a1, a2, a3, rfl, rfl⟩ | ⟨a1, rfl, rfl, rfl⟩
  · rcases h2 with ⟨b1, b2, _, rfl, rfl⟩ | ⟨b1, _⟩
    · have r1 := raw_good a1 (by rw [a2]; exact a3)
      have r2 := raw_good b1 (by rw [b2]; exact a3)
      rw [a2] at r1
      rw [b2, r1] at r2
      have : g1 = g2 := (Prod.mk.inj (Prod.mk.inj (Option.some.inj r2)).1).1
      subst this
      exact ⟨g1, 0, true, e1, e2, .inl a1⟩
    · exact (b1 g1 a1 a2 a3).elim
  · rcases h2 with ⟨b1, b2, b3, _⟩ | ⟨_, rfl, rfl, rfl⟩
    · exact (a1 g2 b1 b2 b3).elim
    · exact ⟨[], 1, false, e1, e2, .inr rfl⟩
end R
end

section
/- ReadContext: both sides answer the same. -/
open Go Go.Dn
namespace R
set_option linter.unusedVariables false

theorem tot_le {e : TypeId} {t : Ty} {c : Nat} : ∀ {l : List (PV t)}, (∀ x ∈ l, tot t x ≤ c) → tot (.slice e t) l ≤ (c + 1) * l.length := by
  intro l h
  have : tot (.slice e t) l = l.length + (l.map (tot t)).sum := tot_slice
  rw [this]
  have hs : (l.map (tot t)).sum ≤ c * l.length := by
    clear this
    induction l with
    | nil => simp
    | cons x l ih =>
      have h1 := h x (List.mem_cons_self ..)
      have h2 := ih fun y hy => h y (List.mem_cons_of_mem _ hy)
      rw [List.map_cons, List.sum_cons, List.length_cons, Nat.mul_add]
      omega
  rw [Nat.add_mul, Nat.one_mul]
  omega

theorem good_tot {gs : GR} (h : goodGs gs = true) : tot S_impl_Group gs ≤ 1000000 := by
  have hlen : gs.length ≤ 20 := by
    unfold goodGs at h
    rw [Bool.and_eq_true, decide_eq_true_eq] at h
    exact h.1
  have hx : ∀ x ∈ gs, tot Y_impl_Group x ≤ 10000 := by
    intro x hx
    obtain ⟨i, hi, rfl⟩ := List.mem_iff_getElem.1 hx
    obtain ⟨hg, _⟩ := good_mem' h hi
    obtain ⟨r1, r2⟩ := rowsOk hg
    have hr : ∀ r ∈ (gs[i].2.2.1 : RW), tot Y_impl_Row r ≤ 40 := by
      intro r hr
      have h3 := (r2 r hr).2.2
      have : tot .str r.2.1 = List.length r.2.1 := tot_str
      simp only [tot] at this ⊢
      omega
    have h4 : tot S_impl_Row gs[i].2.2.1 ≤ (40 + 1) * List.length gs[i].2.2.1 := tot_le hr
    simp only [tot] at h4 ⊢
    omega
  have h5 : tot S_impl_Group gs ≤ (10000 + 1) * gs.length := tot_le hx
  omega

theorem read_both (s : List UInt8) : ∃ (gs : GR) (c : Int) (q : Bool), f_I_ReadContext s = some ((gs, c, q, ()), ()) ∧ f_S_ReadContext s = some ((gs, c, q, ()), ()) ∧ tot S_impl_Group gs ≤ 1000000 := by
  obtain ⟨gs, c, q, e1, e2, h⟩ := context_both s
  refine ⟨gs, c, q, e1, e2, ?_⟩
  rcases h with h | rfl
  · exact good_tot h
  · decide

theorem law_ReadContext (t0 : PV .str) (hw : WfV .str t0) : f_L_FnExactReadContext t0 = some ((true, ()), ()) := by
  unfold f_L_FnExactReadContext
  by_cases hs : List.length t0 ≤ 1048576
  · rw [decide_eq_false (by omega : ¬ (List.length t0 : Int) > 1048576), cond_false]
    obtain ⟨gs, c, q, hI, hS, hR⟩ := read_both t0
    have c2 : cn S_impl_Group gs ≤ 0 + 5 * tot S_impl_Group gs := cn_tot_le (by decide) (by decide)
    have m2 := mk_cn tx S_impl_Group gs 1
    simp only [hS, hI, Option.bind_some, p_L_eqGroupS gs (by omega), p_L_markGroupS gs 1 (by omega) (by omega) (by omega), p_L_heldGroupS gs 1 (by omega) (by omega) (by omega), decide_eq_false (by omega : ¬ (mk tx S_impl_Group gs 1).2 < 0), beq_self_eq_true, Bool.not_true, cond_false]
  · rw [decide_eq_true (by omega : (List.length t0 : Int) > 1048576)]; rfl
end R
end
