/- Numbers, ranges and rows as texts: both sides write the same. -/
import Derived.Test.YtegfhigkmghmjaaDoorPg3
import Derived.Lib.ItoaLen
open Go Go.Dn
namespace R
set_option linter.unusedVariables false

theorem wrap8 {x : Int} (h1 : 0 ≤ x) (h2 : x ≤ 255) : IntKind.wrap .u8 x = x := by
  simp [IntKind.wrap, IntKind.signed, IntKind.bits]
  omega

abbrev dec (n : Nat) : List UInt8 := Lib.decDigits n
theorem dec_len (n : Nat) (h : n ≤ 1000000) : (dec n).length ≤ 21 := by
  have := Lib.itoa_length_le (n : Int) (by omega) (by omega)
  rwa [Lib.itoa_nonneg] at this

theorem dig_one {n : Nat} (h : n < 10) : bytesOfInts [IntKind.wrap .u8 (IntKind.wrap .i64 (48 + (n : Int)))] = [UInt8.ofNat (48 + n)] := by
  rw [wrap64 (by omega) (by omega), wrap8 (by omega) (by omega)]
  show [UInt8.ofNat ((48 + (n : Int)).toNat)] = _
  congr 2

theorem num_n : ∀ (f n : Nat), n < f → n ≤ 1000000 → fn_S_l1Num f (n : Int) = some ((dec n, ()), ())
  | 0, n, h, _ => by omega
  | f + 1, n, h, hb => by
    show fr_S_l1Num (fn_S_l1Num f) (n : Int) = _
    unfold fr_S_l1Num
    by_cases hn : n < 10
    · rw [decide_eq_true (by omega : (n : Int) < 10), cond_true, dig_one hn, show dec n = _ from Lib.decDigits_one hn]
    · rw [decide_eq_false (by omega : ¬ (n : Int) < 10), cond_false, show ((10 : Nat) == 0) = false from rfl, cond_false]
      rw [show (n : Int).tdiv 10 = ((n / 10 : Nat) : Int) from by rw [Int.tdiv_eq_ediv_of_nonneg (by omega)]; omega, show (n : Int).tmod 10 = ((n % 10 : Nat) : Int) from by rw [Int.tmod_eq_emod_of_nonneg (by omega)]; omega]
      rw [wrap64 (x := ((n / 10 : Nat) : Int)) (by omega) (by omega), num_n f (n / 10) (by omega) (by omega), Option.bind_some, cond_false]
      have hl := dec_len (n / 10) (by omega)
      rw [dig_one (by omega)]
      dsimp only
      rw [decide_eq_true (by simp only [List.length_cons, List.length_nil]; omega), cond_true]
      rw [show dec n = dec (n / 10) ++ [UInt8.ofNat (48 + n % 10)] from by
        show Lib.decDigits n = _
        rw [Lib.decDigits, dif_neg hn]]

theorem num_S (n : Nat) (h : n ≤ 1000000) : f_S_l1Num (n : Int) = some ((dec n, ()), ()) := by
  unfold f_S_l1Num
  exact num_n _ n (by simp) h
theorem num_I (n : Nat) (h : n ≤ 1000000) : f_strconv_Itoa (n : Int) = some ((dec n, ()), ()) := by
  unfold f_strconv_Itoa itoaF
  rw [decide_eq_true (by omega), decide_eq_true (by omega : (n : Int) ≤ 9223372036854775807), Lib.itoa_nonneg]
  rfl

def numb (a m : Nat) : Nat := if 0 < m then a + 1 else a
def countT (a m : Nat) : List UInt8 := if m = 1 then dec (numb a m) else dec (numb a m) ++ ([44] ++ dec m)
theorem numb_le {a m : Nat} (h : a ≤ 10000) : numb a m ≤ 10001 := by unfold numb; split <;> omega
theorem countT_len {a m : Nat} (ha : a ≤ 10000) (hm : m ≤ 10000) : (countT a m).length ≤ 43 := by
  have h1 := dec_len (numb a m) (Nat.le_trans (numb_le ha) (by omega))
  have h2 := dec_len m (by omega)
  unfold countT
  split
  · omega
  · simp only [List.length_append, List.length_cons, List.length_nil]; omega

theorem numb_eq (a m : Nat) (ha : a ≤ 10000) : (bif decide ((m : Int) > 0) then some ((IntKind.wrap .i64 ((a : Int) + 1), ()), ()) else some (((a : Int), ()), ()) : Option (PVs [.int .i64] × PVs [])) = some ((((numb a m : Nat) : Int), ()), ()) := by
  unfold numb
  by_cases h : 0 < m
  · rw [decide_eq_true (by omega : (m : Int) > 0), if_pos h, cond_true, wrap64 (by omega) (by omega)]; try rfl
  · rw [decide_eq_false (by omega : ¬ (m : Int) > 0), if_neg h, cond_false]; try rfl
theorem number_S (a m : Nat) (ha : a ≤ 10000) : f_S_l4Number (a : Int) (m : Int) = some ((((numb a m : Nat) : Int), ()), ()) := by unfold f_S_l4Number; exact numb_eq a m ha
theorem number_I (a m : Nat) (ha : a ≤ 10000) : f_I_numberOf (a : Int) (m : Int) = some ((((numb a m : Nat) : Int), ()), ()) := by unfold f_I_numberOf; exact numb_eq a m ha

theorem count_S (a m : Nat) (ha : a ≤ 10000) (hm : m ≤ 10000) : f_S_l4Count (a : Int) (m : Int) = some ((countT a m, ()), ()) := by
  have hn := numb_le (m := m) ha
  have h1 := dec_len (numb a m) (by omega)
  have h2 := dec_len m (by omega)
  unfold f_S_l4Count
  rw [number_S a m ha, Option.bind_some]
  dsimp only
  rw [num_S _ (by omega), Option.bind_some, num_S m (by omega), Option.bind_some]
  dsimp only
  unfold countT
  by_cases h : m = 1
  · rw [show ((m : Int) == 1) = true from by rw [beq_iff_eq]; omega, if_pos h]; rfl
  · rw [show ((m : Int) == 1) = false from by rw [beq_eq_false_iff_ne]; omega, if_neg h, Bool.not_false, cond_true, decide_eq_true (by simp only [List.length_cons, List.length_nil]; omega), cond_true, decide_eq_true (by simp only [List.length_append, List.length_cons, List.length_nil]; omega), cond_true]; rfl
theorem count_I (a m : Nat) (ha : a ≤ 10000) (hm : m ≤ 10000) : f_I_countOf (a : Int) (m : Int) = some ((countT a m, ()), ()) := by
  have hn := numb_le (m := m) ha
  have h1 := dec_len (numb a m) (by omega)
  have h2 := dec_len m (by omega)
  unfold f_I_countOf
  rw [number_I a m ha, Option.bind_some]
  dsimp only
  rw [num_I _ (by omega), Option.bind_some, num_I m (by omega), Option.bind_some]
  dsimp only
  unfold countT
  by_cases h : m = 1
  · rw [show ((m : Int) == 1) = true from by rw [beq_iff_eq]; omega, if_pos h]; rfl
  · rw [show ((m : Int) == 1) = false from by rw [beq_eq_false_iff_ne]; omega, if_neg h, Bool.not_false, cond_true, decide_eq_true (by simp only [List.length_cons, List.length_nil]; omega), cond_true, decide_eq_true (by simp only [List.length_append, List.length_cons, List.length_nil]; omega), cond_true]; rfl

/-! ### rows -/
def none10 : List UInt8 := [10, 92, 32, 110, 111, 110, 101, 10]
def shownT (sg s : List UInt8) : List UInt8 := bif endP s then sg ++ s else (sg ++ s) ++ none10
theorem shownT_len (sg s : List UInt8) : (shownT sg s).length ≤ sg.length + s.length + 8 := by
  unfold shownT none10
  cases endP s
  · simp only [cond_false, List.length_append, List.length_cons, List.length_nil]; omega
  · simp only [cond_true, List.length_append]; omega

theorem shown_S (sg s : List UInt8) (h0 : sg.length ≤ 10) (h1 : 1 ≤ s.length) (h2 : s.length ≤ 100) : f_S_l5Shown sg s = some ((shownT sg s, ()), ()) := by
  unfold f_S_l5Shown shownT none10
  rw [ends_S s h1 (by omega), Option.bind_some]
  dsimp only
  rw [decide_eq_true (by omega), cond_true, cond_true, decide_eq_true (by simp only [List.length_append, List.length_cons, List.length_nil]; omega), cond_true]
  cases endP s <;> rfl
theorem shown_I (sg s : List UInt8) (h0 : sg.length ≤ 10) (h2 : s.length ≤ 100) : f_I_shown sg s = some ((shownT sg s, ()), ()) := by
  unfold f_I_shown shownT none10
  rw [ends_I s (by omega), Option.bind_some]
  dsimp only
  rw [decide_eq_true (by omega), cond_true, cond_true, decide_eq_true (by simp only [List.length_append, List.length_cons, List.length_nil]; omega), cond_true, decide_eq_true (by simp only [List.length_append, List.length_cons, List.length_nil]; omega), cond_true]
  cases endP s
  · rw [cond_false, cond_false, List.append_assoc (sg ++ s)]; rfl
  · rfl

def RowOk (r : PV Y_impl_Row) : Prop := (r.1 = 1 ∨ r.1 = 2 ∨ r.1 = 3) ∧ 1 ≤ List.length r.2.1 ∧ List.length r.2.1 ≤ 30
theorem rowsOk {g : PV Y_impl_Group} (h : goodG g = true) : List.length g.2.2.1 ≤ 80 ∧ ∀ r ∈ (g.2.2.1 : RW), RowOk r := by
  unfold goodG inI at h
  simp only [Bool.and_eq_true, decide_eq_true_eq, Bool.not_eq_true'] at h
  obtain ⟨_, _, ⟨h1, h2⟩, h3, _⟩ := h
  refine ⟨by omega, fun r hr => ?_⟩
  obtain ⟨k, hk, rfl⟩ := List.mem_iff_getElem.1 hr
  have hb : badRow g.2.2.1 k = false := by
    cases hb : badRow g.2.2.1 k with
    | false => rfl
    | true => rw [anyN_iff.2 ⟨k, hk, hb⟩] at h3; cases h3
  unfold badRow inI kd at hb
  rw [getD_of hk] at hb
  simp only [Bool.or_eq_false_iff, Bool.not_eq_false', Bool.and_eq_true, decide_eq_true_eq] at hb
  obtain ⟨⟨b1, b2⟩, b3, _⟩ := hb
  have := line_len b3
  have e : ∀ z : Int, z ≥ 1 → z ≤ 3 → z = 1 ∨ z = 2 ∨ z = 3 := fun z _ _ => by omega
  exact ⟨e _ b1 b2, this.1, this.2⟩

def signT (k : Int) : List UInt8 := cutL k (IntKind.wrap .i64 (k + 1)) [63, 32, 45, 43]
def rowT (r : PV Y_impl_Row) : List UInt8 := shownT (signT r.1) r.2.1
def rowsT (rows : RW) : List UInt8 := rows.flatMap rowT
theorem sign_ok {k : Int} (h : k = 1 ∨ k = 2 ∨ k = 3) : cutB k (IntKind.wrap .i64 (k + 1)) ([63, 32, 45, 43] : List Nat).length = true ∧ (signT k).length = 1 := by
  rcases h with rfl | rfl | rfl <;> exact ⟨by decide, by decide⟩
theorem sign_S {k : Int} (h : k = 1 ∨ k = 2 ∨ k = 3) : f_S_l7Sign k = some ((signT k, ()), ()) := by
  unfold f_S_l7Sign
  rw [(sign_ok h).1]; rfl
theorem sign_I {r : PV Y_impl_Row} (h : r.1 = 1 ∨ r.1 = 2 ∨ r.1 = 3) : f_I_Row_sign r = some ((signT r.1, ()), ()) := by
  unfold f_I_Row_sign
  rw [(sign_ok h).1]; rfl
theorem rowT_len {r : PV Y_impl_Row} (h : RowOk r) : (rowT r).length ≤ 39 := by
  have h1 := shownT_len (signT r.1) r.2.1
  have h2 := (sign_ok h.1).2
  have h3 := h.2.2
  unfold rowT
  omega

theorem foldl_app {α : Type} (f : α → List UInt8) : ∀ (l : List α) (a : List UInt8), l.foldl (fun a r => a ++ f r) a = a ++ l.flatMap f
  | [], a => by simp
  | x :: l, a => by rw [List.foldl_cons, foldl_app f l, List.flatMap_cons, List.append_assoc]

theorem flat_len {α : Type} (f : α → List UInt8) (n : Nat) : ∀ (l : List α), (∀ x ∈ l, (f x).length ≤ n) → (l.flatMap f).length ≤ n * l.length
  | [], _ => by simp
  | x :: l, h => by
    have h1 := h x (List.mem_cons_self ..)
    have h2 := flat_len f n l fun y hy => h y (List.mem_cons_of_mem _ hy)
    rw [List.flatMap_cons, List.length_append, List.length_cons, Nat.mul_add]
    omega

theorem rowsT_len {rows : RW} (hl : rows.length ≤ 80) (hr : ∀ r ∈ rows, RowOk r) : (rowsT rows).length ≤ 3120 := by
  have := flat_len rowT 39 rows fun r h => rowT_len (hr r h)
  unfold rowsT
  omega

theorem rowsText_I {rows : RW} (hl : rows.length ≤ 80) (hr : ∀ r ∈ rows, RowOk r) : f_I_rowsText rows = some ((rowsT rows, ()), ()) := by
  have hf := fix_fold (B := fun d => b_I_rowsText_3 d.1 d.2.1 d.2.2.1 d.2.2.2.1) rows (fun a r => a ++ rowT r) (fun a i => (a, rows, (rows.length : Int), (i : Int), ())) (fun a => (a, ())) (fun i a => a.length ≤ 39 * i)
    (fun i hi a hI => by
      have hx := hr _ (List.getElem_mem hi)
      have ht := rowT_len hx
      refine ⟨by rw [List.length_append]; omega, ?_⟩
      show b_I_rowsText_3 a rows rows.length i = _
      unfold b_I_rowsText_3
      rw [decide_eq_true (by omega : (i : Int) < (rows.length : Int)), cond_true, inB_lt hi, cond_true, toNat_cast, getD_of hi, sign_I hx.1, Option.bind_some, shown_I _ _ (by show (signT rows[i].1).length ≤ _; have := (sign_ok hx.1).2; omega) (by have := hx.2.2; omega), Option.bind_some]
      dsimp only
      rw [show shownT (signT rows[i].1) rows[i].2.1 = rowT rows[i] from rfl, decide_eq_true (by omega), cond_true, wrap64 (by omega) (by omega)]
      rfl)
    (fun a _ => by
      show b_I_rowsText_3 a rows rows.length rows.length = _
      unfold b_I_rowsText_3
      rw [decide_eq_false (Int.lt_irrefl _), cond_false]) [] (Nat.zero_le _)
  unfold f_I_rowsText
  rw [show w_I_rowsText_3 ([], rows, (rows.length : Int), 0, ()) = _ from hf.1, Option.bind_some, foldl_app]
  rfl

def headT (x : PV Y_impl_Group) : List UInt8 :=
  ((([64, 64, 32, 45] ++ countT x.1.toNat (sideL x.2.2.1 3).length) ++ [32, 43]) ++ countT x.2.1.toNat (sideL x.2.2.1 2).length) ++ [32, 64, 64, 10]
def groupT (x : PV Y_impl_Group) : List UInt8 := headT x ++ rowsT x.2.2.1
def textG (g : GR) : List UInt8 := g.flatMap groupT

theorem group_facts {x : PV Y_impl_Group} (h : goodG x = true) : (∃ a : Nat, x.1 = (a : Int) ∧ a ≤ 999) ∧ (∃ b : Nat, x.2.1 = (b : Int) ∧ b ≤ 999) ∧ (sideL x.2.2.1 3).length ≤ 80 ∧ (sideL x.2.2.1 2).length ≤ 80 := by
  obtain ⟨h80, _⟩ := rowsOk h
  unfold goodG inI at h
  simp only [Bool.and_eq_true, decide_eq_true_eq, Bool.not_eq_true'] at h
  obtain ⟨⟨a1, a2⟩, ⟨b1, b2⟩, _⟩ := h
  have e : ∀ z : Int, z ≥ 0 → z ≤ 999 → ∃ a : Nat, z = (a : Int) ∧ a ≤ 999 := fun z _ _ => ⟨z.toNat, by omega, by omega⟩
  refine ⟨e _ a1 a2, e _ b1 b2, Nat.le_trans side_len h80, Nat.le_trans side_len h80⟩
theorem headT_len {x : PV Y_impl_Group} (h : goodG x = true) : (headT x).length ≤ 100 := by
  obtain ⟨⟨a, ea, ha⟩, ⟨b, eb, hb⟩, h3, h4⟩ := group_facts h
  unfold headT
  have c1 := countT_len (a := a) (m := (sideL x.2.2.1 3).length) (by omega) (by omega)
  have c2 := countT_len (a := b) (m := (sideL x.2.2.1 2).length) (by omega) (by omega)
  rw [ea, eb, toNat_cast, toNat_cast]
  simp only [List.length_append, List.length_cons, List.length_nil]
  omega
theorem groupT_len {x : PV Y_impl_Group} (h : goodG x = true) : (groupT x).length ≤ 3220 := by
  have h1 := headT_len h
  have h2 := rowsT_len (rowsOk h).1 (rowsOk h).2
  unfold groupT
  rw [List.length_append]
  omega

theorem good_mem' {g : GR} (hg : goodGs g = true) {i : Nat} (hi : i < g.length) : goodG g[i] = true ∧ g.length ≤ 20 := by
  unfold goodGs at hg
  simp only [Bool.and_eq_true, decide_eq_true_eq, Bool.not_eq_true'] at hg
  obtain ⟨h1, h2⟩ := hg
  refine ⟨?_, h1⟩
  cases hb : goodG g[i] with
  | true => rfl
  | false =>
    have : anyN g.length (badGr g) = true := anyN_iff.2 ⟨i, hi, by unfold badGr; rw [getD_of hi, hb]; rfl⟩
    rw [this] at h2; cases h2

theorem groupsText_I' {g : GR} (hs : SmG g) (hg : goodGs g = true) : f_I_groupsText g = some ((textG g, ()), ()) := by
  have hl := hs.1
  have hf := fix_fold (B := fun d => b_I_groupsText_3 d.1 d.2.1 d.2.2.1 d.2.2.2.1) g (fun a x => a ++ groupT x) (fun a i => (a, g, (g.length : Int), (i : Int), ())) (fun a => (a, ())) (fun i a => a.length ≤ 3220 * i)
    (fun i hi a hI => by
      have hm := hs.2 _ (List.getElem_mem hi)
      obtain ⟨hx, h20⟩ := good_mem' hg hi
      have ht := groupT_len hx
      obtain ⟨⟨p, ep, hp⟩, ⟨q, eq, hq⟩, h3, h4⟩ := group_facts hx
      obtain ⟨r1, r2⟩ := rowsOk hx
      refine ⟨by rw [List.length_append]; omega, ?_⟩
      show b_I_groupsText_3 a g g.length i = _
      unfold b_I_groupsText_3 f_I_Group_old f_I_Group_fresh f_I_headText
      have c1 := countT_len (a := p) (m := (sideL g[i].2.2.1 3).length) (by omega) (by omega)
      have c2 := countT_len (a := q) (m := (sideL g[i].2.2.1 2).length) (by omega) (by omega)
      have hh := headT_len hx
      have hr := rowsT_len r1 r2
      rw [decide_eq_true (by omega : (i : Int) < (g.length : Int)), cond_true, inB_lt hi, cond_true, toNat_cast, getD_of hi, sideOf_I hm, Option.bind_some, Option.bind_some, sideOf_I hm]
      dsimp only
      rw [ep, count_I p _ (by omega) (by omega), Option.bind_some, Option.bind_some, Option.bind_some]
      dsimp only
      rw [eq, count_I q _ (by omega) (by omega), Option.bind_some]
      dsimp only
      rw [decide_eq_true (by simp only [List.length_cons, List.length_nil]; omega), cond_true, decide_eq_true (by simp only [List.length_append, List.length_cons, List.length_nil]; omega), cond_true, decide_eq_true (by simp only [List.length_append, List.length_cons, List.length_nil]; omega), cond_true, decide_eq_true (by simp only [List.length_append, List.length_cons, List.length_nil]; omega), cond_true, Option.bind_some]
      dsimp only
      rw [rowsText_I r1 r2, Option.bind_some]
      dsimp only
      have e : ((([64, 64, 32, 45] ++ countT p (sideL g[i].2.2.1 3).length) ++ [32, 43]) ++ countT q (sideL g[i].2.2.1 2).length) ++ [32, 64, 64, 10] = headT g[i] := by
        unfold headT
        rw [ep, eq, toNat_cast, toNat_cast]
      rw [e, decide_eq_true (by omega), cond_true, decide_eq_true (by rw [List.length_append]; omega), cond_true, wrap64 (by omega) (by omega)]
      rfl)
    (fun a _ => by
      show b_I_groupsText_3 a g g.length g.length = _
      unfold b_I_groupsText_3
      rw [decide_eq_false (Int.lt_irrefl _), cond_false]) [] (Nat.zero_le _)
  unfold f_I_groupsText
  rw [show w_I_groupsText_3 ([], g, (g.length : Int), 0, ()) = _ from hf.1, Option.bind_some, foldl_app]
  rfl

theorem rows_loop_S {rows : RW} (hl : rows.length ≤ 80) (hr : ∀ r ∈ rows, RowOk r) (t3 : List UInt8) (ht3 : t3.length ≤ 1000000) (t8 : PV S_impl_Group) (t9 t10 : Int) :
    w_S_l7Text_7 (t3, t8, t9, t10, rows, (rows.length : Int), 0, ()) = some (t3 ++ rowsT rows, t8, t9, t10, ()) := by
  have hf := fix_fold (B := fun d => b_S_l7Text_7 d.1 d.2.1 d.2.2.1 d.2.2.2.1 d.2.2.2.2.1 d.2.2.2.2.2.1 d.2.2.2.2.2.2.1) rows (fun a r => a ++ rowT r) (fun a i => (a, t8, t9, t10, rows, (rows.length : Int), (i : Int), ())) (fun a => (a, t8, t9, t10, ())) (fun i a => a.length ≤ 1000000 + 39 * i)
    (fun i hi a hI => by
      have hx := hr _ (List.getElem_mem hi)
      have ht := rowT_len hx
      refine ⟨by rw [List.length_append]; omega, ?_⟩
      show b_S_l7Text_7 a t8 t9 t10 rows rows.length i = _
      unfold b_S_l7Text_7
      rw [decide_eq_true (by omega : (i : Int) < (rows.length : Int)), cond_true, inB_lt hi, cond_true, toNat_cast, getD_of hi, sign_S hx.1, Option.bind_some, shown_S _ _ (by show (signT rows[i].1).length ≤ _; have := (sign_ok hx.1).2; omega) hx.2.1 (by have := hx.2.2; omega), Option.bind_some]
      dsimp only
      rw [show shownT (signT rows[i].1) rows[i].2.1 = rowT rows[i] from rfl, decide_eq_true (by omega), cond_true, wrap64 (by omega) (by omega)]
      rfl)
    (fun a _ => by
      show b_S_l7Text_7 a t8 t9 t10 rows rows.length rows.length = _
      unfold b_S_l7Text_7
      rw [decide_eq_false (Int.lt_irrefl _), cond_false]) t3 ht3
  rw [foldl_app] at hf
  exact hf.1

theorem groupsText_S' {g : GR} (hs : SmG g) (hg : goodGs g = true) : f_S_l7Text g = some ((textG g, ()), ()) := by
  have hl := hs.1
  have hf := fix_fold (B := fun d => b_S_l7Text_3 d.1 d.2.1 d.2.2.1 d.2.2.2.1) g (fun a x => a ++ groupT x) (fun a i => (a, g, (g.length : Int), (i : Int), ())) (fun a => (a, ())) (fun i a => a.length ≤ 3220 * i)
    (fun i hi a hI => by
      have hm := hs.2 _ (List.getElem_mem hi)
      obtain ⟨hx, h20⟩ := good_mem' hg hi
      have ht := groupT_len hx
      obtain ⟨⟨p, ep, hp⟩, ⟨q, eq, hq⟩, h3, h4⟩ := group_facts hx
      obtain ⟨r1, r2⟩ := rowsOk hx
      refine ⟨by rw [List.length_append]; omega, ?_⟩
      show b_S_l7Text_3 a g g.length i = _
      unfold b_S_l7Text_3
      have c1 := countT_len (a := p) (m := (sideL g[i].2.2.1 3).length) (by omega) (by omega)
      have c2 := countT_len (a := q) (m := (sideL g[i].2.2.1 2).length) (by omega) (by omega)
      have hh := headT_len hx
      have hr := rowsT_len r1 r2
      rw [decide_eq_true (by omega : (i : Int) < (g.length : Int)), cond_true, inB_lt hi, cond_true, toNat_cast, getD_of hi, old_S hm, Option.bind_some, new_S hm]
      dsimp only
      rw [ep, count_S p _ (by omega) (by omega), Option.bind_some, Option.bind_some]
      dsimp only
      rw [eq, count_S q _ (by omega) (by omega), Option.bind_some]
      dsimp only
      rw [decide_eq_true (by simp only [List.length_cons, List.length_nil]; omega), cond_true, decide_eq_true (by simp only [List.length_append, List.length_cons, List.length_nil]; omega), cond_true, decide_eq_true (by simp only [List.length_append, List.length_cons, List.length_nil]; omega), cond_true, decide_eq_true (by simp only [List.length_append, List.length_cons, List.length_nil]; omega), cond_true]
      have e : ((([64, 64, 32, 45] ++ countT p (sideL g[i].2.2.1 3).length) ++ [32, 43]) ++ countT q (sideL g[i].2.2.1 2).length) ++ [32, 64, 64, 10] = headT g[i] := by
        unfold headT
        rw [ep, eq, toNat_cast, toNat_cast]
      rw [e, decide_eq_true (by omega), cond_true, rows_loop_S r1 r2 _ (by rw [List.length_append]; omega), Option.bind_some]
      dsimp only
      rw [wrap64 (by omega) (by omega), List.append_assoc]
      rfl)
    (fun a _ => by
      show b_S_l7Text_3 a g g.length g.length = _
      unfold b_S_l7Text_3
      rw [decide_eq_false (Int.lt_irrefl _), cond_false]) [] (Nat.zero_le _)
  unfold f_S_l7Text
  rw [show w_S_l7Text_3 ([], g, (g.length : Int), 0, ()) = _ from hf.1, Option.bind_some, foldl_app]
  rfl

def gtOk (g : GR) : Bool := goodGs g && decide ((textG g).length ≤ 3000)
def gtR (g : GR) : List UInt8 := bif gtOk g then textG g else []
theorem groupsTextR_I {g : GR} (hs : SmG g) : f_I_GroupsText g = some ((gtR g, gtOk g, ()), ()) := by
  unfold f_I_GroupsText gtR gtOk f_I_short
  rw [groups_I hs, Option.bind_some]
  dsimp only
  cases hg : goodGs g
  · rfl
  · rw [Bool.not_true, cond_false, groupsText_I' hs hg, Option.bind_some]
    dsimp only
    by_cases h : (textG g).length ≤ 3000
    · rw [decide_eq_false (by omega : ¬ ((textG g).length : Int) > 3000), decide_eq_true h]; rfl
    · rw [decide_eq_true (by omega : ((textG g).length : Int) > 3000), decide_eq_false h]; rfl
theorem groupsTextR_S {g : GR} (hs : SmG g) : f_S_GroupsText g = some ((gtR g, gtOk g, ()), ()) := by
  unfold f_S_GroupsText gtR gtOk
  rw [groups_S hs, Option.bind_some]
  dsimp only
  cases hg : goodGs g
  · rfl
  · rw [Bool.not_true, cond_false, groupsText_S' hs hg, Option.bind_some, Option.bind_some]
    dsimp only
    by_cases h : (textG g).length ≤ 3000
    · rw [decide_eq_false (by omega : ¬ ((textG g).length : Int) > 3000), decide_eq_true h, cond_false, groupsText_S' hs hg, Option.bind_some]; rfl
    · rw [decide_eq_true (by omega : ((textG g).length : Int) > 3000), decide_eq_false h]; rfl

theorem law_GroupsText (t0 : PV S_laws_Group) (hw : WfV S_laws_Group t0) : f_L_FnExactGroupsText t0 = some ((true, ()), ()) := by
  unfold f_L_FnExactGroupsText
  rw [p_L_szGroupS t0 1048576 (by omega) (by omega) hw, Option.bind_some]
  by_cases hs : ((tot S_laws_Group t0 : Nat) : Int) ≤ 1048576
  · rw [szR_pos hs]
    dsimp only
    have hs' : tot S_laws_Group t0 ≤ 1048576 := by omega
    have hb : tot S_impl_Group t0 ≤ 1048576 := hs'
    have hS : SmG t0 := SmG.of (e := 0) hb
    have c1 : cn S_impl_Group t0 ≤ 0 + 5 * tot S_impl_Group t0 := cn_tot_le (by decide) (by decide)
    rw [decide_eq_false (by omega : ¬ ((1048576 : Int) - ((tot S_laws_Group t0 : Nat) : Int) < 0)), cond_false]
    simp only [p_L_toGroupS t0 hs', groupsTextR_S hS, groupsTextR_I hS, Option.bind_some, p_L_eqGroupS t0 (by omega), beq_self_eq_true, Bool.not_true, cond_false]
  · rw [szR_neg hs]; rfl
end R
