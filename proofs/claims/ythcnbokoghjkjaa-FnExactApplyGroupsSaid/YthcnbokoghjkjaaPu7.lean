/- The hunks of groups, and what comes of them: both sides tell the same. -/
import Derived.Test.YthcnbokoghjkjaaPu3
import Derived.Test.YthcnbokoghjkjaaPu6
open Go Go.Dn
namespace R
set_option linter.unusedVariables false

abbrev TX := List (List UInt8)
abbrev HK := List (PV Y_impl_Hunk)

theorem same_core {B : TX × TX × Int × Int × Unit → Option ((TX × TX × Int × Int × Unit) ⊕ (Unit ⊕ (Bool × Unit)))} {a b : TX} (hab : a.length = b.length)
    (hstep : ∀ i, i < a.length → B (a, b, (a.length : Int), (i : Int), ()) = some (if !(a.getD i [] == b.getD i []) then .inr (.inr (false, ())) else .inl (a, b, (a.length : Int), ((i + 1 : Nat) : Int), ())))
    (hend : B (a, b, (a.length : Int), (a.length : Int), ()) = some (.inr (.inl ()))) :
    fix B (a, b, (a.length : Int), 0, ()) = some (if decide (a = b) = true then .inl () else .inr (false, ())) := by
  have := fix_anyN (B := B) a.length (fun i => !(a.getD i [] == b.getD i [])) (fun i => (a, b, (a.length : Int), (i : Int), ())) (fun _ => .inr (false, ())) (.inl ())
    (fun i hi hq => by rw [hstep i hi, if_neg (by rw [hq]; simp)])
    (fun i hi hq => by rw [hstep i hi, if_pos hq])
    hend
  rw [show ((0 : Nat) : Int) = 0 from rfl] at this
  have hd : decide (a = b) = !(anyN a.length fun i => !(a.getD i [] == b.getD i [])) := by
    have h2 := beq_places (d := ([] : List UInt8)) hab
    have e : (fun i => !(a.getD i [] == b.getD i [])) = (fun i => !(@BEq.beq _ instBEqOfDecidableEq (a.getD i []) (b.getD i []))) := by
      funext i
      congr 1
      rw [Bool.eq_iff_iff]
      simp
    rw [e, ← h2, Bool.eq_iff_iff]
    simp
  rw [this, hd]
  cases anyN a.length fun i => !(a.getD i [] == b.getD i []) <;> rfl

theorem sameT_S (a b : TX) (ha : a.length ≤ 4611686018427387904) (hb : b.length ≤ 4611686018427387904) : f_S_l1SameT a b = some ((decide (a = b), ()), ()) := by
  unfold f_S_l1SameT
  by_cases hab : a.length = b.length
  · rw [show ((a.length : Int) == (b.length : Int)) = true from by rw [hab]; exact beq_self_eq_true _, Bool.not_true, cond_false]
    rw [show w_S_l1SameT_4 (a, b, (a.length : Int), 0, ()) = _ from same_core (B := fun d => b_S_l1SameT_4 d.1 d.2.1 d.2.2.1 d.2.2.2.1) hab
      (fun i hi => by
        show b_S_l1SameT_4 a b a.length i = _
        unfold b_S_l1SameT_4
        rw [decide_eq_true (by omega : (i : Int) < (a.length : Int)), cond_true, inB_lt hi, cond_true, inB_lt (by omega), cond_true, toNat_cast]
        cases (a.getD i [] == b.getD i [])
        · rfl
        · simp only [Bool.not_true, cond_false]
          rw [wrap64 (by omega) (by omega)]
          rfl)
      (by
        show b_S_l1SameT_4 a b a.length a.length = _
        unfold b_S_l1SameT_4
        rw [decide_eq_false (Int.lt_irrefl _), cond_false])]
    cases decide (a = b) <;> rfl
  · rw [show ((a.length : Int) == (b.length : Int)) = false from by rw [beq_eq_false_iff_ne]; omega, Bool.not_false, cond_true]
    rw [decide_eq_false (by rintro rfl; exact hab rfl)]

theorem equal_I (a b : TX) (ha : a.length ≤ 4611686018427387904) (hb : b.length ≤ 4611686018427387904) : f_slices_Equal_string a b = some ((decide (a = b), ()), ()) := by
  unfold f_slices_Equal_string
  by_cases hab : a.length = b.length
  · rw [show ((a.length : Int) == (b.length : Int)) = true from by rw [hab]; exact beq_self_eq_true _, Bool.not_true, cond_false]
    rw [show w_slices_Equal_string_4 (a, b, (a.length : Int), 0, ()) = _ from same_core (B := fun d => b_slices_Equal_string_4 d.1 d.2.1 d.2.2.1 d.2.2.2.1) hab
      (fun i hi => by
        show b_slices_Equal_string_4 a b a.length i = _
        unfold b_slices_Equal_string_4
        rw [decide_eq_true (by omega : (i : Int) < (a.length : Int)), cond_true, inB_lt hi, cond_true, inB_lt (by omega), cond_true, toNat_cast]
        cases (a.getD i [] == b.getD i [])
        · rfl
        · simp only [Bool.not_true, cond_false]
          rw [wrap64 (by omega) (by omega)]
          rfl)
      (by
        show b_slices_Equal_string_4 a b a.length a.length = _
        unfold b_slices_Equal_string_4
        rw [decide_eq_false (Int.lt_irrefl _), cond_false])]
    cases decide (a = b) <;> rfl
  · rw [show ((a.length : Int) == (b.length : Int)) = false from by rw [beq_eq_false_iff_ne]; omega, Bool.not_false, cond_true]
    rw [decide_eq_false (by rintro rfl; exact hab rfl)]

/-- One row of a group, for its hunks. -/
def opn (a : Int × HK × Bool) : HK := bif !a.2.2 then a.2.1 ++ [((a.1, (0, (([] : PV S_string), ()))) : PV Y_impl_Hunk)] else a.2.1
def updG (x : PV Y_impl_Hunk) : PV Y_impl_Hunk := (x.1, (IntKind.wrap .i64 (x.2.1 + 1), x.2.2))
def updN (s : List UInt8) (x : PV Y_impl_Hunk) : PV Y_impl_Hunk := (x.1, (x.2.1, (x.2.2.1 ++ [s], x.2.2.2)))
def ghStep (a : Int × HK × Bool) (r : PV Y_impl_Row) : Int × HK × Bool :=
  bif r.1 == 1 then (IntKind.wrap .i64 (a.1 + 1), a.2.1, false)
  else bif r.1 == 2 then (IntKind.wrap .i64 (a.1 + 1), (opn a).set ((opn a).length - 1) (updG ((opn a).getD ((opn a).length - 1) (dflt Y_impl_Hunk))), true)
  else (a.1, (opn a).set ((opn a).length - 1) (updN r.2.1 ((opn a).getD ((opn a).length - 1) (dflt Y_impl_Hunk))), true)
def ghs (at0 : Int) (rows : RW) : HK := (rows.foldl ghStep (at0, [], false)).2.1
def okH (i : Nat) (x : PV Y_impl_Hunk) : Prop := List.length x.2.2.1 ≤ i ∧ ∀ s ∈ (x.2.2.1 : TX), s.length ≤ 1048576
def ghI (i : Nat) (a : Int × HK × Bool) : Prop := a.2.1.length ≤ i ∧ (a.2.2 = true → 0 < a.2.1.length) ∧ ∀ x ∈ a.2.1, okH i x

theorem okH.mono {i j : Nat} (h : i ≤ j) {x : PV Y_impl_Hunk} (hx : okH i x) : okH j x := ⟨Nat.le_trans hx.1 h, hx.2⟩
theorem opn_pos {a : Int × HK × Bool} (h : a.2.2 = true → 0 < a.2.1.length) : 0 < (opn a).length := by
  unfold opn
  cases ha : a.2.2
  · simp
  · simpa using h ha
theorem opn_len {a : Int × HK × Bool} {i : Nat} (h : a.2.1.length ≤ i) : (opn a).length ≤ i + 1 := by
  unfold opn
  cases a.2.2
  · simp; omega
  · simp; omega
theorem opn_ok {a : Int × HK × Bool} {i : Nat} (h : ∀ x ∈ a.2.1, okH i x) : ∀ x ∈ opn a, okH i x := by
  unfold opn
  cases a.2.2
  · intro x hx
    rcases List.mem_append.1 hx with hx | hx
    · exact h x hx
    · obtain rfl := List.mem_singleton.1 hx
      exact ⟨Nat.zero_le _, fun s hs => by cases hs⟩
  · exact h
theorem getD_mem {α : Type} {l : List α} {k : Nat} {d : α} (h : k < l.length) : l.getD k d ∈ l := by
  rw [getD_of h]
  exact List.getElem_mem _
theorem ghStep_inv {a : Int × HK × Bool} {r : PV Y_impl_Row} {i : Nat} (hr : List.length r.2.1 ≤ 1048576) (h : ghI i a) : ghI (i + 1) (ghStep a r) := by
  obtain ⟨h1, h2, h3⟩ := h
  have p := opn_pos h2
  have q := opn_len h1
  have w := opn_ok h3
  unfold ghStep
  cases r.1 == 1
  · cases r.1 == 2
    · rw [cond_false, cond_false]
      refine ⟨by simpa using q, fun _ => by simpa using p, fun x hx => ?_⟩
      rcases List.mem_or_eq_of_mem_set hx with hx | rfl
      · exact (w x hx).mono (by omega)
      · have := w _ (getD_mem (d := dflt Y_impl_Hunk) (show (opn a).length - 1 < (opn a).length by omega))
        refine ⟨?_, fun s hs => ?_⟩
        · show List.length (_ ++ [_]) ≤ _
          have := this.1
          simp only [List.length_append, List.length_cons, List.length_nil]
          omega
        · rcases List.mem_append.1 hs with hs | hs
          · exact this.2 s hs
          · obtain rfl := List.mem_singleton.1 hs
            exact hr
    · rw [cond_false, cond_true]
      refine ⟨by simpa using q, fun _ => by simpa using p, fun x hx => ?_⟩
      rcases List.mem_or_eq_of_mem_set hx with hx | rfl
      · exact (w x hx).mono (by omega)
      · exact (w _ (getD_mem (d := dflt Y_impl_Hunk) (show (opn a).length - 1 < (opn a).length by omega))).mono (by omega)
  · rw [cond_true]
    exact ⟨by show a.2.1.length ≤ _; omega, (fun h => by cases h), fun x hx => (h3 x hx).mono (by omega)⟩

theorem ghs_I {rows : RW} (at0 : Int) (h : SmR rows) : w_I_Group_hunks_3 (at0, ([] : PV S_impl_Hunk), false, rows, (rows.length : Int), 0, ()) = some (ghs at0 rows, ()) ∧ (ghs at0 rows).length ≤ rows.length ∧ ∀ x ∈ ghs at0 rows, okH rows.length x := by
  have hl := h.1
  have hf := fix_fold (B := fun d => b_I_Group_hunks_3 d.1 d.2.1 d.2.2.1 d.2.2.2.1 d.2.2.2.2.1 d.2.2.2.2.2.1) rows ghStep (fun a i => (a.1, a.2.1, a.2.2, rows, (rows.length : Int), (i : Int), ())) (fun a => (a.2.1, ())) ghI
    (fun i hi a hI => by
      have hr := h.2 _ (List.getElem_mem hi)
      refine ⟨ghStep_inv hr hI, ?_⟩
      obtain ⟨h1, h2, h3⟩ := hI
      have p := opn_pos h2
      have q := opn_len h1
      have w := opn_ok h3
      show b_I_Group_hunks_3 a.1 a.2.1 a.2.2 rows rows.length i = _
      unfold b_I_Group_hunks_3
      rw [decide_eq_true (by omega : (i : Int) < (rows.length : Int)), cond_true, inB_lt hi, cond_true, toNat_cast, getD_of hi]
      have hop : ((bif (!a.2.2) then bif roomB (a.2.1.length + [((a.1, (0, (([] : PV S_string), ()))) : PV Y_impl_Hunk)].length) then some (a.1, (a.2.1 ++ [((a.1, (0, (([] : PV S_string), ()))) : PV Y_impl_Hunk)]), true, rows[i], rows, (rows.length : Int), (i : Int), ()) else none else some (a.1, a.2.1, a.2.2, rows[i], rows, (rows.length : Int), (i : Int), ())) : Option ((PV (.int .i64) × PV S_impl_Hunk × PV .bool × PV Y_impl_Row × PV S_impl_Row × PV (.int .i64) × PV (.int .i64) × Unit))) =
          some (a.1, opn a, true, rows[i], rows, (rows.length : Int), (i : Int), ()) := by
        unfold opn
        cases ha : a.2.2
        · rw [Bool.not_false, cond_true, roomB_ok (by simp; omega)]; rfl
        · rfl
      have hw : IntKind.wrap .i64 (((opn a).length : Int) - 1) = (((opn a).length - 1 : Nat) : Int) := by rw [wrap64 (by omega) (by omega)]; omega
      have hg := (w _ (getD_mem (d := dflt Y_impl_Hunk) (show (opn a).length - 1 < (opn a).length by omega))).1
      unfold ghStep updG updN
      cases rows[i].1 == 1
      · rw [cond_false, cond_false]
        refine (congrArg (fun z => Option.bind (Option.bind z _) _) hop).trans ?_
        simp only [Option.bind_some]
        rw [hw, inB_lt (by omega : (opn a).length - 1 < (opn a).length), toNat_cast, cond_true]
        cases rows[i].1 == 2
        · rw [cond_false, cond_false, roomB_ok (by simp only [List.length_cons, List.length_nil]; omega)]
          simp only [cond_true, beq_self_eq_true, Bool.and_true, Option.bind_some]
          rw [wrap64 (by omega) (by omega)]
          simp
        · simp only [cond_true, Option.bind_some]
          rw [wrap64 (x := (i : Int) + 1) (by omega) (by omega)]
          simp
      · simp only [cond_true, Option.bind_some]
        rw [wrap64 (x := (i : Int) + 1) (by omega) (by omega)]
        simp)
    (fun a _ => by
      show b_I_Group_hunks_3 a.1 a.2.1 a.2.2 rows rows.length rows.length = _
      unfold b_I_Group_hunks_3
      rw [decide_eq_false (Int.lt_irrefl _), cond_false]) (at0, [], false) ⟨Nat.zero_le _, (fun h => by cases h), fun x hx => by cases hx⟩
  exact ⟨hf.1, hf.2.1, hf.2.2.2⟩

theorem ghs_S {rows : RW} (at0 : Int) (h : SmR rows) : w_S_l6Hunks_5 ([], at0, false, rows, (rows.length : Int), 0, ()) = some (ghs at0 rows, ()) := by
  have hl := h.1
  have hf := fix_fold (B := fun d => b_S_l6Hunks_5 d.1 d.2.1 d.2.2.1 d.2.2.2.1 d.2.2.2.2.1 d.2.2.2.2.2.1) rows ghStep (fun a i => (a.2.1, a.1, a.2.2, rows, (rows.length : Int), (i : Int), ())) (fun a => (a.2.1, ())) ghI
    (fun i hi a hI => by
      have hr := h.2 _ (List.getElem_mem hi)
      refine ⟨ghStep_inv hr hI, ?_⟩
      obtain ⟨h1, h2, h3⟩ := hI
      have p := opn_pos h2
      have q := opn_len h1
      have w := opn_ok h3
      show b_S_l6Hunks_5 a.2.1 a.1 a.2.2 rows rows.length i = _
      unfold b_S_l6Hunks_5
      rw [decide_eq_true (by omega : (i : Int) < (rows.length : Int)), cond_true, inB_lt hi, cond_true, toNat_cast, getD_of hi]
      have hop : ((bif (!a.2.2) then bif roomB (a.2.1.length + [((a.1, (0, (([] : PV S_string), ()))) : PV Y_impl_Hunk)].length) then some ((a.2.1 ++ [((a.1, (0, (([] : PV S_string), ()))) : PV Y_impl_Hunk)]), a.1, true, rows[i], rows, (rows.length : Int), (i : Int), ()) else none else some (a.2.1, a.1, a.2.2, rows[i], rows, (rows.length : Int), (i : Int), ())) : Option ((PV S_impl_Hunk × PV (.int .i64) × PV .bool × PV Y_impl_Row × PV S_impl_Row × PV (.int .i64) × PV (.int .i64) × Unit))) =
          some (opn a, a.1, true, rows[i], rows, (rows.length : Int), (i : Int), ()) := by
        unfold opn
        cases ha : a.2.2
        · rw [Bool.not_false, cond_true, roomB_ok (by simp; omega)]; rfl
        · rfl
      have hw : IntKind.wrap .i64 (((opn a).length : Int) - 1) = (((opn a).length - 1 : Nat) : Int) := by rw [wrap64 (by omega) (by omega)]; omega
      have hg := (w _ (getD_mem (d := dflt Y_impl_Hunk) (show (opn a).length - 1 < (opn a).length by omega))).1
      unfold ghStep updG updN
      cases rows[i].1 == 1
      · rw [cond_false, cond_false]
        refine (congrArg (fun z => Option.bind (Option.bind z _) _) hop).trans ?_
        simp only [Option.bind_some]
        rw [hw, inB_lt (by omega : (opn a).length - 1 < (opn a).length), toNat_cast, cond_true]
        cases rows[i].1 == 2
        · rw [cond_false, cond_false, roomB_ok (by simp only [List.length_cons, List.length_nil]; omega)]
          simp only [cond_true, beq_self_eq_true, Bool.and_true, Option.bind_some]
          rw [wrap64 (by omega) (by omega)]
          simp
        · simp only [cond_true, Option.bind_some]
          rw [wrap64 (x := (i : Int) + 1) (by omega) (by omega)]
          simp
      · simp only [cond_true, Option.bind_some]
        rw [wrap64 (x := (i : Int) + 1) (by omega) (by omega)]
        simp)
    (fun a _ => by
      show b_S_l6Hunks_5 a.2.1 a.1 a.2.2 rows rows.length rows.length = _
      unfold b_S_l6Hunks_5
      rw [decide_eq_false (Int.lt_irrefl _), cond_false]) (at0, [], false) ⟨Nat.zero_le _, (fun h => by cases h), fun x hx => by cases hx⟩
  exact hf.1

/-- A group that begins behind the end. -/
def farG (l : TX) (x : PV Y_impl_Group) : Bool := decide (oldE x > (l.length : Int))
def gaStep (l : TX) (a : HK × Int) (x : PV Y_impl_Group) : (HK × Int) ⊕ Unit :=
  bif !(decide (cutL x.1 (oldE x) l = sideL x.2.2.1 3)) || !(x.2.1 == IntKind.wrap .i64 (x.1 + a.2)) then .inr ()
  else .inl (a.1 ++ ghs x.1 x.2.2.1, IntKind.wrap .i64 (a.2 + IntKind.wrap .i64 (((sideL x.2.2.1 2).length : Int) - ((sideL x.2.2.1 3).length : Int))))
def gaI (i : Nat) (a : HK × Int) : Prop := a.1.length ≤ 80 * i ∧ ∀ x ∈ a.1, okH 80 x

theorem good_mem {g : GR} (hg : goodGs g = true) {i : Nat} (hi : i < g.length) : goodG g[i] = true ∧ g.length ≤ 20 := by
  unfold goodGs at hg
  simp only [Bool.and_eq_true, decide_eq_true_eq, Bool.not_eq_true'] at hg
  obtain ⟨h1, h2⟩ := hg
  refine ⟨?_, h1⟩
  cases hb : goodG g[i] with
  | true => rfl
  | false =>
    have : anyN g.length (badGr g) = true := anyN_iff.2 ⟨i, hi, by unfold badGr; rw [getD_of hi, hb]; rfl⟩
    rw [this] at h2; cases h2

theorem good_facts {x : PV Y_impl_Group} (h : goodG x = true) : 0 ≤ x.1 ∧ x.1 ≤ 999 ∧ List.length x.2.2.1 ≤ 80 ∧ goodP (sideL x.2.2.1 3) = true ∧ goodP (sideL x.2.2.1 2) = true ∧ oldE x = x.1 + ((sideL x.2.2.1 3).length : Int) ∧ oldE x ≤ 1000 := by
  unfold goodG inI at h
  simp only [Bool.and_eq_true, decide_eq_true_eq, Bool.not_eq_true'] at h
  obtain ⟨⟨a1, a2⟩, _, ⟨b1, b2⟩, _, _, c1, c2, d1, _⟩ := h
  have hl := goodP_len c1
  have e : oldE x = x.1 + ((sideL x.2.2.1 3).length : Int) := wrap64 (by omega) (by omega)
  refine ⟨a1, a2, by omega, c1, c2, e, ?_⟩
  exact d1

def gaFold (l : TX) (g : GR) : (HK × Int) ⊕ Unit := run (gaStep l) ([], 0) g
def gaL (l : TX) (g : GR) : HK := match gaFold l g with | .inl a => a.1 | .inr _ => []
def gaC (l : TX) (g : GR) : Int := match gaFold l g with | .inl _ => 0 | .inr _ => 2

theorem gaStep_inv {l : TX} {a b : HK × Int} {x : PV Y_impl_Group} {i : Nat} (hx : goodG x = true) (hs : SmR x.2.2.1) (h : gaI i a) (hb : gaStep l a x = .inl b) : gaI (i + 1) b := by
  unfold gaStep at hb
  obtain ⟨_, _, h3, _⟩ := good_facts hx
  obtain ⟨_, q1, q2⟩ := ghs_I x.1 hs
  cases hc : (!(decide (cutL x.1 (oldE x) l = sideL x.2.2.1 3)) || !(x.2.1 == IntKind.wrap .i64 (x.1 + a.2))) with
  | true => rw [hc, cond_true] at hb; cases hb
  | false =>
    rw [hc, cond_false] at hb
    obtain rfl := Sum.inl.inj hb
    obtain ⟨h1, h2⟩ := h
    refine ⟨?_, fun y hy => ?_⟩
    · show List.length (_ ++ _) ≤ _
      rw [List.length_append]
      omega
    · rcases List.mem_append.1 hy with hy | hy
      · exact h2 y hy
      · exact (q2 y hy).mono h3

theorem ga_I {l : TX} {g : GR} (hl : l.length ≤ 40) (hs : SmG g) (hg : goodGs g = true) (hf : g.any (farG l) = false) :
    w_I_GroupHunks_7 (l, ([] : PV S_impl_Hunk), 0, g, (g.length : Int), 0, ()) = some (match gaFold l g with | .inl a => .inl (a.1, ()) | .inr _ => .inr ([], 2, true, ())) ∧ (∀ b, gaFold l g = .inl b → gaI g.length b) := by
  have hlen := hs.1
  have key := fix_run (B := fun d => b_I_GroupHunks_7 d.1 d.2.1 d.2.2.1 d.2.2.2.1 d.2.2.2.2.1 d.2.2.2.2.2.1) g (gaStep l) (fun a i => (l, a.1, a.2, g, (g.length : Int), (i : Int), ())) (fun a => .inl (a.1, ())) (fun _ => .inr ([], 2, true, ())) gaI
    (fun i hi a b hI hb => by
      have hm := hs.2 _ (List.getElem_mem hi)
      obtain ⟨hgx, hg20⟩ := good_mem hg hi
      refine ⟨gaStep_inv hgx hm hI hb, ?_⟩
      obtain ⟨f1, f2, f3, f4, f5, f6, f7⟩ := good_facts hgx
      obtain ⟨q0, q1, q2⟩ := ghs_I g[i].1 hm
      have hfar := List.any_eq_false.1 hf _ (List.getElem_mem hi)
      unfold farG at hfar
      simp only [decide_eq_true_eq] at hfar
      show b_I_GroupHunks_7 l a.1 a.2 g g.length i = _
      unfold b_I_GroupHunks_7 f_I_Group_old f_I_Group_fresh f_I_Group_hunks
      have hp := goodP_len f4
      rw [decide_eq_true (by omega : (i : Int) < (g.length : Int)), cond_true, inB_lt hi, cond_true, toNat_cast, getD_of hi, sideOf_I hm, Option.bind_some, Option.bind_some]
      dsimp only
      rw [show IntKind.wrap .i64 (g[i].1 + ((sideL g[i].2.2.1 3).length : Int)) = oldE g[i] from rfl, cutB_ok f1 (by omega) (by omega), cond_true]
      rw [equal_I _ _ (by omega) (Nat.le_trans cut_len (by omega)), Option.bind_some]
      dsimp only
      unfold gaStep at hb
      rw [show decide (sideL g[i].2.2.1 3 = cutL g[i].1 (oldE g[i]) l) = decide (cutL g[i].1 (oldE g[i]) l = sideL g[i].2.2.1 3) from Bool.eq_iff_iff.2 (by simp only [decide_eq_true_eq]; exact eq_comm)]
      cases h1 : decide (cutL g[i].1 (oldE g[i]) l = sideL g[i].2.2.1 3)
      · rw [h1] at hb; cases hb
      · rw [h1] at hb
        cases h2 : (g[i].2.1 == IntKind.wrap .i64 (g[i].1 + a.2))
        · rw [h2] at hb; cases hb
        · rw [h2] at hb
          obtain rfl := Sum.inl.inj hb
          have h80 := hI.1
          simp only [Bool.not_true, cond_false, Option.bind_some, q0]
          rw [roomB_ok (by omega), cond_true, sideOf_I hm]
          simp only [Option.bind_some]
          rw [wrap64 (x := (i : Int) + 1) (by omega) (by omega)]
          rfl)
    (fun i hi a r hI hb => by
      have hm := hs.2 _ (List.getElem_mem hi)
      obtain ⟨hgx, hg20⟩ := good_mem hg hi
      obtain ⟨f1, f2, f3, f4, f5, f6, f7⟩ := good_facts hgx
      have hfar := List.any_eq_false.1 hf _ (List.getElem_mem hi)
      unfold farG at hfar
      simp only [decide_eq_true_eq] at hfar
      show b_I_GroupHunks_7 l a.1 a.2 g g.length i = _
      unfold b_I_GroupHunks_7 f_I_Group_old f_I_Group_fresh f_I_Group_hunks
      have hp := goodP_len f4
      rw [decide_eq_true (by omega : (i : Int) < (g.length : Int)), cond_true, inB_lt hi, cond_true, toNat_cast, getD_of hi, sideOf_I hm, Option.bind_some, Option.bind_some]
      dsimp only
      rw [show IntKind.wrap .i64 (g[i].1 + ((sideL g[i].2.2.1 3).length : Int)) = oldE g[i] from rfl, cutB_ok f1 (by omega) (by omega), cond_true]
      rw [equal_I _ _ (by omega) (Nat.le_trans cut_len (by omega)), Option.bind_some]
      dsimp only
      unfold gaStep at hb
      rw [show decide (sideL g[i].2.2.1 3 = cutL g[i].1 (oldE g[i]) l) = decide (cutL g[i].1 (oldE g[i]) l = sideL g[i].2.2.1 3) from Bool.eq_iff_iff.2 (by simp only [decide_eq_true_eq]; exact eq_comm)]
      cases h1 : decide (cutL g[i].1 (oldE g[i]) l = sideL g[i].2.2.1 3)
      · rfl
      · rw [h1] at hb
        cases h2 : (g[i].2.1 == IntKind.wrap .i64 (g[i].1 + a.2))
        · rfl
        · rw [h2] at hb; cases hb)
    (fun a _ => by
      show b_I_GroupHunks_7 l a.1 a.2 g g.length g.length = _
      unfold b_I_GroupHunks_7
      rw [decide_eq_false (Int.lt_irrefl _), cond_false]) ([], 0) ⟨Nat.zero_le _, fun x hx => by cases hx⟩
  refine ⟨key.1.trans ?_, key.2⟩
  unfold gaFold
  cases run (gaStep l) ([], 0) g <;> rfl

theorem ga_S {l : TX} {g : GR} (hl : l.length ≤ 40) (hs : SmG g) (hg : goodGs g = true) (hf : g.any (farG l) = false) :
    w_S_l6All_10 (l, 0, [], g, (g.length : Int), 0, ()) = some (match gaFold l g with | .inl a => .inl (a.1, ()) | .inr _ => .inr ([], 2, ())) := by
  have hlen := hs.1
  have key := (fix_run (B := fun d => b_S_l6All_10 d.1 d.2.1 d.2.2.1 d.2.2.2.1 d.2.2.2.2.1 d.2.2.2.2.2.1) g (gaStep l) (fun a i => (l, a.2, a.1, g, (g.length : Int), (i : Int), ())) (fun a => .inl (a.1, ())) (fun _ => .inr ([], 2, ())) gaI
    (fun i hi a b hI hb => by
      have hm := hs.2 _ (List.getElem_mem hi)
      obtain ⟨hgx, hg20⟩ := good_mem hg hi
      refine ⟨gaStep_inv hgx hm hI hb, ?_⟩
      obtain ⟨f1, f2, f3, f4, f5, f6, f7⟩ := good_facts hgx
      obtain ⟨_, q1, q2⟩ := ghs_I g[i].1 hm
      have q0 := ghs_S g[i].1 hm
      have hfar := List.any_eq_false.1 hf _ (List.getElem_mem hi)
      unfold farG at hfar
      simp only [decide_eq_true_eq] at hfar
      show b_S_l6All_10 l a.2 a.1 g g.length i = _
      unfold b_S_l6All_10 f_S_l6Hunks
      have hp := goodP_len f4
      rw [decide_eq_true (by omega : (i : Int) < (g.length : Int)), cond_true, inB_lt hi, cond_true, toNat_cast, getD_of hi, old_S hm, Option.bind_some]
      dsimp only
      rw [show IntKind.wrap .i64 (g[i].1 + ((sideL g[i].2.2.1 3).length : Int)) = oldE g[i] from rfl, cutB_ok f1 (by omega) (by omega), cond_true]
      rw [sameT_S _ _ (Nat.le_trans cut_len (by omega)) (by omega), Option.bind_some]
      dsimp only
      unfold gaStep at hb
      cases h1 : decide (cutL g[i].1 (oldE g[i]) l = sideL g[i].2.2.1 3)
      · rw [h1] at hb; cases hb
      · rw [h1] at hb
        cases h2 : (g[i].2.1 == IntKind.wrap .i64 (g[i].1 + a.2))
        · rw [h2] at hb; cases hb
        · rw [h2] at hb
          obtain rfl := Sum.inl.inj hb
          have h80 := hI.1
          simp only [Bool.not_true, cond_false, Option.bind_some, new_S hm, q0]
          rw [roomB_ok (by omega), cond_true]
          rw [wrap64 (x := (i : Int) + 1) (by omega) (by omega)]
          rfl)
    (fun i hi a r hI hb => by
      have hm := hs.2 _ (List.getElem_mem hi)
      obtain ⟨hgx, hg20⟩ := good_mem hg hi
      obtain ⟨f1, f2, f3, f4, f5, f6, f7⟩ := good_facts hgx
      have hfar := List.any_eq_false.1 hf _ (List.getElem_mem hi)
      unfold farG at hfar
      simp only [decide_eq_true_eq] at hfar
      show b_S_l6All_10 l a.2 a.1 g g.length i = _
      unfold b_S_l6All_10
      have hp := goodP_len f4
      rw [decide_eq_true (by omega : (i : Int) < (g.length : Int)), cond_true, inB_lt hi, cond_true, toNat_cast, getD_of hi, old_S hm, Option.bind_some]
      dsimp only
      rw [show IntKind.wrap .i64 (g[i].1 + ((sideL g[i].2.2.1 3).length : Int)) = oldE g[i] from rfl, cutB_ok f1 (by omega) (by omega), cond_true]
      rw [sameT_S _ _ (Nat.le_trans cut_len (by omega)) (by omega), Option.bind_some]
      dsimp only
      unfold gaStep at hb
      cases h1 : decide (cutL g[i].1 (oldE g[i]) l = sideL g[i].2.2.1 3)
      · rfl
      · rw [h1] at hb
        cases h2 : (g[i].2.1 == IntKind.wrap .i64 (g[i].1 + a.2))
        · rfl
        · rw [h2] at hb; cases hb)
    (fun a _ => by
      show b_S_l6All_10 l a.2 a.1 g g.length g.length = _
      unfold b_S_l6All_10
      rw [decide_eq_false (Int.lt_irrefl _), cond_false]) ([], 0) ⟨Nat.zero_le _, fun x hx => by cases hx⟩).1
  refine key.trans ?_
  unfold gaFold
  cases run (gaStep l) ([], 0) g <;> rfl

theorem far_S {l : TX} {g : GR} (hs : SmG g) : w_S_l6All_2 (l, g, g, (g.length : Int), 0, ()) = some (if g.any (farG l) then .inr ([], 3, ()) else .inl (l, g, ())) := by
  have hlen := hs.1
  have step : ∀ i (hi : i < g.length), b_S_l6All_2 l g g g.length i = some (if farG l g[i] then .inr (.inr ([], 3, ())) else .inl (l, g, g, (g.length : Int), ((i + 1 : Nat) : Int), ())) := by
    intro i hi
    have hm := hs.2 _ (List.getElem_mem hi)
    unfold b_S_l6All_2 farG oldE
    rw [decide_eq_true (by omega : (i : Int) < (g.length : Int)), cond_true, inB_lt hi, cond_true, toNat_cast, getD_of hi, old_S hm, Option.bind_some]
    dsimp only
    cases decide (IntKind.wrap .i64 (g[i].1 + ((sideL g[i].2.2.1 3).length : Int)) > (l.length : Int))
    · rw [cond_false, wrap64 (by omega) (by omega)]; rfl
    · rfl
  exact fix_any (B := fun d => b_S_l6All_2 d.1 d.2.1 d.2.2.1 d.2.2.2.1 d.2.2.2.2.1) g (farG l) (fun i => (l, g, g, (g.length : Int), (i : Int), ())) (fun _ => .inr ([], 3, ())) (.inl (l, g, ()))
    (fun i hi hq => by show b_S_l6All_2 l g g g.length i = _; rw [step i hi, hq]; rfl)
    (fun i hi hq => by show b_S_l6All_2 l g g g.length i = _; rw [step i hi, hq]; rfl)
    (by
      show b_S_l6All_2 l g g g.length g.length = _
      unfold b_S_l6All_2
      rw [decide_eq_false (Int.lt_irrefl _), cond_false])

theorem far_I {l : TX} {g : GR} {f : Bool} {z : Bool} (hs : SmG g) : ∃ k : Nat, w_I_GroupHunks_214_2 (g, l, f, g, g, z, g, g, (g.length : Int), 0, ()) = some (if g.any (farG l) then .inr (g, l, f, g, g, z, g, (k : Int), ()) else .inl (g, l, f, g, g, z, g, ())) := by
  have hlen := hs.1
  have step : ∀ i (hi : i < g.length), b_I_GroupHunks_214_2 g l f g g z g g g.length i = some (if farG l g[i] then .inr (.inr (g, l, f, g, g, z, g, (i : Int), ())) else .inl (g, l, f, g, g, z, g, g, (g.length : Int), ((i + 1 : Nat) : Int), ())) := by
    intro i hi
    have hm := hs.2 _ (List.getElem_mem hi)
    unfold b_I_GroupHunks_214_2 farG oldE f_I_Group_old
    rw [decide_eq_true (by omega : (i : Int) < (g.length : Int)), cond_true, inB_lt hi, cond_true, toNat_cast, getD_of hi, sideOf_I hm, Option.bind_some, Option.bind_some]
    dsimp only
    cases decide (IntKind.wrap .i64 (g[i].1 + ((sideL g[i].2.2.1 3).length : Int)) > (l.length : Int))
    · rw [cond_false, wrap64 (by omega) (by omega)]; rfl
    · rfl
  exact ⟨_, fix_any (B := fun d => b_I_GroupHunks_214_2 d.1 d.2.1 d.2.2.1 d.2.2.2.1 d.2.2.2.2.1 d.2.2.2.2.2.1 d.2.2.2.2.2.2.1 d.2.2.2.2.2.2.2.1 d.2.2.2.2.2.2.2.2.1 d.2.2.2.2.2.2.2.2.2.1) g (farG l) (fun i => (g, l, f, g, g, z, g, g, (g.length : Int), (i : Int), ())) (fun i => .inr (g, l, f, g, g, z, g, (i : Int), ())) (.inl (g, l, f, g, g, z, g, ()))
    (fun i hi hq => by show b_I_GroupHunks_214_2 g l f g g z g g g.length i = _; rw [step i hi, hq]; rfl)
    (fun i hi hq => by show b_I_GroupHunks_214_2 g l f g g z g g g.length i = _; rw [step i hi, hq]; rfl)
    (by
      show b_I_GroupHunks_214_2 g l f g g z g g g.length g.length = _
      unfold b_I_GroupHunks_214_2
      rw [decide_eq_false (Int.lt_irrefl _), cond_false])⟩

def ghOk (l : TX) (g : GR) : Bool := goodP l && goodGs g
def ghC (l : TX) (g : GR) : Int := bif ghOk l g then (bif g.any (farG l) then 3 else gaC l g) else 0
def ghR (l : TX) (g : GR) : HK := bif ghOk l g then (bif g.any (farG l) then [] else gaL l g) else []

theorem ghR_sm (l : TX) (g : GR) (hl : Sm l) (hs : SmG g) : SmH (ghR l g) := by
  unfold ghR ghOk
  cases h1 : goodP l
  · exact ⟨by simp, fun x hx => by cases hx⟩
  · cases h2 : goodGs g
    · exact ⟨by simp, fun x hx => by cases hx⟩
    · cases h3 : g.any (farG l)
      · have h20 : g.length ≤ 20 := by
          unfold goodGs at h2
          simp only [Bool.and_eq_true, decide_eq_true_eq] at h2
          exact h2.1
        obtain ⟨_, hI⟩ := ga_I (goodP_len h1) hs h2 h3
        simp only [Bool.and_true, cond_true, cond_false]
        unfold gaL
        cases h4 : gaFold l g with
        | inl a =>
          obtain ⟨p, q⟩ := hI a h4
          exact ⟨by show a.1.length ≤ _; omega, fun x hx => ⟨Nat.le_trans (q x hx).1 (by omega), fun s hs => Nat.le_trans ((q x hx).2 s hs) (by omega)⟩⟩
        | inr _ => exact ⟨by simp, fun x hx => by cases hx⟩
      · exact ⟨by simp, fun x hx => by cases hx⟩

theorem groupHunks_I {l : TX} {g : GR} (hl : Sm l) (hs : SmG g) : f_I_GroupHunks l g = some ((ghR l g, ghC l g, ghOk l g, ()), ()) := by
  have hlen := hs.1
  unfold f_I_GroupHunks ghR ghC ghOk
  rw [goodLines_I l hl, Option.bind_some]
  dsimp only
  cases h1 : goodP l
  · rfl
  · rw [Bool.not_true, cond_false, groups_I hs, Option.bind_some, Option.bind_some]
    dsimp only
    cases h2 : goodGs g
    · rfl
    · simp only [Bool.not_true, cond_false, Bool.and_true, cond_true]
      obtain ⟨k, hk⟩ := far_I (l := l) (f := false) (z := false) hs
      rw [hk]
      cases h3 : g.any (farG l)
      · rw [if_neg (by simp), Option.bind_some, Option.bind_some]
        dsimp only
        rw [show decide ((-1 : Int) ≥ 0) = false from rfl, cond_false, cond_false, cond_false, (ga_I (goodP_len h1) hs h2 h3).1]
        unfold gaL gaC
        cases gaFold l g <;> rfl
      · rw [if_pos rfl, Option.bind_some, Option.bind_some]
        dsimp only
        rw [decide_eq_true (by omega : (k : Int) ≥ 0)]
        rfl

theorem groupHunks_S {l : TX} {g : GR} (hl : Sm l) (hs : SmG g) : f_S_GroupHunks l g = some ((ghR l g, ghC l g, ghOk l g, ()), ()) := by
  unfold f_S_GroupHunks ghR ghC ghOk f_S_l6All
  rw [l1Good_S l hl, Option.bind_some]
  dsimp only
  cases h1 : goodP l
  · rfl
  · rw [Bool.not_true, cond_false, groups_S hs, Option.bind_some, Option.bind_some]
    dsimp only
    cases h2 : goodGs g
    · rfl
    · simp only [Bool.not_true, cond_false, Bool.and_true, cond_true]
      rw [far_S hs]
      cases h3 : g.any (farG l)
      · rw [if_neg (by simp), Option.bind_some]
        dsimp only
        rw [ga_S (goodP_len h1) hs h2 h3]
        unfold gaL gaC
        cases gaFold l g <;> rfl
      · rfl

def agB (l : TX) (g : GR) : Bool := ghOk l g && (ghC l g == 0)
def agR (l : TX) (g : GR) : TX := bif agB l g then patchR l (ghR l g) else []
def agC (l : TX) (g : GR) : Int := bif agB l g then (bif patchOk l (ghR l g) then 0 else 2) else ghC l g

theorem ghC_nonneg (l : TX) (g : GR) : 0 ≤ ghC l g := by
  unfold ghC gaC
  cases ghOk l g
  · simp
  · cases g.any (farG l)
    · cases gaFold l g <;> simp
    · simp

theorem apply_I {l : TX} {g : GR} (hl : Sm l) (hs : SmG g) : f_I_ApplyGroups l g = some ((agR l g, agC l g, ghOk l g, ()), ()) := by
  unfold f_I_ApplyGroups agR agC agB
  rw [groupHunks_I hl hs, Option.bind_some]
  dsimp only
  cases h1 : ghOk l g
  · rfl
  · cases h2 : ghC l g == 0
    · rfl
    · simp only [Bool.not_true, cond_false, Option.bind_some, Bool.and_true, cond_true]
      rw [patch_I hl (ghR_sm l g hl hs), Option.bind_some]
      dsimp only
      cases h3 : patchOk l (ghR l g)
      · unfold patchR; rw [h3]; rfl
      · rfl

theorem apply_S {l : TX} {g : GR} (hl : Sm l) (hs : SmG g) : f_S_ApplyGroups l g = some ((agR l g, agC l g, ghOk l g, ()), ()) := by
  have h0 := ghC_nonneg l g
  unfold f_S_ApplyGroups agR agC agB
  rw [groupHunks_S hl hs, Option.bind_some]
  dsimp only
  cases h1 : ghOk l g
  · rfl
  · have hq : decide (ghC l g > 0) = !(ghC l g == 0) := by
      rw [Bool.eq_iff_iff]
      simp only [decide_eq_true_eq, Bool.not_eq_true', beq_eq_false_iff_ne]
      omega
    rw [hq]
    cases h2 : ghC l g == 0
    · rfl
    · simp only [Bool.not_true, cond_false, Option.bind_some, Bool.and_true, cond_true]
      rw [patch_S hl (ghR_sm l g hl hs), Option.bind_some]
      dsimp only
      cases h3 : patchOk l (ghR l g)
      · unfold patchR; rw [h3]; rfl
      · rfl
end R
