/- Series: both sides test them alike. -/
import Derived.Test.YthcnbokoghjkjaaPs4
open Go Go.Dn
namespace R
set_option linter.unusedVariables false

abbrev TX := List (List UInt8)
abbrev HK := List (PV Y_impl_Hunk)

/-- The texts behind each step, the first one too. -/
def scanP : TX → List HK → Option (List TX)
  | l, [] => some [l]
  | l, h :: hs => if patchOk l h then (scanP (patchR l h) hs).map (l :: ·) else none
def seriesP (s : TX × List HK) : Bool := goodP s.1 && (decide (s.2.length < 8) && (scanP s.1 s.2).isSome)

theorem patchR_sm {l : TX} {h : HK} (hl : Sm l) (hh : SmH h) : Sm (patchR l h) := by
  unfold patchR patchOk
  cases goodP l
  · exact ⟨by simp, fun s hs => by cases hs⟩
  · cases hg : hunksP (l.length : Int) h
    · exact ⟨by simp, fun s hs => by cases hs⟩
    · cases goodP (patchL l h)
      · exact ⟨by simp, fun s hs => by cases hs⟩
      · exact (patched_I hl hh hg).2.1

def gI (out : List TX) (h : HK) : List TX ⊕ Unit := if patchOk (out.getD (out.length - 1) []) h then .inl (out ++ [patchR (out.getD (out.length - 1) []) h]) else .inr ()
def gS (l : TX) (h : HK) : TX ⊕ Unit := if patchOk l h then .inl (patchR l h) else .inr ()

theorem run_gI : ∀ (hs : List HK) (pre : List TX) (l : TX), run gI (pre ++ [l]) hs = match scanP l hs with | some ts => .inl (pre ++ ts) | none => .inr ()
  | [], pre, l => rfl
  | h :: hs, pre, l => by
    have e : (pre ++ [l]).getD ((pre ++ [l]).length - 1) [] = l := by simp [List.getD]
    simp only [run, scanP]
    unfold gI
    rw [e]
    cases patchOk l h
    · rfl
    · simp only [if_true]
      have := run_gI hs (pre ++ [l]) (patchR l h)
      unfold gI at this
      rw [this]
      cases scanP (patchR l h) hs <;> simp

theorem run_gS : ∀ (hs : List HK) (l : TX), (match run gS l hs with | .inl _ => true | .inr _ => false) = (scanP l hs).isSome
  | [], l => rfl
  | h :: hs, l => by
    simp only [run, scanP]
    unfold gS
    cases patchOk l h
    · rfl
    · simp only [if_true]
      have := run_gS hs (patchR l h)
      unfold gS at this
      rw [this]
      cases scanP (patchR l h) hs <;> simp

theorem scan_len : ∀ {hs : List HK} {l : TX} {ts : List TX}, scanP l hs = some ts → ts.length = hs.length + 1
  | [], l, ts, h => by obtain rfl := Option.some.inj h; rfl
  | x :: hs, l, ts, h => by
    simp only [scanP] at h
    split at h
    · rw [Option.map_eq_some_iff] at h
      obtain ⟨us, h1, rfl⟩ := h
      simp [scan_len h1]
    · cases h

/-- A series whose parts are small. -/
def SmSt (hs : List HK) : Prop := hs.length ≤ 4611686018427387904 ∧ ∀ h ∈ hs, SmH h
def SmSer (s : TX × List HK × Unit) : Prop := Sm s.1 ∧ SmSt s.2.1

theorem SmSer.of {s : PV Y_impl_Series} {n : Nat} (h : tot Y_impl_Series s ≤ n) (hn : n ≤ 4611686018427387904) : SmSer s := by
  have h' := h
  rw [show tot Y_impl_Series s = tot S_string s.1 + (tot S_S_impl_Hunk s.2.1 + 0) from rfl] at h'
  have e : tot S_S_impl_Hunk s.2.1 = List.length s.2.1 + (List.map (tot S_impl_Hunk) s.2.1).sum := tot_slice
  refine ⟨Sm.of (n := n) (by show tot S_string s.1 ≤ n; omega) hn, by show List.length s.2.1 ≤ _; omega, fun x hx => ?_⟩
  obtain ⟨i, hi, rfl⟩ := List.mem_iff_getElem.1 hx
  have := le_sum (l := List.map (tot S_impl_Hunk) s.2.1) (i := i) (by simpa using hi)
  rw [List.getElem_map] at this
  exact SmH.of (n := n) (by show tot S_impl_Hunk _ ≤ n; omega) hn

theorem texts_loop {f : TX} {hs : List HK} (hf : Sm f) (hh : SmSt hs) (hn : hs.length < 8) :
    w_I_Series_texts_5 ([f], hs, (hs.length : Int), 0, ()) = some (match scanP f hs with | some ts => .inl (ts, ()) | none => .inr ([], false, ())) := by
  have := (fix_run (B := fun d => b_I_Series_texts_5 d.1 d.2.1 d.2.2.1 d.2.2.2.1) hs gI (fun a i => (a, hs, (hs.length : Int), (i : Int), ())) (fun a => .inl (a, ())) (fun _ => .inr ([], false, ())) (fun i a => a.length = i + 1 ∧ ∀ t ∈ a, Sm t)
    (fun i hi a b hI hg => by
      have hsm : Sm (a.getD i []) := by rw [getD_of (by omega)]; exact hI.2 _ (List.getElem_mem _)
      have hhs := hh.2 _ (List.getElem_mem hi)
      unfold gI at hg
      rw [hI.1, Nat.add_sub_cancel] at hg
      split at hg
      · rename_i hp
        simp only [Sum.inl.injEq] at hg
        subst hg
        refine ⟨⟨by simp [hI.1], fun t ht => ?_⟩, ?_⟩
        · rcases List.mem_append.1 ht with ht | ht
          · exact hI.2 t ht
          · rw [List.mem_singleton.1 ht]; exact patchR_sm hsm hhs
        · show b_I_Series_texts_5 a hs hs.length i = _
          unfold b_I_Series_texts_5
          rw [decide_eq_true (by omega : (i : Int) < (hs.length : Int)), cond_true, inB_lt hi, cond_true, inB_lt (by omega), cond_true, toNat_cast, getD_of hi, patch_I hsm hhs, Option.bind_some]
          dsimp only
          rw [hp, Bool.not_true, cond_false, roomB_ok (by simp; omega), cond_true, wrap64 (by omega) (by omega)]
          simp
      · cases hg)
    (fun i hi a r hI hg => by
      have hsm : Sm (a.getD i []) := by rw [getD_of (by omega)]; exact hI.2 _ (List.getElem_mem _)
      have hhs := hh.2 _ (List.getElem_mem hi)
      unfold gI at hg
      rw [hI.1, Nat.add_sub_cancel] at hg
      split at hg
      · cases hg
      · rename_i hp
        show b_I_Series_texts_5 a hs hs.length i = _
        unfold b_I_Series_texts_5
        rw [decide_eq_true (by omega : (i : Int) < (hs.length : Int)), cond_true, inB_lt hi, cond_true, inB_lt (by omega), cond_true, toNat_cast, getD_of hi, patch_I hsm hhs, Option.bind_some]
        dsimp only
        rw [Bool.not_eq_true _ |>.mp hp]
        rfl)
    (fun a _ => by
      show b_I_Series_texts_5 a hs hs.length hs.length = _
      unfold b_I_Series_texts_5
      rw [decide_eq_false (Int.lt_irrefl _), cond_false]) [f] ⟨rfl, fun t ht => by rw [List.mem_singleton.1 ht]; exact hf⟩).1
  have e := run_gI hs [] f
  rw [List.nil_append] at e
  rw [e] at this
  refine Eq.trans (show w_I_Series_texts_5 ([f], hs, (hs.length : Int), 0, ()) = _ from this) ?_
  cases scanP f hs <;> rfl

theorem clone_str (l : TX) (h : l.length ≤ 1099511627776) : f_slices_Clone_string l = some ((l, ()), ()) := by
  unfold f_slices_Clone_string
  rw [roomB_ok (by simpa using h)]
  rfl

/-- The texts, and whether the series is good. -/
def textsR (s : TX × List HK) : List TX := bif seriesP s then (scanP s.1 s.2).getD [] else []

theorem texts_I {s : PV Y_impl_Series} (hs : SmSer s) : f_I_Series_texts s = some ((textsR (s.1, s.2.1), seriesP (s.1, s.2.1), ()), ()) := by
  obtain ⟨hf, hh⟩ := hs
  have hlen := hh.1
  unfold f_I_Series_texts textsR seriesP
  rw [goodLines_I s.1 hf, Option.bind_some]
  dsimp only
  cases hg : goodP s.1
  · rfl
  · have := goodP_len hg
    rw [Bool.not_true, cond_false, Option.bind_some]
    dsimp only
    by_cases hn : List.length s.2.1 < 8
    · rw [decide_eq_false (by omega : ¬ ((List.length s.2.1 : Int) ≥ 8)), cond_false, clone_str s.1 (by omega), Option.bind_some]
      dsimp only
      rw [show w_I_Series_texts_5 ([s.1], s.2.1, (List.length s.2.1 : Int), 0, ()) = _ from texts_loop hf hh hn, decide_eq_true hn]
      cases scanP s.1 s.2.1 <;> rfl
    · rw [decide_eq_true (by omega : (List.length s.2.1 : Int) ≥ 8), cond_true, decide_eq_false hn]
      rfl

theorem goodSeries_S {s : PV Y_impl_Series} (hs : SmSer s) : f_S_l13Good s = some ((seriesP (s.1, s.2.1), ()), ()) := by
  obtain ⟨hf, hh⟩ := hs
  have hlen := hh.1
  have := (fix_run (B := fun d => b_S_l13Good_3 d.1 d.2.1 d.2.2.1 d.2.2.2.1 d.2.2.2.2.1) s.2.1 gS (fun a i => (s, a, s.2.1, (List.length s.2.1 : Int), (i : Int), ())) (fun a => .inl (s, ())) (fun _ => .inr (false, ())) (fun i a => Sm a)
    (fun i hi a b hI hg => by
      have hhs := hh.2 _ (List.getElem_mem hi)
      unfold gS at hg
      split at hg
      · rename_i hp
        simp only [Sum.inl.injEq] at hg
        subst hg
        refine ⟨patchR_sm hI hhs, ?_⟩
        show b_S_l13Good_3 s a s.2.1 (List.length s.2.1) i = _
        unfold b_S_l13Good_3
        rw [decide_eq_true (by omega : (i : Int) < (List.length s.2.1 : Int)), cond_true, inB_lt hi, cond_true, toNat_cast, getD_of hi, patch_S hI hhs, Option.bind_some]
        dsimp only
        rw [hp, Bool.not_true, cond_false, wrap64 (by omega) (by omega)]
        simp
      · cases hg)
    (fun i hi a r hI hg => by
      have hhs := hh.2 _ (List.getElem_mem hi)
      unfold gS at hg
      split at hg
      · cases hg
      · rename_i hp
        show b_S_l13Good_3 s a s.2.1 (List.length s.2.1) i = _
        unfold b_S_l13Good_3
        rw [decide_eq_true (by omega : (i : Int) < (List.length s.2.1 : Int)), cond_true, inB_lt hi, cond_true, toNat_cast, getD_of hi, patch_S hI hhs, Option.bind_some]
        dsimp only
        rw [Bool.not_eq_true _ |>.mp hp]
        rfl)
    (fun a _ => by
      show b_S_l13Good_3 s a s.2.1 (List.length s.2.1) (List.length s.2.1) = _
      unfold b_S_l13Good_3
      rw [decide_eq_false (Int.lt_irrefl _), cond_false]) s.1 hf).1
  unfold f_S_l13Good seriesP
  rw [show w_S_l13Good_3 (s, s.1, s.2.1, (List.length s.2.1 : Int), 0, ()) = _ from this, ← run_gS]
  cases run gS s.1 s.2.1
  · rw [Option.bind_some]
    dsimp only
    rw [l1Good_S s.1 hf, Option.bind_some]
    dsimp only
    cases goodP s.1
    · rfl
    · rw [cond_true]
      simp
      omega
  · simp

end R
