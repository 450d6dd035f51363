/- The text at a place of a series: both sides tell the same. -/
import Derived.Test.YthcnbokoghjkjaaPs5
open Go Go.Dn
namespace R
set_option linter.unusedVariables false

theorem patchR_of {l : TX} {h : HK} (hp : patchOk l h = true) : patchR l h = patchL l h ∧ goodP l = true ∧ hunksP (l.length : Int) h = true ∧ goodP (patchL l h) = true := by
  unfold patchR
  rw [hp]
  unfold patchOk at hp
  simp only [Bool.and_eq_true] at hp
  exact ⟨rfl, hp.1, hp.2.1, hp.2.2⟩

/-- The text behind so many steps. -/
theorem scan_at : ∀ {hs : List HK} {l : TX} {ts : List TX}, scanP l hs = some ts → ∀ n, n ≤ hs.length → ∃ t, ts[n]? = some t ∧ (goodP l = true → goodP t = true)
  | [], l, ts, h, n, hn => by
    obtain rfl := Option.some.inj h
    have : n = 0 := by simpa using hn
    subst this
    exact ⟨l, rfl, fun h => h⟩
  | x :: hs, l, ts, h, n, hn => by
    simp only [scanP] at h
    split at h
    · rename_i hp
      rw [Option.map_eq_some_iff] at h
      obtain ⟨us, h1, rfl⟩ := h
      cases n with
      | zero => exact ⟨l, rfl, fun h => h⟩
      | succ n =>
        obtain ⟨t, h2, h3⟩ := scan_at h1 n (by simpa using hn)
        obtain ⟨e, _, _, g⟩ := patchR_of hp
        exact ⟨t, by simpa using h2, fun _ => h3 (by rw [e]; exact g)⟩
    · cases h

theorem at_loop {all : List HK} (hlen : all.length ≤ 4611686018427387904) : ∀ (rest : List HK) (i : Nat) (l : TX) (ts : List TX), all.drop i = rest → scanP l rest = some ts → Sm l → (∀ h ∈ rest, SmH h) →
    ∃ t, w_S_l13At_3 (l, all, (all.length : Int), (i : Int), ()) = some (t, ()) ∧ ts[rest.length]? = some t
  | [], i, l, ts, hd, h, hl, hh => by
    obtain rfl := Option.some.inj h
    have hi : all.length ≤ i := by
      have := congrArg List.length hd
      simp at this
      omega
    refine ⟨l, ?_, rfl⟩
    refine fix_end (B := fun d => b_S_l13At_3 d.1 d.2.1 d.2.2.1 d.2.2.2.1) ?_
    show b_S_l13At_3 l all all.length i = _
    unfold b_S_l13At_3
    rw [decide_eq_false (by omega : ¬ ((i : Int) < (all.length : Int))), cond_false]
  | x :: rest, i, l, ts, hd, h, hl, hh => by
    have hi : i < all.length := by
      have := congrArg List.length hd
      simp at this
      omega
    have hx : all[i] = x := by
      have := congrArg (fun l => l[0]?) hd
      simpa [hi] using this
    simp only [scanP] at h
    split at h
    · rename_i hp
      rw [Option.map_eq_some_iff] at h
      obtain ⟨us, h1, rfl⟩ := h
      obtain ⟨e, g1, g2, g3⟩ := patchR_of hp
      have hxs := hh x (List.mem_cons_self ..)
      obtain ⟨t, h2, h3⟩ := at_loop hlen rest (i + 1) (patchR l x) us (by rw [← List.tail_drop, hd]; rfl) h1 (patchR_sm hl hxs) (fun y hy => hh y (List.mem_cons_of_mem _ hy))
      refine ⟨t, ?_, by simpa using h3⟩
      refine Eq.trans (fix_go (B := fun d => b_S_l13At_3 d.1 d.2.1 d.2.2.1 d.2.2.2.1) (t := (patchR l x, all, (all.length : Int), ((i + 1 : Nat) : Int), ())) ?_) h2
      show b_S_l13At_3 l all all.length i = _
      unfold b_S_l13At_3
      rw [decide_eq_true (by omega : (i : Int) < (all.length : Int)), cond_true, inB_lt hi, cond_true, toNat_cast, getD_of hi, hx, patched_S hl hxs g2, Option.bind_some, e, wrap64 (by omega) (by omega)]
      simp
    · cases h

theorem scan_take : ∀ {hs : List HK} {l : TX} {ts : List TX}, scanP l hs = some ts → ∀ n, n ≤ hs.length → scanP l (hs.take n) = some (ts.take (n + 1))
  | [], l, ts, h, n, hn => by
    obtain rfl := Option.some.inj h
    simp [scanP]
  | x :: hs, l, ts, h, n, hn => by
    cases n with
    | zero =>
      simp only [scanP] at h
      split at h
      · rw [Option.map_eq_some_iff] at h
        obtain ⟨us, h1, rfl⟩ := h
        simp [scanP]
      · cases h
    | succ n =>
      simp only [scanP] at h
      split at h
      · rename_i hp
        rw [Option.map_eq_some_iff] at h
        obtain ⟨us, h1, rfl⟩ := h
        simp only [List.take_succ_cons, scanP]
        rw [if_pos hp, scan_take h1 n (by simpa using hn)]
        rfl
      · cases h

def textOk (s : TX × List HK) (n : Int) : Bool := seriesP s && inI n 0 (s.2.length : Int)
def textR (s : TX × List HK) (n : Int) : TX := bif textOk s n then (textsR s).getD n.toNat [] else []

theorem series_facts {s : TX × List HK} (h : seriesP s = true) : goodP s.1 = true ∧ s.2.length < 8 ∧ ∃ ts, scanP s.1 s.2 = some ts ∧ textsR s = ts ∧ ts.length = s.2.length + 1 := by
  have h' := h
  unfold seriesP at h
  simp only [Bool.and_eq_true, decide_eq_true_eq] at h
  obtain ⟨h1, h2, h3⟩ := h
  obtain ⟨ts, hts⟩ := Option.isSome_iff_exists.1 h3
  refine ⟨h1, h2, ts, hts, ?_, scan_len hts⟩
  unfold textsR
  rw [h', hts]
  rfl

theorem textAt_I {s : PV Y_impl_Series} {n : Int} (hs : SmSer s) : f_I_TextAt s n = some ((textR (s.1, s.2.1) n, textOk (s.1, s.2.1) n, ()), ()) := by
  unfold f_I_TextAt textR textOk
  rw [texts_I hs, Option.bind_some]
  dsimp only
  cases h : seriesP (s.1, s.2.1)
  · rfl
  · obtain ⟨_, h2, ts, hts, e, hl⟩ := series_facts h
    rw [Bool.not_true, cond_false, in_I, Option.bind_some, Option.bind_some]
    dsimp only
    unfold inI
    by_cases hn : 0 ≤ n ∧ n ≤ (List.length s.2.1 : Int)
    · have hl' : ts.length = List.length s.2.1 + 1 := hl
      rw [decide_eq_true (by omega : n ≥ 0), decide_eq_true (by omega : n ≤ (List.length s.2.1 : Int)), e]
      rw [show inB n ts.length = true from by unfold inB; simp; omega]
      rfl
    · have : (decide (n ≥ 0) && decide (n ≤ (List.length s.2.1 : Int))) = false := by
        simp only [Bool.and_eq_false_iff, decide_eq_false_iff_not]
        omega
      rw [this]
      rfl

theorem own_S (l : List (List UInt8)) (h : l.length ≤ 1099511627776) : f_S_l1OwnT l = some ((l, ()), ()) := by
  unfold f_S_l1OwnT
  rw [roomB_ok (by simpa using h)]
  rfl

theorem textAt_S {s : PV Y_impl_Series} {n : Int} (hs : SmSer s) : f_S_TextAt s n = some ((textR (s.1, s.2.1) n, textOk (s.1, s.2.1) n, ()), ()) := by
  unfold f_S_TextAt textR textOk
  rw [goodSeries_S hs, Option.bind_some]
  dsimp only
  cases h : seriesP (s.1, s.2.1)
  · rfl
  · obtain ⟨hg, h2, ts, hts, e, hl⟩ := series_facts h
    rw [Bool.not_true, cond_false, in_S, Option.bind_some, Option.bind_some]
    dsimp only
    unfold inI
    by_cases hn : 0 ≤ n ∧ n ≤ (List.length s.2.1 : Int)
    · rw [decide_eq_true (by omega : n ≥ 0), decide_eq_true (by omega : n ≤ (List.length s.2.1 : Int)), e]
      obtain ⟨k, rfl⟩ := Int.eq_ofNat_of_zero_le hn.1
      have hk : k ≤ List.length s.2.1 := by omega
      have hcut : cutL 0 (k : Int) s.2.1 = List.take k s.2.1 := by unfold cutL; simp
      have hgl := goodP_len hg
      obtain ⟨t, h3, h4⟩ := at_loop (all := List.take k s.2.1) (by have := hs.2.1; simp; omega) (List.take k s.2.1) 0 s.1 _ (by simp) (scan_take hts k hk) hs.1 (fun h hh => hs.2.2 h (List.mem_of_mem_take hh))
      unfold f_S_l13At
      rw [own_S s.1 (by have : List.length s.1 ≤ 40 := hgl; omega), Option.bind_some]
      dsimp only
      rw [cutB_ok (Int.le_refl 0) hn.1 (by omega), hcut]
      simp only [Bool.and_true, Bool.not_true, cond_false, cond_true]
      rw [show w_S_l13At_3 (s.1, List.take k s.2.1, (List.length (List.take k s.2.1) : Int), 0, ()) = _ from h3]
      have hl' : ts.length = List.length s.2.1 + 1 := hl
      have ht : ts.getD k [] = t := by
        rw [List.length_take, Nat.min_eq_left hk, List.getElem?_take, if_pos (Nat.lt_succ_self k)] at h4
        rw [List.getD_eq_getElem?_getD, h4]
        rfl
      rw [toNat_cast, ht]
      rfl
    · have : (decide (n ≥ 0) && decide (n ≤ (List.length s.2.1 : Int))) = false := by
        simp only [Bool.and_eq_false_iff, decide_eq_false_iff_not]
        omega
      rw [this]
      rfl

theorem goodP_tot {l : TX} (h : goodP l = true) : tot S_string l ≤ 1240 := by
  have hl := goodP_len h
  unfold goodP linesP at h
  simp only [Bool.and_eq_true, decide_eq_true_eq, Bool.not_eq_true'] at h
  have h2 : ∀ s ∈ l, tot .str s ≤ 30 := fun s hs => by
    rw [tot_str]
    have := List.any_eq_false.1 h.1.2 s hs
    exact (line_len (by simpa using this)).2
  rw [show tot S_string l = l.length + (l.map (tot .str)).sum from tot_slice]
  have h3 : ∀ (l : TX), (∀ s ∈ l, tot .str s ≤ 30) → (l.map (tot .str)).sum ≤ 30 * l.length := by
    intro l
    induction l with
    | nil => intro _; simp
    | cons s l ih =>
      intro h
      have h4 := h s (List.mem_cons_self ..)
      have h5 := ih fun y hy => h y (List.mem_cons_of_mem _ hy)
      simp only [List.map_cons, List.sum_cons, List.length_cons]
      rw [Nat.mul_add]
      omega
  have := h3 l h2
  omega

theorem textR_tot (s : TX × List HK) (n : Int) : tot S_string (textR s n) ≤ 1240 := by
  unfold textR textOk
  cases h : seriesP s
  · exact Nat.zero_le _
  · obtain ⟨hg, h2, ts, hts, e, hl⟩ := series_facts h
    unfold inI
    by_cases hn : 0 ≤ n ∧ n ≤ (s.2.length : Int)
    · rw [decide_eq_true (by omega : n ≥ 0), decide_eq_true (by omega : n ≤ (s.2.length : Int)), e]
      obtain ⟨t, h3, h4⟩ := scan_at hts n.toNat (by omega)
      simp only [Bool.and_true, cond_true]
      rw [List.getD_eq_getElem?_getD, h3]
      exact goodP_tot (h4 hg)
    · have : (decide (n ≥ 0) && decide (n ≤ (s.2.length : Int))) = false := by
        simp only [Bool.and_eq_false_iff, decide_eq_false_iff_not]
        omega
      rw [this]
      exact Nat.zero_le _

theorem law_TextAt (t0 : PV Y_laws_Series) (t1 : PV (.int .i64)) (hw : WfV Y_laws_Series t0) (_ : WfV (.int .i64) t1) : f_L_FnExactTextAt t0 t1 = some ((true, ()), ()) := by
  unfold f_L_FnExactTextAt
  rw [p_L_szSeries t0 1048576 (by omega) (by omega) hw, Option.bind_some]
  by_cases hs : ((tot Y_laws_Series t0 : Nat) : Int) ≤ 1048576
  · rw [szR_pos hs]
    dsimp only
    have hs' : tot Y_laws_Series t0 ≤ 1048576 := by omega
    have hb : tot Y_impl_Series t0 ≤ 1048576 := hs'
    have hS := SmSer.of (s := t0) hb (by omega)
    have hR := textR_tot (t0.1, t0.2.1) t1
    have c1 : cn Y_impl_Series t0 ≤ 0 + 5 * tot Y_impl_Series t0 := cn_tot_le (by decide) (by decide)
    have c2 : cn S_string (textR (t0.1, t0.2.1) t1) ≤ 0 + 1 * tot S_string (textR (t0.1, t0.2.1) t1) := cn_tot_le (by decide) (by decide)
    have m0 := mk_cn tx S_string t0.1 1
    have m1 := mk_cn tx S_S_impl_Hunk t0.2.1 (mk tx S_string t0.1 1).2
    have m2 := mk_cn tx S_string (textR (t0.1, t0.2.1) t1) 1
    rw [decide_eq_false (by omega : ¬ ((1048576 : Int) - ((tot Y_laws_Series t0 : Nat) : Int) < 0)), cond_false]
    simp only [p_L_toSeries t0 hs', textAt_S hS, textAt_I hS, Option.bind_some, p_L_eqStringS (textR (t0.1, t0.2.1) t1) (by omega), p_L_eqSeries t0 (by omega), p_L_markSeries t0 1 (by omega) (by omega) (by omega), p_L_markStringS (textR (t0.1, t0.2.1) t1) 1 (by omega) (by omega) (by omega),
      p_L_heldStringS (textR (t0.1, t0.2.1) t1) 1 (by omega) (by omega) (by omega), decide_eq_false (by omega : ¬ (mk tx S_S_impl_Hunk t0.2.1 (mk tx S_string t0.1 1).2).2 < 0), decide_eq_false (by omega : ¬ (mk tx S_string (textR (t0.1, t0.2.1) t1) 1).2 < 0), beq_self_eq_true, Bool.not_true, cond_false]
  · rw [szR_neg hs]; rfl
end R
