/- The program's pairs and the places in the next version: as the reference's. -/
import Derived.Test.YthcnbokoghjkjaaPv11
open Go Go.Dn
namespace R
set_option linter.unusedVariables false

abbrev LL := List (List Int)
def encL (x : Nat × Nat) : List Int := [(x.1 : Int), (x.2 : Int)]

set_option linter.unusedSectionVars false
section
variable {a b : TXT} (ha : a.length ≤ 1048576) (hb : b.length ≤ 1048576)
include ha hb

theorem cl_step {i q n : Nat} (hi : i < a.length) (hq : q < b.length) (j0 : Nat) (hn : n ≤ 1048576) (out : LL) (ho : out.length + 1 ≤ 1099511627776) :
    b_I_commonLines_7 a b (tabT a b) out (j0 : Int) ((n + 1 : Nat) : Int) (i : Int) (q : Int) (a.length : Int) (i : Int) =
      if a[i] = b[q] ∧ T a b (i + 1) (q + 1) = n then some (.inr (a, b, tabT a b, out ++ [encL (i, q)], ((q + 1 : Nat) : Int), (n : Int), (a.length : Int), (i : Int), ()))
      else some (.inl (a, b, tabT a b, out, (j0 : Int), ((n + 1 : Nat) : Int), (i : Int), ((q + 1 : Nat) : Int), (a.length : Int), (i : Int), ())) := by
  unfold b_I_commonLines_7
  have w1 : IntKind.wrap .i64 ((i : Int) + 1) = ((i + 1 : Nat) : Int) := by rw [wrap64 (by omega) (by omega)]; omega
  have w2 : IntKind.wrap .i64 ((q : Int) + 1) = ((q + 1 : Nat) : Int) := by rw [wrap64 (by omega) (by omega)]; omega
  have w3 : IntKind.wrap .i64 (((n + 1 : Nat) : Int) - 1) = (n : Int) := by rw [wrap64 (by omega) (by omega)]; omega
  have r1 : roomB (out.length + 1) = true := roomB_ok ho
  rw [decide_eq_true (by omega : (q : Int) < (b.length : Int)), cond_true, decide_eq_true (by omega : ((n + 1 : Nat) : Int) > 0), cond_true, inB_lt hi, cond_true, inB_lt hq, cond_true, w1, w2, w3,
    inB_lt (by rw [tabT_len]; omega : i + 1 < (tabT a b).length), cond_true, toNat_cast, toNat_cast, toNat_cast, toNat_cast, tabT_at (by omega : i + 1 ≤ a.length), inB_lt (by rw [rowT_len]; omega), cond_true, rowT_get (by omega), getD_of hi, getD_of hq]
  by_cases hc : a[i] = b[q]
  · rw [beq_iff_eq.2 hc, cond_true, Option.bind_some]
    dsimp only
    by_cases ht : T a b (i + 1) (q + 1) = n
    · rw [if_pos ⟨hc, ht⟩, ht, beq_self_eq_true, cond_true, List.length_singleton, r1, cond_true, w2, w3]; rfl
    · rw [if_neg (fun h => ht h.2), beq_eq_false_iff_ne.2 (fun h => ht (by have h' : ((T a b (i + 1) (q + 1) : Nat) : Int) = (n : Int) := h; omega)), cond_false, w2]
  · rw [beq_eq_false_iff_ne.2 hc, cond_false, Option.bind_some]
    dsimp only
    rw [cond_false, w2, if_neg (fun h => hc h.1)]

theorem cl_end {i n : Nat} (j0 : Nat) (out : LL) (x : Int) (hx : x = b.length ∨ n = 0) :
    b_I_commonLines_7 a b (tabT a b) out (j0 : Int) (n : Int) (i : Int) x (a.length : Int) (i : Int) = some (.inr (a, b, tabT a b, out, (j0 : Int), (n : Int), (a.length : Int), (i : Int), ())) := by
  unfold b_I_commonLines_7
  by_cases h : x < (b.length : Int)
  · rw [decide_eq_true h, cond_true, decide_eq_false (by omega : ¬ ((n : Int) > 0)), cond_false]
  · rw [decide_eq_false h, cond_false]

noncomputable abbrev B7 : List (List UInt8) × List (List UInt8) × LL × LL × Int × Int × Int × Int × Int × Int × Unit → Option ((List (List UInt8) × List (List UInt8) × LL × LL × Int × Int × Int × Int × Int × Int × Unit) ⊕ (List (List UInt8) × List (List UInt8) × LL × LL × Int × Int × Int × Int × Unit)) :=
  fun d => b_I_commonLines_7 d.1 d.2.1 d.2.2.1 d.2.2.2.1 d.2.2.2.2.1 d.2.2.2.2.2.1 d.2.2.2.2.2.2.1 d.2.2.2.2.2.2.2.1 d.2.2.2.2.2.2.2.2.1 d.2.2.2.2.2.2.2.2.2.1

/-- A round without a pair. -/
theorem cl_none {i n : Nat} (hi : i < a.length) {j0 : Nat} (hj : j0 ≤ b.length) (hn : n ≤ 1048576) (out : LL) (ho : out.length + n ≤ 1099511627776)
    (h : n = 0 ∨ ∀ q (hq : q < b.length), j0 ≤ q → ¬ (a[i] = b[q] ∧ T a b (i + 1) (q + 1) + 1 = n)) :
    w_I_commonLines_7 (a, b, tabT a b, out, (j0 : Int), (n : Int), (i : Int), (j0 : Int), (a.length : Int), (i : Int), ()) = some (a, b, tabT a b, out, (j0 : Int), (n : Int), (a.length : Int), (i : Int), ()) := by
  cases n with
  | zero => exact fix_end (B := B7) (cl_end ha hb j0 out _ (.inr rfl))
  | succ n =>
    have h := h.resolve_left (by omega)
    have := fix_iter (B := B7) (fun q => (a, b, tabT a b, out, (j0 : Int), ((n + 1 : Nat) : Int), (i : Int), (q : Int), (a.length : Int), (i : Int), ())) (b.length - j0) j0 (fun q h1 h2 => by
      show b_I_commonLines_7 a b (tabT a b) out (j0 : Int) ((n + 1 : Nat) : Int) (i : Int) (q : Int) (a.length : Int) (i : Int) = _
      rw [cl_step ha hb hi (by omega) j0 (by omega) out (by omega), if_neg (fun hc => h q (by omega) h1 ⟨hc.1, by omega⟩)])
    refine Eq.trans this ?_
    exact fix_end (B := B7) (cl_end ha hb j0 out _ (.inl (by simp only []; omega)))

/-- A round that finds one. -/
theorem cl_one {i n : Nat} (hi : i < a.length) {j0 q1 : Nat} (hj : j0 ≤ q1) (hq1 : q1 < b.length) (hn : n ≤ 1048576) (out : LL) (ho : out.length + 1 ≤ 1099511627776)
    (h : ∀ q (hq : q < b.length), j0 ≤ q → q < q1 → ¬ (a[i] = b[q] ∧ T a b (i + 1) (q + 1) = n)) (hc : a[i] = b[q1] ∧ T a b (i + 1) (q1 + 1) = n) :
    w_I_commonLines_7 (a, b, tabT a b, out, (j0 : Int), ((n + 1 : Nat) : Int), (i : Int), (j0 : Int), (a.length : Int), (i : Int), ()) = some (a, b, tabT a b, out ++ [encL (i, q1)], ((q1 + 1 : Nat) : Int), (n : Int), (a.length : Int), (i : Int), ()) := by
  have := fix_iter (B := B7) (fun q => (a, b, tabT a b, out, (j0 : Int), ((n + 1 : Nat) : Int), (i : Int), (q : Int), (a.length : Int), (i : Int), ())) (q1 - j0) j0 (fun q h1 h2 => by
    show b_I_commonLines_7 a b (tabT a b) out (j0 : Int) ((n + 1 : Nat) : Int) (i : Int) (q : Int) (a.length : Int) (i : Int) = _
    rw [cl_step ha hb hi (by omega) j0 hn out ho, if_neg (h q (by omega) h1 (by omega))])
  refine Eq.trans this ?_
  refine fix_end (B := B7) ?_
  show b_I_commonLines_7 a b (tabT a b) out (j0 : Int) ((n + 1 : Nat) : Int) (i : Int) ((j0 + (q1 - j0) : Nat) : Int) (a.length : Int) (i : Int) = _
  rw [show j0 + (q1 - j0) = q1 from by omega, cl_step ha hb hi hq1 j0 hn out ho, if_pos hc]

theorem cl_loop : ∀ (k i i0 j0 n : Nat) (out : LL), i + k = a.length → i0 ≤ i → j0 ≤ b.length → T a b i0 j0 = n → (n = 0 ∨ i ≤ (nextPr a b i0 j0).1) → out.length + n ≤ 1099511627776 →
    w_I_commonLines_4 (a, b, tabT a b, out, (j0 : Int), (n : Int), (a.length : Int), (i : Int), ()) = some (out ++ (pairsF a b n i0 j0).map encL, ())
  | 0, i, i0, j0, n, out, hk, h0, hj, hT, hnx, ho => by
    have hn0 : n = 0 := by
      rcases hnx with h | h
      · exact h
      · rcases Nat.eq_zero_or_pos n with h' | h'
        · exact h'
        · have := next_spec (by omega : i0 ≤ a.length) hj (by omega); omega
    subst hn0
    refine fix_end (B := fun d => b_I_commonLines_4 d.1 d.2.1 d.2.2.1 d.2.2.2.1 d.2.2.2.2.1 d.2.2.2.2.2.1 d.2.2.2.2.2.2.1 d.2.2.2.2.2.2.2.1) ?_
    show b_I_commonLines_4 a b (tabT a b) out (j0 : Int) ((0 : Nat) : Int) (a.length : Int) (i : Int) = _
    unfold b_I_commonLines_4
    rw [decide_eq_false (by omega : ¬ ((i : Int) < (a.length : Int))), cond_false]
    simp [pairsF]
  | k + 1, i, i0, j0, n, out, hk, h0, hj, hT, hnx, ho => by
    have hi : i < a.length := by omega
    have w1 : IntKind.wrap .i64 ((i : Int) + 1) = ((i + 1 : Nat) : Int) := by rw [wrap64 (by omega) (by omega)]; omega
    have hTs := T_small (b := b) ha i0 j0
    have go : ∀ {out' : LL} {j' n' : Nat}, w_I_commonLines_7 (a, b, tabT a b, out, (j0 : Int), (n : Int), (i : Int), (j0 : Int), (a.length : Int), (i : Int), ()) = some (a, b, tabT a b, out', (j' : Int), (n' : Int), (a.length : Int), (i : Int), ()) →
        w_I_commonLines_4 (a, b, tabT a b, out, (j0 : Int), (n : Int), (a.length : Int), (i : Int), ()) = w_I_commonLines_4 (a, b, tabT a b, out', (j' : Int), (n' : Int), (a.length : Int), ((i + 1 : Nat) : Int), ()) := by
      intro out' j' n' h
      refine fix_go (B := fun d => b_I_commonLines_4 d.1 d.2.1 d.2.2.1 d.2.2.2.1 d.2.2.2.2.1 d.2.2.2.2.2.1 d.2.2.2.2.2.2.1 d.2.2.2.2.2.2.2.1) ?_
      show b_I_commonLines_4 a b (tabT a b) out (j0 : Int) (n : Int) (a.length : Int) (i : Int) = _
      unfold b_I_commonLines_4
      rw [decide_eq_true (by omega : ((i : Int) < (a.length : Int))), cond_true, h, Option.bind_some]
      dsimp only
      rw [w1]
    cases n with
    | zero =>
      rw [go (cl_none ha hb hi hj (by omega) out ho (.inl rfl))]
      exact cl_loop k (i + 1) i0 j0 0 out (by omega) (by omega) hj hT (.inl rfl) ho
    | succ n =>
      obtain ⟨s1, s2, s3, s4, s5, s6, s7⟩ := next_spec (by omega : i0 ≤ a.length) hj (by omega : 0 < T a b i0 j0)
      have hle := hnx.resolve_left (by omega)
      have hcand : ∀ {p q : Nat} (hp : p < a.length) (hq : q < b.length), (a[p] = b[q] ∧ T a b (p + 1) (q + 1) = n) ↔ cand a b i0 j0 p q = true := fun hp hq => by
        rw [cand_of hp hq, hT]; exact ⟨fun h => ⟨h.1, by omega⟩, fun h => ⟨h.1, by omega⟩⟩
      rcases Nat.lt_or_ge i (nextPr a b i0 j0).1 with hlt | hge
      · rw [go (cl_none ha hb hi hj (by omega) out ho (.inr fun q hq hjq hc => by
          have := (hcand hi hq).1 ⟨hc.1, by omega⟩
          rw [s7 i q h0 hlt hjq hq] at this
          cases this))]
        exact cl_loop k (i + 1) i0 j0 (n + 1) out (by omega) (by omega) hj hT (.inr hlt) ho
      · have hip : i = (nextPr a b i0 j0).1 := by omega
        have hfound := (hcand s2 s4).2 s5
        have hfound' : a[i] = b[(nextPr a b i0 j0).2] ∧ T a b (i + 1) ((nextPr a b i0 j0).2 + 1) = n := by
          have e : ∀ {p : Nat} (hp : p < a.length) , i = p → (a[p] = b[(nextPr a b i0 j0).2] ∧ T a b (p + 1) ((nextPr a b i0 j0).2 + 1) = n) → (a[i] = b[(nextPr a b i0 j0).2] ∧ T a b (i + 1) ((nextPr a b i0 j0).2 + 1) = n) := by
            intro p hp h h'; subst h; exact h'
          exact e s2 hip hfound
        rw [go (cl_one ha hb hi s3 s4 (by omega) out (by omega) (fun q hq h1 h2 hc => by
          have h3 := (hcand hi hq).1 hc
          rw [hip, s6 q h1 h2] at h3
          cases h3) hfound')]
        have hT' := next_T (by omega : i0 ≤ a.length) hj hT
        rw [← hip] at hT'
        have := cl_loop k (i + 1) (i + 1) ((nextPr a b i0 j0).2 + 1) n (out ++ [encL (i, (nextPr a b i0 j0).2)]) (by omega) (Nat.le_refl _) (by omega) hT' (by
          rcases Nat.eq_zero_or_pos n with h' | h'
          · exact .inl h'
          · exact .inr (next_spec (by omega) (by omega) (by omega)).1) (by simp; omega)
        rw [this]
        have he : (nextPr a b i0 j0) = (i, (nextPr a b i0 j0).2) := by rw [hip]
        simp only [pairsF, List.map_cons, ← hip, List.append_assoc, List.singleton_append]
        rw [← he]

theorem clines_I : f_I_commonLines a b = some (((pairsP a b).map encL, ()), ()) := by
  unfold f_I_commonLines
  have h := T_small (b := b) ha 0 0
  rw [common_I ha hb, Option.bind_some]
  dsimp only
  rw [show inB 0 (tabT a b).length = true from inB_lt (i := 0) (by rw [tabT_len]; omega), cond_true, show ((0 : Int).toNat) = 0 from rfl, tabT_at (Nat.zero_le _), show inB 0 (rowT a b 0).length = true from inB_lt (i := 0) (by rw [rowT_len]; omega), cond_true, rowT_get (Nat.zero_le _)]
  have := cl_loop ha hb a.length 0 0 0 (T a b 0 0) [] (by omega) (Nat.le_refl _) (Nat.zero_le _) rfl (by
    rcases Nat.eq_zero_or_pos (T a b 0 0) with h' | h'
    · exact .inl h'
    · exact .inr (Nat.zero_le _)) (by simp; omega)
  rw [show w_I_commonLines_4 (a, b, tabT a b, [], 0, (T a b 0 0 : Int), (a.length : Int), 0, ()) = _ from this, Option.bind_some]
  rfl
end
end R
