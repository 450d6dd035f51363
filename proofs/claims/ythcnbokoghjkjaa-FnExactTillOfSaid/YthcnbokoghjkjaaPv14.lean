/- A line's places from a version on. -/
import Derived.Test.YthcnbokoghjkjaaPv13
open Go Go.Dn
namespace R
set_option linter.unusedVariables false
set_option linter.unusedSectionVars false

def trF (v : List TXT) : Nat → Nat → Int → List Int → List Int
  | 0, _, _, out => out
  | f + 1, n, k, out => bif decide ((matesP (v.getD n []) (v.getD (n + 1) [])).getD k.toNat 0 < 0) then out
      else trF v f (n + 1) ((matesP (v.getD n []) (v.getD (n + 1) [])).getD k.toNat 0) (out ++ [(matesP (v.getD n []) (v.getD (n + 1) [])).getD k.toNat 0])

theorem trF_len (v : List TXT) : ∀ (f n : Nat) (k : Int) (out : List Int), (trF v f n k out).length ≤ out.length + f
  | 0, _, _, out => Nat.le_refl _
  | f + 1, n, k, out => by
    unfold trF
    cases decide ((matesP (v.getD n []) (v.getD (n + 1) [])).getD k.toNat 0 < 0) with
    | true => rw [cond_true]; omega
    | false => rw [cond_false]; refine Nat.le_trans (trF_len v f _ _ _) (by simp; omega)

section
variable {v : List TXT} (h : versP v = true)
include h

theorem tr_I : ∀ (f n : Nat) (k : Int) (out : List Int), n + f + 1 = v.length → 0 ≤ k → k < ((v.getD n []).length : Int) → out.length + f ≤ 100 → w_I_trace_2 (v, (n : Int), k, out, ()) = some (trF v f n k out, ())
  | 0, n, k, out, hn, hk0, hk1, ho => by
    obtain ⟨v1, v2, v3⟩ := vers_at h
    refine fix_end (B := fun d => b_I_trace_2 d.1 d.2.1 d.2.2.1 d.2.2.2.1) ?_
    show b_I_trace_2 v n k out = _
    unfold b_I_trace_2
    rw [wrap64 (by omega) (by omega), decide_eq_false (by omega : ¬ ((n : Int) + 1 < (v.length : Int))), cond_false]
    rfl
  | f + 1, n, k, out, hn, hk0, hk1, ho => by
    obtain ⟨v1, v2, v3⟩ := vers_at h
    have ha := v3 n (by omega)
    have hb := v3 (n + 1) (by omega)
    obtain ⟨m, rfl⟩ := Int.eq_ofNat_of_zero_le hk0
    have hm : m < (v.getD n []).length := by omega
    have hat := matesP_at (b := v.getD (n + 1) []) hm (d := 0)
    have w1 : IntKind.wrap .i64 ((n : Int) + 1) = ((n + 1 : Nat) : Int) := by rw [wrap64 (by omega) (by omega)]; omega
    have e : b_I_trace_2 v n (m : Int) out = bif decide ((matesP (v.getD n []) (v.getD (n + 1) [])).getD m 0 < 0) then some (.inr (out, ())) else
        some (.inl (v, ((n + 1 : Nat) : Int), (matesP (v.getD n []) (v.getD (n + 1) [])).getD m 0, out ++ [(matesP (v.getD n []) (v.getD (n + 1) [])).getD m 0], ())) := by
      unfold b_I_trace_2
      rw [w1, decide_eq_true (by omega : (((n + 1 : Nat) : Int) < (v.length : Int))), cond_true, inB_lt (by omega), cond_true, inB_lt (by omega), cond_true, toNat_cast, toNat_cast, mates_I (by omega) (by omega), Option.bind_some]
      dsimp only
      rw [inB_lt (by rw [matesP_len]; exact hm), cond_true, toNat_cast, roomB_ok (by simp; omega), cond_true]
    unfold trF
    rw [toNat_cast]
    cases hd : decide ((matesP (v.getD n []) (v.getD (n + 1) [])).getD m 0 < 0) with
    | true =>
      rw [hd] at e
      exact fix_end (B := fun d => b_I_trace_2 d.1 d.2.1 d.2.2.1 d.2.2.2.1) e
    | false =>
      rw [hd] at e
      have hd := of_decide_eq_false hd
      refine Eq.trans (fix_go (B := fun d => b_I_trace_2 d.1 d.2.1 d.2.2.1 d.2.2.2.1) e) ?_
      exact tr_I f (n + 1) _ _ (by omega) (by omega) (by omega) (by simp; omega)
end
end R
