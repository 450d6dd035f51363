/- The text of one half of a group: both sides write the same. -/
import Derived.Test.YtegfhigkmghmjaaDoorPg6
open Go Go.Dn
namespace R
set_option linter.unusedVariables false

def showL (sign line : List UInt8) : List UInt8 := bif endP line then sign ++ line else (sign ++ line) ++ [10, 92, 32, 110, 111, 110, 101, 10]
def signL (rows : RW) (c : Int) (k : Nat) : List UInt8 :=
  bif !(kd rows k == 1) && runA rows c k then [33, 32] else bif kd rows k == 2 then [45, 32] else bif kd rows k == 3 then [43, 32] else [32, 32]
def pieceL (rows : RW) (c : Int) (k : Nat) : List UInt8 := bif kd rows k == c then [] else showL (signL rows c k) (rows.getD k W0).2.1
def halfL (rows : RW) (c : Int) : Nat → List UInt8
  | 0 => []
  | k + 1 => halfL rows c k ++ pieceL rows c k

theorem show_I {sign line : List UInt8} (h1 : sign.length ≤ 100) (h2 : line.length ≤ 1048576) : f_I_shown sign line = some ((showL sign line, ()), ()) := by
  unfold f_I_shown showL
  rw [ends_I _ (by omega), Option.bind_some]
  dsimp only
  cases endP line
  · rw [cond_false, cond_false, decide_eq_true (by omega), cond_true, decide_eq_true (by simp; omega), cond_true, decide_eq_true (by simp; omega), cond_true]
    simp
  · rw [cond_true, cond_true, decide_eq_true (by omega), cond_true]
theorem show_S {sign line : List UInt8} (h1 : sign.length ≤ 100) (h2 : line.length ≤ 1048576) (h3 : 1 ≤ line.length) : f_S_l5Shown sign line = some ((showL sign line, ()), ()) := by
  unfold f_S_l5Shown showL
  rw [ends_S _ h3 (by omega), Option.bind_some]
  dsimp only
  cases endP line
  · rw [cond_false, cond_false, decide_eq_true (by omega), cond_true, decide_eq_true (by simp; omega), cond_true]
  · rw [cond_true, cond_true, decide_eq_true (by omega), cond_true]

/-- What good rows tell. -/
def RowsOk (rows : RW) : Prop := rows.length ≤ 80 ∧ ∀ k, k < rows.length → (kd rows k = 1 ∨ kd rows k = 2 ∨ kd rows k = 3) ∧ 1 ≤ List.length (rows.getD k W0).2.1 ∧ List.length (rows.getD k W0).2.1 ≤ 30

theorem sign_len (rows : RW) (c : Int) (k : Nat) : (signL rows c k).length = 2 := by
  unfold signL
  cases (!(kd rows k == 1) && runA rows c k) <;> cases (kd rows k == 2) <;> cases (kd rows k == 3) <;> rfl
theorem piece_len {rows : RW} {c : Int} (h : RowsOk rows) {k : Nat} (hk : k < rows.length) : (pieceL rows c k).length ≤ 40 := by
  obtain ⟨_, _, h3⟩ := h.2 k hk
  have := sign_len rows c k
  unfold pieceL showL
  cases (kd rows k == c)
  · rw [cond_false]
    cases endP (rows.getD k W0).2.1
    · rw [cond_false, List.length_append, List.length_append]; simp only [List.length_cons, List.length_nil]; omega
    · rw [cond_true, List.length_append]; omega
  · simp
theorem half_len {rows : RW} {c : Int} (h : RowsOk rows) : ∀ k, k ≤ rows.length → (halfL rows c k).length ≤ 40 * k
  | 0, _ => by simp [halfL]
  | k + 1, hk => by
    have h1 := half_len (c := c) h k (by omega)
    have h2 := piece_len (c := c) h (by omega : k < rows.length)
    simp only [halfL, List.length_append]
    omega

theorem sign_I2 {rows : RW} {k : Nat} (h : kd rows k = 1 ∨ kd rows k = 2 ∨ kd rows k = 3) : ∃ s : List UInt8, f_I_Row_sign (rows.getD k W0) = some ((s, ()), ()) ∧ s ++ [32] = bif kd rows k == 2 then [45, 32] else bif kd rows k == 3 then [43, 32] else [32, 32] := by
  unfold f_I_Row_sign
  unfold kd at *
  rcases h with h | h | h
  · rw [h]; exact ⟨[32], rfl, rfl⟩
  · rw [h]; exact ⟨[45], rfl, rfl⟩
  · rw [h]; exact ⟨[43], rfl, rfl⟩

theorem half_loop_I {g : PV Y_impl_Group} {rows : RW} (hg : g.2.2.1 = rows) (h : RowsOk rows) (c : Int) : f_I_Group_half g c = some ((halfL rows c rows.length, ()), ()) := by
  have hl := h.1
  have := fix_all (B := fun d => b_I_Group_half_3 d.1 d.2.1 d.2.2.1 d.2.2.2.1 d.2.2.2.2.1 d.2.2.2.2.2.1) (fun i => (c, g, halfL rows c i, rows, (rows.length : Int), (i : Int), ())) rows.length (r := (halfL rows c rows.length, ()))
    (fun i hi' => by
      show b_I_Group_half_3 c g (halfL rows c i) rows rows.length i = _
      obtain ⟨k1, k2, k3⟩ := h.2 i hi'
      have hlen := half_len (c := c) h i (by omega)
      have hpl := piece_len (c := c) h hi'
      have e : IntKind.wrap .i64 ((i : Int) + 1) = ((i + 1 : Nat) : Int) := by rw [wrap64 (by omega) (by omega)]; omega
      have hsl := sign_len rows c i
      unfold b_I_Group_half_3
      rw [decide_eq_true (by omega : (i : Int) < (rows.length : Int)), cond_true, inB_lt hi', cond_true, toNat_cast, runHas_I hg (by omega) hi' c]
      simp only [halfL]
      have hp : pieceL rows c i = bif kd rows i == c then [] else showL (signL rows c i) (rows.getD i W0).2.1 := rfl
      have hkd : kd rows i = (rows.getD i W0).1 := rfl
      rw [← hkd]
      cases hc : (kd rows i == c)
      · rw [hc, cond_false] at hp
        rw [hp] at hpl ⊢
        have hs : signL rows c i = bif !(kd rows i == 1) && runA rows c i then [33, 32] else bif kd rows i == 2 then [45, 32] else bif kd rows i == 3 then [43, 32] else [32, 32] := rfl
        rw [cond_false, Option.bind_some]
        dsimp only
        have hb : ((bif (!(kd rows i == 1)) then some (c, g, halfL rows c i, rows.getD i W0, rows, (rows.length : Int), (i : Int), runA rows c i, ()) else some (c, g, halfL rows c i, rows.getD i W0, rows, (rows.length : Int), (i : Int), false, ())) :
            Option ((PV (.int .i64) × PV Y_impl_Group × PV .str × PV Y_impl_Row × PV S_impl_Row × PV (.int .i64) × PV (.int .i64) × PV .bool × Unit))) = some (c, g, halfL rows c i, rows.getD i W0, rows, (rows.length : Int), (i : Int), (!(kd rows i == 1) && runA rows c i), ()) := by
          cases (kd rows i == 1) <;> rfl
        rw [hb, Option.bind_some]
        dsimp only
        cases hr : (!(kd rows i == 1) && runA rows c i)
        · rw [hr, cond_false] at hs
          obtain ⟨s, s1, s2⟩ := sign_I2 k1
          rw [cond_false, s1, Option.bind_some]
          dsimp only
          have s3 : s ++ [32] = signL rows c i := s2.trans hs.symm
          have s4 : s.length + 1 = 2 := by rw [← hsl, ← s3]; simp
          rw [decide_eq_true (by simp; omega), cond_true, s3, show_I (by omega) (by omega), Option.bind_some]
          dsimp only
          rw [decide_eq_true (by omega), cond_true, Option.bind_some]
          dsimp only
          rw [e]
        · rw [hr, cond_true] at hs
          rw [cond_true, ← hs, show_I (by omega) (by omega), Option.bind_some]
          dsimp only
          rw [decide_eq_true (by omega), cond_true, Option.bind_some]
          dsimp only
          rw [e]
      · rw [hc, cond_true] at hp
        rw [hp, cond_true, Option.bind_some, List.append_nil]
        dsimp only
        rw [e])
    (by
      show b_I_Group_half_3 c g (halfL rows c rows.length) rows rows.length rows.length = _
      unfold b_I_Group_half_3
      rw [decide_eq_false (Int.lt_irrefl _), cond_false])
  unfold f_I_Group_half
  rw [hg, show w_I_Group_half_3 (c, g, [], rows, (rows.length : Int), 0, ()) = _ from this]
  rfl

theorem told_at {rows : RW} {c : Int} {k : Nat} (hk : k < rows.length) : (mkT rows.length (told rows c rows.length)).getD k false = (!(kd rows k == 1) && runA rows c k) := by
  rw [mkT_get hk]
  unfold told
  rw [decide_eq_true hk]
  rfl

theorem self_in {rows : RW} {k : Nat} (hk : k < rows.length) (h1 : (kd rows k == 1) = false) : runA rows (kd rows k) k = true := by
  obtain ⟨a1, a2, a3, a4⟩ := hi_spec (rows := rows) (k := k) (by omega)
  have : k < hi rows k := by
    rcases Nat.lt_or_ge k (hi rows k) with h | h
    · exact h
    · have e : hi rows k = k := by omega
      have := a4 (by omega)
      rw [e, h1] at this
      cases this
  exact anyC_mem (lo_le rows k) this a2 rfl

theorem half_loop_S {g : PV Y_impl_Group} {rows : RW} (hg : g.2.2.1 = rows) (h : RowsOk rows) (old : Bool) : f_S_l8Half g old = some ((halfL rows (bif old then 3 else 2) rows.length, ()), ()) := by
  have hl := h.1
  generalize hc : (bif old then (3 : Int) else 2) = c
  have := fix_all (B := fun d => b_S_l8Half_4 d.1 d.2.1 d.2.2.1 d.2.2.2.1 d.2.2.2.2.1 d.2.2.2.2.2.1 d.2.2.2.2.2.2.1) (fun i => (old, mkT rows.length (told rows 2 rows.length), mkT rows.length (told rows 3 rows.length), halfL rows c i, rows, (rows.length : Int), (i : Int), ())) rows.length (r := (halfL rows c rows.length, ()))
    (fun i hi' => by
      show b_S_l8Half_4 old (mkT rows.length (told rows 2 rows.length)) (mkT rows.length (told rows 3 rows.length)) (halfL rows c i) rows rows.length i = _
      obtain ⟨k1, k2, k3⟩ := h.2 i hi'
      have hlen := half_len (c := c) h i (by omega)
      have hpl := piece_len (c := c) h hi'
      have e : IntKind.wrap .i64 ((i : Int) + 1) = ((i + 1 : Nat) : Int) := by rw [wrap64 (by omega) (by omega)]; omega
      have hsl := sign_len rows c i
      have hself := fun h1 => self_in hi' h1
      have hp : pieceL rows c i = bif kd rows i == c then [] else showL (signL rows c i) (rows.getD i W0).2.1 := rfl
      have hs : signL rows c i = bif !(kd rows i == 1) && runA rows c i then [33, 32] else bif kd rows i == 2 then [45, 32] else bif kd rows i == 3 then [43, 32] else [32, 32] := rfl
      have hsh : showL (signL rows c i) (rows.getD i W0).2.1 = showL (signL rows c i) (rows.getD i W0).2.1 := rfl
      have hS := show_S (sign := signL rows c i) (line := (rows.getD i W0).2.1) (by omega) (by omega) k2
      have hshl : (kd rows i == c) = false → (showL (signL rows c i) (rows.getD i W0).2.1).length ≤ 40 := fun hh => by rw [hp, hh, cond_false] at hpl; exact hpl
      unfold b_S_l8Half_4
      rw [decide_eq_true (by omega : (i : Int) < (rows.length : Int)), cond_true, inB_lt hi', cond_true, toNat_cast]
      simp only [halfL]
      rw [hp]
      have hkd : kd rows i = (rows.getD i W0).1 := rfl
      rw [hkd] at hs hself hp k1 hshl ⊢
      generalize hx : rows.getD i W0 = x at *
      have g2 := told_at (c := 2) hi'
      have g3 := told_at (c := 3) hi'
      rw [hkd] at g2 g3
      have i2 : inB (i : Int) (mkT rows.length (told rows 2 rows.length)).length = true := inB_lt (by rw [mkT_len]; exact hi')
      have i3 : inB (i : Int) (mkT rows.length (told rows 3 rows.length)).length = true := inB_lt (by rw [mkT_len]; exact hi')
      generalize mkT rows.length (told rows 2 rows.length) = G2 at *
      generalize mkT rows.length (told rows 3 rows.length) = G3 at *
      rcases k1 with k1 | k1 | k1
      · -- kept
        have e1 : (x.1 == 1) = true := by rw [k1]; rfl
        have e2 : (x.1 == 2) = false := by rw [k1]; rfl
        have e3 : (x.1 == 3) = false := by rw [k1]; rfl
        have ec : (x.1 == c) = false := by rw [k1, ← hc]; cases old <;> rfl
        have hshl := hshl ec
        rw [e1, e2, e3] at hs
        simp only [Bool.not_true, Bool.false_and, cond_false] at hs
        rw [hs] at hS hshl
        simp only [e1, e2, e3, ec, cond_false, Option.bind_some, Bool.not_true, hS, hs, decide_eq_true (by omega : (halfL rows c i).length + (showL [32, 32] x.2.1).length ≤ 1099511627776), cond_true, e]
      · have e1 : (x.1 == 1) = false := by rw [k1]; rfl
        have e2 : (x.1 == 2) = true := by rw [k1]; rfl
        have e3 : (x.1 == 3) = false := by rw [k1]; rfl
        cases old
        · have ec : (x.1 == c) = true := by rw [k1, ← hc]; rfl
          simp only [e1, e2, e3, ec, cond_false, cond_true, Option.bind_some, Bool.not_true, Bool.not_false, List.append_nil, e]
        · have ec : (x.1 == c) = false := by rw [k1, ← hc]; rfl
          have hshl := hshl ec
          have hsf := hself e1
          rw [k1] at hsf
          have hcc : c = 3 := hc.symm
          subst hcc
          rw [e1, e2, e3] at hs
          rw [e1, hsf] at g2
          rw [e1] at g3
          simp only [Bool.not_false, Bool.true_and] at g2 g3 hs
          cases hr : runA rows 3 i
          · rw [hr] at g3 hs
            simp only [cond_false, cond_true] at hs
            rw [hs] at hS hshl
            simp only [e1, e2, e3, ec, cond_false, cond_true, Option.bind_some, Bool.not_true, Bool.not_false, toNat_cast, i2, i3, g2, g3, hS, hs, decide_eq_true (by omega : (halfL rows 3 i).length + (showL [45, 32] x.2.1).length ≤ 1099511627776), e]
          · rw [hr] at g3 hs
            simp only [cond_false, cond_true] at hs
            rw [hs] at hS hshl
            simp only [e1, e2, e3, ec, cond_false, cond_true, Option.bind_some, Bool.not_true, Bool.not_false, toNat_cast, i2, i3, g2, g3, hS, hs, decide_eq_true (by omega : (halfL rows 3 i).length + (showL [33, 32] x.2.1).length ≤ 1099511627776), e]
      · have e1 : (x.1 == 1) = false := by rw [k1]; rfl
        have e2 : (x.1 == 2) = false := by rw [k1]; rfl
        have e3 : (x.1 == 3) = true := by rw [k1]; rfl
        cases old
        · have ec : (x.1 == c) = false := by rw [k1, ← hc]; rfl
          have hshl := hshl ec
          have hsf := hself e1
          rw [k1] at hsf
          have hcc : c = 2 := hc.symm
          subst hcc
          rw [e1, e2, e3] at hs
          rw [e1, hsf] at g3
          rw [e1] at g2
          simp only [Bool.not_false, Bool.true_and] at g2 g3 hs
          cases hr : runA rows 2 i
          · rw [hr] at g2 hs
            simp only [cond_false, cond_true] at hs
            rw [hs] at hS hshl
            simp only [e1, e2, e3, ec, cond_false, cond_true, Option.bind_some, Bool.not_true, Bool.not_false, toNat_cast, i2, i3, g2, g3, hS, hs, decide_eq_true (by omega : (halfL rows 2 i).length + (showL [43, 32] x.2.1).length ≤ 1099511627776), e]
          · rw [hr] at g2 hs
            simp only [cond_false, cond_true] at hs
            rw [hs] at hS hshl
            simp only [e1, e2, e3, ec, cond_false, cond_true, Option.bind_some, Bool.not_true, Bool.not_false, toNat_cast, i2, i3, g2, g3, hS, hs, decide_eq_true (by omega : (halfL rows 2 i).length + (showL [33, 32] x.2.1).length ≤ 1099511627776), e]
        · have ec : (x.1 == c) = true := by rw [k1, ← hc]; rfl
          simp only [e1, e2, e3, ec, cond_false, cond_true, Option.bind_some, Bool.not_true, Bool.not_false, List.append_nil, e])
    (by
      show b_S_l8Half_4 old _ _ (halfL rows c rows.length) rows rows.length rows.length = _
      unfold b_S_l8Half_4
      rw [decide_eq_false (Int.lt_irrefl _), cond_false])
  unfold f_S_l8Half
  rw [runs_S hg (by omega), Option.bind_some]
  dsimp only
  rw [hg, show w_S_l8Half_4 (old, mkT rows.length (told rows 2 rows.length), mkT rows.length (told rows 3 rows.length), [], rows, (rows.length : Int), 0, ()) = _ from this]
  rfl

theorem rowsOk_of {g : PV Y_impl_Group} (h : goodG g = true) : RowsOk g.2.2.1 := by
  unfold goodG inI at h
  simp only [Bool.and_eq_true, decide_eq_true_eq, Bool.not_eq_true'] at h
  obtain ⟨_, _, ⟨h1, h2⟩, h3, _⟩ := h
  refine ⟨by omega, fun k hk => ?_⟩
  have hb : badRow g.2.2.1 k = false := by
    cases hb : badRow g.2.2.1 k with
    | false => rfl
    | true => rw [anyN_iff.2 ⟨k, hk, hb⟩] at h3; cases h3
  unfold badRow inI at hb
  simp only [Bool.or_eq_false_iff, Bool.not_eq_false', Bool.and_eq_true, decide_eq_true_eq] at hb
  obtain ⟨⟨b1, b2⟩, b3, _⟩ := hb
  have := line_len b3
  refine ⟨?_, this.1, this.2⟩
  have e : ∀ z : Int, z ≥ 1 → z ≤ 3 → z = 1 ∨ z = 2 ∨ z = 3 := fun z _ _ => by omega
  exact e _ b1 b2
end R
