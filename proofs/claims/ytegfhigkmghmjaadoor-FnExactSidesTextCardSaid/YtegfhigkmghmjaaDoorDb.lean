/- Weakening of ownership; places inside a value (paths); reading and writing there. -/
import Derived.Test.YtegfhigkmghmjaaDoorDa
namespace Go.Dn

theorem weaken_b : ∀ (t : Ty) (o : Ow), weaken t o .b = true
  | .int _, _ => rfl
  | .bool, _ => rfl
  | .str, _ => rfl
  | .unit, _ => rfl
  | .pair a b, o => by simp only [weaken, Ow.fst, Ow.snd, weaken_b a, weaken_b b]; rfl
  | .slice _ _, .b => rfl
  | .slice _ _, .row _ => rfl
  | .slice _ _, .pr _ _ => rfl

theorem Rep.more {w : World} {Pr Pr' : Nat → Prop} (hp : ∀ k, Pr k → Pr' k) {t : Ty} {o : Ow} {cs : List Value} {x : PV t} {bs : List Nat} (h : Rep w Pr t o cs x bs) : Rep w Pr' t o cs x bs :=
  h.agree hp (fun _ _ => rfl)
theorem RepL.more {w : World} {Pr Pr' : Nat → Prop} (hp : ∀ k, Pr k → Pr' k) {t : Ty} {o : Ow} {cs : List Value} {xs : List (PV t)} {bs : List Nat} (h : RepL (Rep w Pr t o) cs xs bs) : RepL (Rep w Pr' t o) cs xs bs :=
  h.agree hp (fun _ _ => rfl)

theorem repL_weaken {w : World} {Pr : Nat → Prop} {t : Ty} {o1 o2 : Ow}
    (ih : ∀ (cs : List Value) (x : PV t) (bs : List Nat), Rep w Pr t o1 cs x bs → ∃ b1 b2, bs.Perm (b1 ++ b2) ∧ Rep w (fun k => Pr k ∨ k ∈ b2) t o2 cs x b1) :
    ∀ {xs : List (PV t)} {cs : List Value} {bs : List Nat}, RepL (Rep w Pr t o1) cs xs bs → ∃ b1 b2, bs.Perm (b1 ++ b2) ∧ RepL (Rep w (fun k => Pr k ∨ k ∈ b2) t o2) cs xs b1
  | [], _, _, h => by obtain ⟨rfl, rfl⟩ := h; exact ⟨[], [], List.Perm.refl _, rfl, rfl⟩
  | x :: xs, cs, bs, h => by
    obtain ⟨c1, c2, b1, b2, rfl, e2, h1, h2⟩ := h
    obtain ⟨p1, q1, e3, h3⟩ := ih _ _ _ h1
    obtain ⟨p2, q2, e4, h4⟩ := repL_weaken ih h2
    refine ⟨p1 ++ p2, q1 ++ q2, ?_, c1, c2, p1, p2, rfl, List.Perm.refl _, ?_, ?_⟩
    · refine e2.trans ((e3.append e4).trans ?_)
      rw [List.append_assoc, List.append_assoc]
      refine List.Perm.append_left _ ?_
      rw [← List.append_assoc, ← List.append_assoc]
      exact List.perm_append_comm.append_right _
    · exact h3.more (fun k hk => hk.imp id fun m => List.mem_append_left _ m)
    · exact h4.more (fun k hk => hk.imp id fun m => List.mem_append_right _ m)

theorem ownsRow_cells {w : World} {e : TypeId} {size n : Nat} {v : Value} {xs : List Value} (h : w.ownsRow 0 e size v n xs) {g : Nat} {A : Option Addr} {m c : Nat}
    (hv : v = .slice A m c) (hA : A = some ⟨g, 0, none⟩) : Cells w ⟨g, 0, none⟩ xs := h.cells (by rw [hv, hA]; rfl)

theorem ownsRow_form {w : World} {e : TypeId} {size n : Nat} {v : Value} {xs : List Value} (h : w.ownsRow 0 e size v n xs) :
    (v = .slice none 0 0 ∧ n = 0 ∧ xs = []) ∨ ∃ g c, v = .slice (some ⟨g, 0, none⟩) n c ∧ v.ownBlock = some g ∧ n ≤ c := by
  rcases h with ⟨hl, ⟨rfl, rfl⟩ | ⟨g, cap, cur, rfl, _, hg, hc, _⟩⟩
  · exact .inl ⟨rfl, rfl, List.eq_nil_of_length_eq_zero (by simpa using hl)⟩
  · exact .inr ⟨g, cap, rfl, rfl, hc⟩

/-- Nothing is owned by what is borrowed. -/
theorem Rep.b_nil {w : World} {Pr : Nat → Prop} : ∀ {t : Ty} {cs : List Value} {x : PV t} {b : List Nat}, Rep w Pr t .b cs x b → b = [] := by
  intro t
  induction t with
  | pair a b iha ihb =>
    intro cs x bs h
    obtain ⟨c1, c2, b1, b2, _, p2, h1, h2⟩ := h
    have := iha h1; have := ihb h2; subst_vars
    simpa using p2
  | slice e t _ => intro cs x bs h; exact (rep_bor.1 h).1
  | _ => intro cs x bs h; exact h.2

theorem Rep.nowns {w : World} {Pr : Nat → Prop} : ∀ {t : Ty} {o : Ow} {cs : List Value} {x : PV t} {b : List Nat}, owns t o = false → Rep w Pr t o cs x b → b = []
  | .int _, _, _, _, _, _, h => h.2
  | .bool, _, _, _, _, _, h => h.2
  | .str, _, _, _, _, _, h => h.2
  | .unit, _, _, _, _, _, h => h.2
  | .pair a b, o, cs, x, bs, ho, h => by
    simp only [owns, Bool.or_eq_false_iff] at ho
    obtain ⟨c1, c2, b1, b2, _, p2, h1, h2⟩ := h
    have := h1.nowns ho.1; have := h2.nowns ho.2; subst_vars
    simpa using p2
  | .slice _ _, .row _, _, _, _, ho, _ => by simp [owns] at ho
  | .slice _ _, .b, _, _, _, _, h => (rep_bor.1 h).1
  | .slice _ _, .pr _ _, _, _, _, _, h => (rep_bor'.1 h).1

theorem RepL.b_nil {w : World} {Pr : Nat → Prop} {t : Ty} : ∀ {xs : List (PV t)} {cs : List Value} {b : List Nat}, RepL (Rep w Pr t .b) cs xs b → b = []
  | [], _, _, h => h.2
  | _ :: _, _, _, h => by
    obtain ⟨c1, c2, b1, b2, _, p2, h1, h2⟩ := h
    have := h1.b_nil; have := RepL.b_nil h2; subst_vars
    simpa using p2

theorem row_bor {w : World} {Pr : Nat → Prop} {e : TypeId} {t : Ty} {e1 : Ow} {cs : List Value} {xs : List (PV t)} {bs : List Nat}
    (ih : ∀ (cs : List Value) (x : PV t) (bs : List Nat), Rep w Pr t e1 cs x bs → ∃ b1 b2, bs.Perm (b1 ++ b2) ∧ Rep w (fun k => Pr k ∨ k ∈ b2) t .b cs x b1)
    (h : Rep w Pr (.slice e t) (.row e1) cs xs bs) : Bor w (fun k => Pr k ∨ k ∈ bs) t cs xs := by
  obtain ⟨v, ys, b', e3, e4, e5, h1⟩ := rep_row.1 h
  obtain ⟨p, q, e6, h2⟩ := repL_weaken (o2 := .b) ih h1
  have := h2.b_nil
  subst this
  subst e3
  rcases ownsRow_form e4 with ⟨rfl, h0, _⟩ | ⟨g, c, rfl, hg, hc⟩
  · exact ⟨none, 0, by rw [h0], by omega, .inl (List.eq_nil_of_length_eq_zero h0)⟩
  · refine ⟨some ⟨g, 0, none⟩, c, rfl, hc, .inr ⟨⟨g, 0, none⟩, ys, rfl, .inr (e5.mem_iff.2 (by simp [Value.ownBlock])), ownsRow_cells e4 rfl rfl, ?_⟩⟩
    exact h2.more (fun k hk => hk.imp id fun m => e5.mem_iff.2 (List.mem_append_right _ (e6.mem_iff.2 (by simpa using m))))

theorem Rep.weaken {w : World} {Pr : Nat → Prop} : ∀ {t : Ty} {o1 o2 : Ow} {cs : List Value} {x : PV t} {bs : List Nat}, Go.Dn.weaken t o1 o2 = true → Rep w Pr t o1 cs x bs →
    ∃ b1 b2, bs.Perm (b1 ++ b2) ∧ Rep w (fun k => Pr k ∨ k ∈ b2) t o2 cs x b1
  | .int _, _, _, _, _, _, _, h => ⟨[], [], by rw [h.2]; exact List.Perm.refl _, h.1, rfl⟩
  | .bool, _, _, _, _, _, _, h => ⟨[], [], by rw [h.2]; exact List.Perm.refl _, h.1, rfl⟩
  | .str, _, _, _, _, _, _, h => ⟨[], [], by rw [h.2]; exact List.Perm.refl _, h.1, rfl⟩
  | .unit, _, _, _, _, _, _, h => ⟨[], [], by rw [h.2]; exact List.Perm.refl _, h.1, rfl⟩
  | .pair a b, o1, o2, cs, x, bs, hw, h => by
    simp only [Go.Dn.weaken, Bool.and_eq_true] at hw
    obtain ⟨c1, c2, b1, b2, rfl, e2, h1, h2⟩ := h
    obtain ⟨p1, q1, e3, h3⟩ := h1.weaken hw.1
    obtain ⟨p2, q2, e4, h4⟩ := h2.weaken hw.2
    refine ⟨p1 ++ p2, q1 ++ q2, ?_, c1, c2, p1, p2, rfl, List.Perm.refl _, ?_, ?_⟩
    · refine e2.trans ((e3.append e4).trans ?_)
      rw [List.append_assoc, List.append_assoc]
      refine List.Perm.append_left _ ?_
      rw [← List.append_assoc, ← List.append_assoc]
      exact List.perm_append_comm.append_right _
    · exact h3.more (fun k hk => hk.imp id fun m => List.mem_append_left _ m)
    · exact h4.more (fun k hk => hk.imp id fun m => List.mem_append_right _ m)
  | .slice e t, .row e1, .row e2, cs, xs, bs, hw, h => by
    obtain ⟨v, ys, b', e3, e4, e5, h1⟩ := rep_row.1 h
    obtain ⟨p, q, e6, h2⟩ := repL_weaken (o2 := e2) (fun cs x bs h => Rep.weaken (t := t) (by simpa only [Go.Dn.weaken] using hw) h) h1
    refine ⟨v.ownBlock.toList ++ p, q, ?_, rep_row.2 ⟨v, ys, p, e3, e4, List.Perm.refl _, h2⟩⟩
    rw [List.append_assoc]; exact e5.trans (e6.append_left _)
  | .slice e t, .row e1, .b, cs, xs, bs, hw, h =>
    ⟨[], bs, List.Perm.refl _, rep_bor.2 ⟨rfl, row_bor (fun _ _ _ h => Rep.weaken (t := t) (weaken_b t e1) h) h⟩⟩
  | .slice e t, .row e1, .pr _ _, cs, xs, bs, hw, h =>
    ⟨[], bs, List.Perm.refl _, rep_bor'.2 ⟨rfl, row_bor (fun _ _ _ h => Rep.weaken (t := t) (weaken_b t e1) h) h⟩⟩
  | .slice e t, .b, .b, cs, xs, bs, hw, h => ⟨bs, [], by simp, h.more (fun k hk => .inl hk)⟩
  | .slice e t, .b, .pr _ _, cs, xs, bs, hw, h => ⟨bs, [], by simp, rep_bor'.2 (rep_bor.1 (h.more (fun k hk => .inl hk)))⟩
  | .slice e t, .pr _ _, .b, cs, xs, bs, hw, h => ⟨bs, [], by simp, rep_bor.2 (rep_bor'.1 (h.more (fun k hk => .inl hk)))⟩
  | .slice e t, .pr _ _, .pr _ _, cs, xs, bs, hw, h => ⟨bs, [], by simp, rep_bor'.2 (rep_bor'.1 (h.more (fun k hk => .inl hk)))⟩
  | .slice e t, .b, .row _, cs, xs, bs, hw, h => by simp [Go.Dn.weaken] at hw
  | .slice e t, .pr _ _, .row _, cs, xs, bs, hw, h => by simp [Go.Dn.weaken] at hw

/-- A value as a borrowed one. -/
theorem Rep.lend {w : World} {Pr : Nat → Prop} {t : Ty} {o : Ow} {cs : List Value} {x : PV t} {bs : List Nat} (h : Rep w Pr t o cs x bs) :
    Rep w (fun k => Pr k ∨ k ∈ bs) t .b cs x [] := by
  obtain ⟨b1, b2, e, h1⟩ := h.weaken (weaken_b t o)
  have := h1.b_nil
  subst this
  exact h1.more (fun k hk => hk.imp id fun m => e.mem_iff.2 (by simpa using m))

end Go.Dn
