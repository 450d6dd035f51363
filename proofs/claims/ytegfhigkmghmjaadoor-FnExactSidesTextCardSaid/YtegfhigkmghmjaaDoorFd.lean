/- Functions of Go's library, by the library's own contracts, as contracts of this text's form. -/
import Derived.Test.YtegfhigkmghmjaaDoorEd
import Derived.Shelf.Strings.Search3
import Derived.Lib.IndexAny
namespace Go.Dn
open Go.Shelf Go.Proofs

section
variable {P : Program} {g : Glob}

/-- A function that only looks, and whose results hold no rows. -/
theorem fnOk_look {k : FuncId} {pars : List (Mode × Ty)} {rets : List (Ty × Bool)} {F : PVs (pars.map (·.2)) → Option (PVs (rets.map (·.1)) × PVs (backs pars))}
    (hfn : ∃ fn, P.funcs[k]? = some fn ∧ fn.body.isSome = true ∧ (fn.name == "runtime.NumGoroutine") = false) (hunit : (rets.all fun q => !q.1.isUnit) = true)
    (hbor : ∀ {w : World} {Pr : Nat → Prop} {vs : List Value} {xs : PVs (pars.map (·.2))} {bss : List (List Nat)}, ArgsOk w Pr pars vs xs bss → bss.flatten = [] ∧ ∀ (r : PVs (backs pars)), BacksOk w Pr pars vs r (bss.map fun _ => []))
    (h : ∀ (w : World) (Pr : Nat → Prop) (vs : List Value) (xs : PVs (pars.map (·.2))) (bss : List (List Nat)) r, ArgsOk w Pr pars vs xs bss → F xs = some r →
      Calls P k vs.toArray w fun e w' => (∃ rv : List Value, e = .returned (retValue rv) ∧ TupOk w Pr (retList rets r.1) rv []) ∧ w' = w) : FnOk g P k ⟨pars, rets, F⟩ := by
  refine ⟨hunit, fun w Pr vs xs bss r hpl hargs hnd hfr _ _ hr => ⟨hfn, ?_⟩⟩
  obtain ⟨b1, b2⟩ := hbor hargs
  refine (h w Pr vs xs bss r hargs hr).mono fun e w' ⟨⟨rv, e1, e2⟩, ew⟩ => ?_
  subst ew
  have hz : (bss.map fun _ => ([] : List Nat)).flatten = [] := by
    clear hargs hnd hfr b1 b2
    induction bss with
    | nil => rfl
    | cons _ _ ih => simp [ih]
  refine ⟨rv, Pr, [], bss.map fun _ => [], e1, e2, b2 r.2, by rw [hz]; exact List.nodup_nil, fun b hb => absurd (hz ▸ hb) (by simp), fun b hb => hb, fun b hb => .inl hb, rfl, rfl, rfl, Nat.le_refl _, fun b _ _ => rfl⟩

theorem bor2 {t1 t2 : Ty} {w : World} {Pr : Nat → Prop} {vs : List Value} {xs : PVs [t1, t2]} {bss : List (List Nat)} (h : ArgsOk w Pr [(.bor, t1), (.bor, t2)] vs xs bss) :
    ∃ v1 v2, vs = [v1, v2] ∧ bss = [[], []] ∧ ValOk w Pr v1 t1 .b xs.1 [] ∧ ValOk w Pr v2 t2 .b xs.2.1 [] := by
  match vs, bss, h with
  | [v1, v2], [b1, b2], ⟨⟨h1, h2⟩, ⟨h3, h4⟩, _⟩ =>
    cases h2; cases h4
    exact ⟨v1, v2, rfl, rfl, h1, h3⟩
  | [], [], h => exact h.elim
  | [], _ :: _, h => exact h.elim
  | _ :: _, [], h => exact h.elim
  | [_], [_], h => exact h.2.elim
  | [_], _ :: _ :: _, h => exact h.2.elim
  | _ :: _ :: _, [_], h => exact h.2.elim
  | _ :: _ :: _ :: _, [_, _], h => exact h.2.2.elim
  | [_, _], _ :: _ :: _ :: _, h => exact h.2.2.elim
  | _ :: _ :: _ :: _, _ :: _ :: _ :: _, h => exact h.2.2.elim

theorem val_str {w : World} {Pr : Nat → Prop} {v : Value} {s : List UInt8} {bs : List Nat} (h : ValOk w Pr v .str .b s bs) : v = strV s := by
  obtain ⟨cs, rfl, h, _⟩ := h
  rw [h]; rfl

/-- Whether a byte is in a string. -/
def containsF (s sub : List UInt8) : Option (PVs [.bool] × PVs []) :=
  match sub with
  | [c] => some ((s.contains c, ()), ())
  | _ => none

theorem contains_ok {ρ : Ren} (L : Lays.n144 P ρ) : FnOk g P (ρ.f 144) ⟨[(.bor, .str), (.bor, .str)], [(.bool, false)], fun x => containsF x.1 x.2.1⟩ := by
  refine fnOk_look ⟨_, L.f144, rfl, by rfl⟩ rfl (fun h => ?_) fun w Pr vs xs bss r h hF => ?_
  · obtain ⟨v1, v2, rfl, rfl, _, _⟩ := bor2 h
    exact ⟨rfl, fun r => ⟨rfl, rfl, trivial⟩⟩
  · obtain ⟨v1, v2, rfl, rfl, h1, h2⟩ := bor2 h
    obtain rfl := val_str h1
    obtain rfl := val_str h2
    obtain ⟨s, sub, _⟩ := xs
    dsimp only at hF
    unfold containsF at hF
    split at hF
    · rename_i c
      obtain rfl := Option.some.inj hF
      refine (Any.strings_Contains_one L ⟨⟨s⟩⟩ c w).mono fun e w' ⟨e1, e2⟩ => ⟨⟨[.bool (s.contains c)], by rw [e1, Lib.contains_iff_indexByte]; rfl, ⟨[], [], List.Perm.refl _, .inr ⟨[.bool (s.contains c)], rfl, rfl, rfl⟩, rfl⟩⟩, e2⟩
    · cases hF
end
end Go.Dn
