/- Numbers as texts: strconv.Itoa by the library's own contract; functions that call themselves. -/
import Derived.Test.YtegfhigkmghmjaaDoorFd
import Derived.Shelf.Strconv.Itoa3
import Derived.Lib.LaidTab
namespace Go.Dn
open Go.Shelf Go.Proofs

section
variable {P : Program} {g : Glob}

/-- A function that calls itself: told at every depth, told whole. -/
theorem fnOk_fuel {k : FuncId} {pars : List (Mode × Ty)} {rets : List (Ty × Bool)} {Fs : Nat → PVs (pars.map (·.2)) → Option (PVs (rets.map (·.1)) × PVs (backs pars))} {N : PVs (pars.map (·.2)) → Nat}
    (h : ∀ n, FnOk g P k ⟨pars, rets, Fs n⟩) : FnOk g P k ⟨pars, rets, fun x => Fs (N x) x⟩ :=
  ⟨(h 0).1, fun w Pr vs xs bss r a1 a2 a3 a4 a5 a6 hr => (h (N xs)).2 w Pr vs xs bss r a1 a2 a3 a4 a5 a6 hr⟩

theorem fnOk_none {k : FuncId} {pars : List (Mode × Ty)} {rets : List (Ty × Bool)} (h : (rets.all fun q => !q.1.isUnit) = true) : FnOk g P k ⟨pars, rets, fun _ => none⟩ :=
  ⟨h, fun _ _ _ _ _ _ _ _ _ _ _ _ hr => by cases hr⟩

theorem bor1 {t1 : Ty} {w : World} {Pr : Nat → Prop} {vs : List Value} {xs : PVs [t1]} {bss : List (List Nat)} (h : ArgsOk w Pr [(.bor, t1)] vs xs bss) :
    ∃ v1, vs = [v1] ∧ bss = [[]] ∧ ValOk w Pr v1 t1 .b xs.1 [] := by
  match vs, bss, h with
  | [v1], [b1], ⟨⟨h1, h2⟩, _⟩ =>
    cases h2
    exact ⟨v1, rfl, rfl, h1⟩
  | [], [], h => exact h.elim
  | [], _ :: _, h => exact h.elim
  | _ :: _, [], h => exact h.elim
  | [_], _ :: _ :: _, h => exact h.2.elim
  | _ :: _ :: _, [_], h => exact h.2.elim
  | _ :: _ :: _, _ :: _ :: _, h => exact h.2.elim

theorem val_int {w : World} {Pr : Nat → Prop} {k : IntKind} {v : Value} {n : Int} {bs : List Nat} (h : ValOk w Pr v (.int k) .b n bs) : v = .int k n := by
  obtain ⟨cs, rfl, h, _⟩ := h
  rw [h]; rfl

/-- The table that strconv reads. -/
def tabGlob (P : Program) (G : Nat) : Glob where
  dom b := b = G
  ok w := P.globalNamed "internal/strconv.uint64pow10" = some G ∧ Lib.TabIs P w "internal/strconv.uint64pow10" .u64 Lib.pow10Tab
  stable w w' h hb := ⟨h.1, by
    have e := hb G rfl
    have h2 := h.2
    unfold Lib.TabIs World.var? at h2 ⊢
    rw [h.1] at h2 ⊢
    simp only [Option.bind_some] at h2 ⊢
    rw [e]
    exact h2⟩

theorem tabGlob_dom {G : Nat} {w : World} (h : (tabGlob P G).ok w) : ∀ b, (tabGlob P G).dom b → b < w.heap.size := by
  rintro b rfl
  have h2 := h.2
  unfold Lib.TabIs World.var? at h2
  rw [h.1] at h2
  simp only [Option.bind_some] at h2
  split at h2
  · rename_i hq
    exact (Array.getElem?_eq_some_iff.1 hq).1
  · cases h2

theorem tabGlob_tab {G : Nat} : ∀ w, (tabGlob P G).ok w → Lib.TabIs P w "internal/strconv.uint64pow10" .u64 Lib.pow10Tab := fun _ h => h.2

def itoaF (n : Int) : Option (PVs [.str] × PVs []) := bif decide (-9223372036854775808 ≤ n) && decide (n ≤ 9223372036854775807) then some ((Lib.itoa n, ()), ()) else none

theorem itoa_ok (hg : ∀ w, g.ok w → Lib.TabIs P w "internal/strconv.uint64pow10" .u64 Lib.pow10Tab) {ρ : Ren} (L : LaysM.n171 P ρ) : FnOk g P (ρ.f 171) ⟨[(.bor, .int .i64)], [(.str, false)], fun x => itoaF x.1⟩ := by
  refine ⟨rfl, fun w Pr vs xs bss r hpl hargs hnd hfr hgo hgd hr => ⟨⟨_, L.f171, rfl, by rfl⟩, ?_⟩⟩
  obtain ⟨v1, rfl, rfl, h1⟩ := bor1 hargs
  obtain rfl := val_int h1
  obtain ⟨n, _⟩ := xs
  dsimp only at hr
  unfold itoaF at hr
  simp only [Bool.cond_eq_ite, Bool.and_eq_true, decide_eq_true_eq] at hr
  split at hr
  · rename_i hc
    obtain rfl := Option.some.inj hr
    refine (Any.strconv_Itoa L n hc.1 hc.2 w (hg w hgo)).mono fun e w' ⟨e1, k, os, e2⟩ => ?_
    subst e2
    refine ⟨[.string ⟨(Lib.itoa n).toArray⟩], Pr, [], [[]], by rw [e1]; rfl, ⟨[], [], List.Perm.refl _, .inr ⟨[.string ⟨(Lib.itoa n).toArray⟩], rfl, rfl, rfl⟩, rfl⟩, ⟨rfl, trivial⟩, by simp, fun b hb => by simp at hb, fun b hb => hb, fun b hb => .inl hb, rfl, rfl, rfl, ?_, fun b hb _ => ?_⟩
    · show w.heap.size ≤ (w.heap ++ os).size
      simp
    · show (w.heap ++ os)[b]? = _
      rw [Array.getElem?_append_left hb]
  · cases hr
end
end Go.Dn
