/- A law's row where package-level variables are laid. -/
import Derived.Test.YtegfhigkmghmjaaDoorFc
import Derived.Test.YtegfhigkmghmjaaDoorFh
import Derived.MakeChecks
import Derived.LaidMore
import Derived.LaidLaws
import Derived.LaidHandle
import Derived.Stop.Joined
import Derived.OpenShut
namespace Go.Dn
open Go.ChangeShapes Go.WideShapes Go.ChangeAt Go.RowKit

theorem laid_third {P : Program} {W : World} {x1 x2 : String × DataW Unit} {name : String} {k : IntKind} {zs : List Int} {D : DataW Unit} {rest : List (String × DataW Unit)} {G : Nat} {t e : TypeId} {n : Nat}
    (hD : D = Lib.tabData k zs) (hg : P.globalNamed name = some G) (hty : (P.globals[G]?).map (·.type) = some t) (ht : P.underlying t = some (.array n e)) (he : P.underlying e = some (.int k)) (hce : P.cellsOf e = 1) (hct : P.cellsOf t = n)
    (h : laidMet P (x1 :: x2 :: (name, D) :: rest) W) : Lib.TabIs P W name k zs := by
  subst hD
  obtain ⟨ps, ⟨_, _, _, _, _, _, _, _, _, _, ⟨_, _, _, _, _, _, _, _, _, _, ⟨g', t', cs, fuel, p, q, hg', ht', hvar, hd, _, _⟩, _⟩, _⟩, _⟩ := h
  obtain rfl := Option.some.inj (hg.symm.trans hg')
  obtain rfl := Option.some.inj (hty.symm.trans ht')
  unfold Lib.TabIs
  rw [hvar, ← Lib.cells_of_tab ht he hce hct hd]

/-- A law's row, out of the contract of the law and the plain law, where variables are laid. -/
theorem law_row_laid {C : Checked} {tab : List (TypeId × Ty)} {os : Os} {k : FuncId} {fn : Func} {s : ChangeSpec} {conds : List PathCond} {H : Type} {enc : TypeId × Value → H} {tb : TypeId}
    {pars : List (Mode × Ty)} {F : PVs (pars.map (·.2)) → Option (PVs [.bool] × PVs (backs pars))} {laid : List (String × DataW Unit)} {g : Glob}
    (own : ownKnob C.prog.godebug = none) (started : os.Started) (noInit : C.prog.inits.idxOf? k = none) (hfn : C.prog.funcs[k]? = some fn)
    (witness : ∃ (w : World) (tape : Tape) (i : Input), w.os = os ∧ (w.forCall tape i).Shaped C.prog ∧ i.vars = [] ∧ Input.okWide C.prog (w.forCall tape i) .any w.heap.size k i ∧
      ((s.pre enc C.prog fn conds false (w.forCall tape i).memory i.args ∧ laidMetH C.prog laid (w.forCall tape i).memory) ∧ sizedMet enc C.prog fn (OpenSpec.ofChange s) false (w.forCall tape i).memory i.args) ∧ ({} : Assume).holds C.prog (lone (Frame.enter C.prog k i.args .normal) [] (w.forCall tape i)))
    (hlaid : laidOutB C.prog = true) (hmaps : mapsRowed C.prog = true)
    (hslices : ((List.range C.prog.types.size).all fun t => match C.prog.underlying t with | some (.slice e) => decide (0 < C.prog.cellsOf e) | _ => true) = true)
    (hps : fn.params.toList.all (fun t => decide (t < C.prog.types.size)) = true)
    (hvars : s.vars = []) (hrt : fn.resultTypes = #[tb]) (hb : C.prog.underlying tb = some .bool)
    (hspec : ∀ ds : List (DataW H), ds.length = pars.length → (s.fn H ds).results = [.lit (.bool true)] ∧ (s.fn H ds).args = ds ∧ (s.fn H ds).vars = [])
    (htab : TabOk C.prog tab) (hk : FnOk g C.prog k ⟨pars, [(.bool, false)], F⟩) (hp : parsB tab fn.params.toList pars = true)
    (hF : ∀ x, WfVs (pars.map (·.2)) x → ∃ bk, F x = some ((true, ()), bk))
    (hgl : ∀ W, laidMetH C.prog laid W → g.ok W ∧ ∀ b, g.dom b → b < W.heap.size) :
    ReturnsInHanded {} C os k .any (fun w args => (s.pre enc C.prog fn conds false w args ∧ laidMetH C.prog laid w) ∧ sizedMet enc C.prog fn (OpenSpec.ofChange s) false w args) (s.post enc C.prog fn false true false false) := by
  refine returnsInHanded_of_change_and (C := C) (X := fun w _ => laidMetH C.prog laid w) (fun _ _ _ hh h => h.of_heap hh) own started noInit hfn witness ?_
  intro W base args ds gs before hval hW _ _ hL _
  obtain ⟨p, q, hA, hV, _, _, _⟩ := id hW
  have hT : ∀ t ∈ fn.params.toList, t < C.prog.types.size := fun t ht => by simpa using List.all_eq_true.1 hps t ht
  have hlen : ds.length = pars.length := by
    have h1 : ∀ {ts : List TypeId} {vs : List Value} {ds : List (DataW H)} {ps : List MemPlace}, DataW.TrodAll enc C.prog W 0 (fun _ => true) true ts vs ds ps → ds.length = ts.length := by
      intro ts
      induction ts with
      | nil => intro vs ds ps h; cases vs <;> cases ds <;> simp_all [DataW.TrodAll]
      | cons t ts ih =>
        intro vs ds ps h
        cases vs with
        | nil => exact h.elim
        | cons v vs =>
          cases ds with
          | nil => exact h.elim
          | cons d ds =>
            obtain ⟨_, _, _, h, _⟩ := h
            simp [ih h]
    have h2 : ∀ {ts : List TypeId} {ps : List (Mode × Ty)}, parsB tab ts ps = true → ts.length = ps.length := by
      intro ts
      induction ts with
      | nil => intro ps h; cases ps <;> simp_all [parsB]
      | cons t ts ih =>
        intro ps h
        cases ps with
        | nil => simp [parsB] at h
        | cons p ps =>
          obtain ⟨m, T⟩ := p
          simp only [parsB, Bool.and_eq_true] at h
          simp [ih h.2]
    rw [h1 hA, h2 hp]
  have hgs : gs = [] := by
    rw [hvars] at hV
    cases gs with
    | nil => rfl
    | cons => exact hV.elim
  subst hgs
  obtain ⟨s1, s2, s3⟩ := hspec ds hlen
  obtain ⟨g1, g2⟩ := hgl W hL
  refine (law_call hk g1 g2 htab hp hF (trodAll_tell htab hA) (fun j t v h1 h2 => hval j t v (by rw [← Array.getElem?_toList]; exact h1) (by rw [← Array.getElem?_toList]; exact h2))).mono fun e W' ⟨he, h1, h2, h3⟩ => ?_
  subst he
  exact ⟨_, rfl, post_law (kids_rows hlaid hmaps) (slices_full_of _ hslices) hT hvars hW h3 h1 h2 (by rw [List.append_nil]; exact s1) (by rw [List.append_nil]; exact s2) (by rw [List.append_nil]; exact s3) hrt hb⟩
end Go.Dn
