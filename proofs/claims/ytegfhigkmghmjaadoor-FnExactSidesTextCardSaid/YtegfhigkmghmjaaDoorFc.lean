/- The call of a law by its contract: every argument as it was, the answer true. -/
import Derived.Test.YtegfhigkmghmjaaDoorFb
import Derived.Handed
import Derived.ChangeOld
import Derived.ShutString
namespace Go.Dn
open Go.ChangeShapes Go.WideShapes Go.ChangeAt Go.RowKit

section
variable {H : Type} {enc : TypeId × Value → H} {P : Program} {tab : List (TypeId × Ty)} {w : World} {base : Nat} {r : Reach}

theorem pack_back {t : TypeId} {T : Ty} {v : Value} (hf : TyFact P tab t T) (hv : Value.okWide P w r base t v) : v = pack T v.cells.toList := by
  obtain ⟨d, hu, hfit⟩ := hf.und
  cases d with
  | int k =>
    cases T <;> simp only [fits, reduceCtorEq, Bool.false_eq_true] at hfit
    obtain ⟨n, rfl⟩ := okWide_int hu hv
    rfl
  | bool =>
    cases T <;> simp only [fits, reduceCtorEq, Bool.false_eq_true] at hfit
    obtain ⟨n, rfl⟩ := okWide_bool hu hv
    rfl
  | string =>
    cases T <;> simp only [fits, reduceCtorEq, Bool.false_eq_true] at hfit
    obtain ⟨n, rfl⟩ := okWide_string hu hv
    rfl
  | slice e =>
    cases T <;> (try (simp [fits] at hfit; done))
    obtain ⟨a, l, c, rfl⟩ := okWide_slice hu hv
    rfl
  | struct fs =>
    simp only [fits, Bool.and_eq_true] at hfit
    obtain ⟨cs, rfl, _⟩ := okWide_struct hu hv
    simp [pack, hfit.1, Value.cells]
  | array n e =>
    simp only [fits, Bool.and_eq_true] at hfit
    unfold Value.okWide at hv
    rw [hu] at hv
    obtain ⟨cs, rfl, _⟩ := hv
    simp [pack, hfit.1, Value.cells]
  | _ => simp [fits] at hfit

def WfVs : (ts : List Ty) → PVs ts → Prop
  | [], _ => True
  | t :: ts, x => WfV t x.1 ∧ WfVs ts x.2

def parsB (tab : List (TypeId × Ty)) : List TypeId → List (Mode × Ty) → Bool
  | [], [] => true
  | t :: ts, (m, T) :: ps => (m == .bor) && (lookup tab t == some T) && parsB tab ts ps
  | _, _ => false

def nils {α : Type} (ps : List α) : List (List Nat) := ps.map fun _ => []
theorem nils_flat {α : Type} : ∀ {ps : List α}, (nils ps).flatten = []
  | [] => rfl
  | _ :: ps => nils_flat (ps := ps)

theorem args_of (htab : TabOk P tab) : ∀ {ts : List TypeId} {vs : List Value} {ps : List (Mode × Ty)}, TellsAll tab w ts vs → (∀ (j : Nat) t v, ts[j]? = some t → vs[j]? = some v → Value.okWide P w r base t v) → parsB tab ts ps = true →
    ∃ x : PVs (ps.map (·.2)), ArgsOk w (Old w) ps vs x (nils ps) ∧ WfVs (ps.map (·.2)) x
  | [], [], [], _, _, _ => ⟨(), trivial, trivial⟩
  | t :: ts, v :: vs, (m, T) :: ps, .cons h1 h2, hv, hp => by
    simp only [parsB, Bool.and_eq_true, beq_iff_eq] at hp
    obtain ⟨⟨rfl, hl⟩, hp⟩ := hp
    obtain ⟨pv, r1, q1⟩ := h1 T hl
    obtain ⟨x, r2, q2⟩ := args_of htab h2 (fun j t v a b => hv (j + 1) t v (by simpa using a) (by simpa using b)) hp
    exact ⟨(pv, x), ⟨⟨⟨_, pack_back (tab_fact htab hl) (hv 0 t v rfl rfl), r1⟩, rfl⟩, r2⟩, q1, q2⟩
  | [], [], _ :: _, _, _, h => by cases h
  | _ :: _, _ :: _, [], _, _, h => by cases h

theorem law_call {k : FuncId} {pars : List (Mode × Ty)} {F : PVs (pars.map (·.2)) → Option (PVs [.bool] × PVs (backs pars))} {g : Glob} (hk : FnOk g P k ⟨pars, [(.bool, false)], F⟩) (hgo : g.ok w) (hgd : ∀ b, g.dom b → b < w.heap.size) (htab : TabOk P tab) {ts : List TypeId} {args : Array Value}
    (hp : parsB tab ts pars = true) (hF : ∀ x, WfVs (pars.map (·.2)) x → ∃ bk, F x = some ((true, ()), bk)) (ht : TellsAll tab w ts args.toList) (hv : ∀ (j : Nat) t v, ts[j]? = some t → args.toList[j]? = some v → Value.okWide P w r base t v) :
    Calls P k args w fun e w' => e = .returned (.bool true) ∧ w'.os = w.os ∧ w'.output = w.output ∧ ∀ b, b < w.heap.size → w'.heap[b]? = w.heap[b]? := by
  obtain ⟨x, h1, h2⟩ := args_of htab ht hv hp
  obtain ⟨bk, hr⟩ := hF x h2
  obtain ⟨_, hc⟩ := hk.2 w (Old w) args.toList x (nils pars) _ (fun b h => h) h1 (by simp only [nils_flat]; exact List.nodup_nil) (by simp only [nils_flat]; intro b hb; cases hb) hgo hgd hr
  refine hc.mono fun e w' ⟨rv, Pr', bv, bms, e1, e2, _, _, _, _, _, e3, _, e4, _, e5⟩ => ?_
  refine ⟨?_, e3, e4, fun b hb => e5 b hb (by simp only [nils_flat]; intro h; cases h)⟩
  subst e1
  obtain ⟨v, rfl, hv⟩ : ∃ v, rv = [v] ∧ v = .bool true := by
    cases rv with
    | nil => exact e2.elim
    | cons v vs =>
      obtain ⟨b1, b2, _, q1, q2⟩ := e2
      cases vs with
      | cons _ _ => exact q2.elim
      | nil =>
        rcases q1 with q1 | ⟨cs, rfl, rfl, _⟩
        · cases q1
        · exact ⟨_, rfl, rfl⟩
  rw [hv]; rfl

end
end Go.Dn

namespace Go.Dn
open Go.ChangeShapes Go.WideShapes Go.ChangeAt Go.RowKit
/-- A law's row, out of the contract of the law and the plain law. -/
theorem law_row {C : Checked} {tab : List (TypeId × Ty)} {os : Os} {k : FuncId} {fn : Func} {s : ChangeSpec} {conds : List PathCond} {H : Type} {enc : TypeId × Value → H} {tb : TypeId}
    {pars : List (Mode × Ty)} {F : PVs (pars.map (·.2)) → Option (PVs [.bool] × PVs (backs pars))}
    (own : ownKnob C.prog.godebug = none) (started : os.Started) (noInit : C.prog.inits.idxOf? k = none) (hfn : C.prog.funcs[k]? = some fn)
    (witness : ∃ (w : World) (tape : Tape) (i : Input), w.os = os ∧ (w.forCall tape i).Shaped C.prog ∧ i.vars = [] ∧ Input.okWide C.prog (w.forCall tape i) .any w.heap.size k i ∧
      s.pre6 enc C.prog fn conds false (w.forCall tape i).memory i.args ∧ ({} : Assume).holds C.prog (lone (Frame.enter C.prog k i.args .normal) [] (w.forCall tape i)))
    (hlaid : laidOutB C.prog = true) (hmaps : mapsRowed C.prog = true)
    (hslices : ((List.range C.prog.types.size).all fun t => match C.prog.underlying t with | some (.slice e) => decide (0 < C.prog.cellsOf e) | _ => true) = true)
    (hps : fn.params.toList.all (fun t => decide (t < C.prog.types.size)) = true)
    (hvars : s.vars = []) (hrt : fn.resultTypes = #[tb]) (hb : C.prog.underlying tb = some .bool)
    (hspec : ∀ ds : List (DataW H), ds.length = pars.length → (s.fn H ds).results = [.lit (.bool true)] ∧ (s.fn H ds).args = ds ∧ (s.fn H ds).vars = [])
    (htab : TabOk C.prog tab) (hk : FnOk noGlob C.prog k ⟨pars, [(.bool, false)], F⟩) (hp : parsB tab fn.params.toList pars = true)
    (hF : ∀ x, WfVs (pars.map (·.2)) x → ∃ bk, F x = some ((true, ()), bk)) :
    ReturnsInHanded {} C os k .any (s.pre6 enc C.prog fn conds false) (s.post enc C.prog fn false true false false) := by
  refine returnsInHanded_of_change (C := C) own started noInit hfn witness ?_
  intro W base args ds gs before hval hW _ _
  obtain ⟨p, q, hA, hV, _, _, _⟩ := id hW
  have hT : ∀ t ∈ fn.params.toList, t < C.prog.types.size := fun t ht => by simpa using List.all_eq_true.1 hps t ht
  have hlen : ds.length = pars.length := by
    have h1 : ∀ {ts : List TypeId} {vs : List Value} {ds : List (DataW H)} {ps : List MemPlace}, DataW.TrodAll enc C.prog W 0 (fun _ => true) true ts vs ds ps → ds.length = ts.length := by
      intro ts
      induction ts with
      | nil => intro vs ds ps h; cases vs <;> cases ds <;> simp_all [DataW.TrodAll]
      | cons t ts ih =>
        intro vs ds ps h
        cases vs with
        | nil => exact h.elim
        | cons v vs =>
          cases ds with
          | nil => exact h.elim
          | cons d ds =>
            obtain ⟨_, _, _, h, _⟩ := h
            simp [ih h]
    have h2 : ∀ {ts : List TypeId} {ps : List (Mode × Ty)}, parsB tab ts ps = true → ts.length = ps.length := by
      intro ts
      induction ts with
      | nil => intro ps h; cases ps <;> simp_all [parsB]
      | cons t ts ih =>
        intro ps h
        cases ps with
        | nil => simp [parsB] at h
        | cons p ps =>
          obtain ⟨m, T⟩ := p
          simp only [parsB, Bool.and_eq_true] at h
          simp [ih h.2]
    rw [h1 hA, h2 hp]
  have hgs : gs = [] := by
    rw [hvars] at hV
    cases gs with
    | nil => rfl
    | cons => exact hV.elim
  subst hgs
  obtain ⟨s1, s2, s3⟩ := hspec ds hlen
  refine (law_call hk trivial (fun _ h => h.elim) htab hp hF (trodAll_tell htab hA) (fun j t v h1 h2 => hval j t v (by rw [← Array.getElem?_toList]; exact h1) (by rw [← Array.getElem?_toList]; exact h2))).mono fun e W' ⟨he, h1, h2, h3⟩ => ?_
  subst he
  exact ⟨_, rfl, post_law (kids_rows hlaid hmaps) (slices_full_of _ hslices) hT hvars hW h3 h1 h2 (by rw [List.append_nil]; exact s1) (by rw [List.append_nil]; exact s2) (by rw [List.append_nil]; exact s3) hrt hb⟩
end Go.Dn
