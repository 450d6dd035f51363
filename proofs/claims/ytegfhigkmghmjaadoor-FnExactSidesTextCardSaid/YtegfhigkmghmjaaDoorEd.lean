/- What the printed texts lean on: loops by number, shapes by slots. -/
import Derived.Test.YtegfhigkmghmjaaDoorEc
namespace Go.Dn

def bodyOf (f : Func) : Code := match f.body with | some c => c | none => .skip

noncomputable def loopsOf : Code → List Code
  | .seq a b => loopsOf a ++ loopsOf b
  | .cond _ a b => loopsOf a ++ loopsOf b
  | .block _ c => loopsOf c
  | .loop c => c :: loopsOf c
  | _ => []

def mkSh (n : Nat) (l : List (Nat × Sh)) : List Sh := (List.range n).map fun k => match lookup l k with | some s => s | none => .none

def LAll (cx : Cx) (rc : Rc) (pl : Plan) (off : Nat) : List Code → Prop
  | [] => True
  | c :: l => (match lookup pl.loops (firstId c) with | some lp => LpOk cx rc pl off c lp | none => True) ∧ LAll cx rc pl off l

theorem LAll.append {cx : Cx} {rc : Rc} {pl : Plan} {off : Nat} : ∀ {a b : List Code}, LAll cx rc pl off (a ++ b) → LAll cx rc pl off a ∧ LAll cx rc pl off b
  | [], _, h => ⟨trivial, h⟩
  | _ :: a, _, h => ⟨⟨h.1, (LAll.append (a := a) h.2).1⟩, (LAll.append (a := a) h.2).2⟩

theorem loopsOk_of {cx : Cx} {rc : Rc} {pl : Plan} {off : Nat} : ∀ {c : Code}, LAll cx rc pl off (loopsOf c) → LoopsOk cx rc pl off c := by
  intro c
  induction c with
  | seq a b iha ihb => intro h; have := LAll.append h; exact ⟨iha this.1, ihb this.2⟩
  | cond x a b iha ihb => intro h; have := LAll.append h; exact ⟨iha this.1, ihb this.2⟩
  | block id c ih => intro h; exact ih h
  | loop c ih => intro h; exact ⟨ih h.2, h.1⟩
  | _ => intro _; trivial

/-- A function without loops, or with its loops told. -/
theorem fnOk {P : Program} {cx : Cx} {pl : Plan} {k : FuncId} {fn : Func} {ct : Ct} {dp : Nat} (hok : Ok0 P cx) (hf : P.funcs[k]? = some fn) (hb : fn.body.isSome = true) (hn : (fn.name == "runtime.NumGoroutine") = false)
    (hunit : (ct.rets.all fun q => !q.1.isUnit) = true) (hlo : LAll cx (rcN cx dp) pl (outN ct.pars) (loopsOf (bodyOf fn)))
    (hF : ∀ xs, denF cx dp pl fn.ntmps (bodyOf fn) fn.results.toList ct.pars ct.rets xs = ct.F xs) : FnOk cx.gl P k ct := by
  have hb' : fn.body = some (bodyOf fn) := by
    unfold bodyOf
    cases h : fn.body with
    | none => rw [h] at hb; cases hb
    | some c => rfl
  exact fnOk_of_den hok hf hb' hn (by rw [Array.toArray_toList]) hunit (loopsOk_of hlo) fun xs r hr => by rw [hF]; exact hr

def AllCt (g : Glob) (P : Program) : List (FuncId × Ct) → Prop
  | [] => True
  | q :: l => FnOk g P q.1 q.2 ∧ AllCt g P l

theorem ctsOk_of {P : Program} {cx : Cx} (h : AllCt cx.gl P cx.cts) : CtsOk P cx := by
  intro k ct hl
  have hm := lookup_mem hl
  have key : ∀ {l : List (FuncId × Ct)}, AllCt cx.gl P l → (k, ct) ∈ l → FnOk cx.gl P k ct := by
    intro l
    induction l with
    | nil => intro _ hm; cases hm
    | cons q l ih =>
      intro h hm
      cases hm with
      | head => exact h.1
      | tail _ hm => exact ih h.2 hm
  exact key h hm

def AllFn (P : Program) (cx : Cx) : List (FuncId × Func × Plan) → Prop
  | [] => True
  | q :: l => (P.funcs[q.1]? = some q.2.1 ∧ (q.2.1.name == "runtime.NumGoroutine") = false ∧ LAll cx (rcN cx q.2.2.lv) q.2.2 q.2.2.off (loopsOf (bodyOf q.2.1))) ∧ AllFn P cx l

theorem allFn_mem {P : Program} {cx : Cx} {q : FuncId × Func × Plan} : ∀ {l : List (FuncId × Func × Plan)}, AllFn P cx l → q ∈ l → P.funcs[q.1]? = some q.2.1 ∧ (q.2.1.name == "runtime.NumGoroutine") = false ∧ LAll cx (rcN cx q.2.2.lv) q.2.2 q.2.2.off (loopsOf (bodyOf q.2.1))
  | [], _, hm => by cases hm
  | _ :: l, h, hm => by
    cases hm with
    | head => exact h.1
    | tail _ hm => exact allFn_mem (l := l) h.2 hm

theorem ok0_of {P : Program} {cx : Cx} (htab : TabOk P cx.tab) (harr : ArrOk P cx) (hmix : P.follows .mixedOrders = true) (hct : AllCt cx.gl P cx.cts) (hfn : AllFn P cx cx.funcs) : Ok0 P cx where
  tab := htab
  arr := harr
  cts := ctsOk_of hct
  fns := fun k f hl => by have := allFn_mem hfn (lookup_mem hl); exact ⟨this.1, this.2.1⟩
  loops := fun k f pl c hl hb => by
    have := allFn_mem hfn (lookup_mem hl)
    have hc : c = bodyOf f := by unfold bodyOf; rw [hb]
    rw [hc]
    exact loopsOk_of this.2.2
  mix := hmix

end Go.Dn
