/- Regions: in the text's order, or in any that Go may take. -/
import Derived.Test.YtegfhigkmghmjaaDoorEa
namespace Go.Dn

section
variable {R : Type}

/-- How code of a function that is taken in place is told. -/
structure Rc where
  run : (R : Type) → Plan → Code → Nat → Env → (Xt → Env → Option R) → Option R

/-- What an operation leads to: its slot, the environment behind it, what was written. -/
structure Zv where
  s : Slot
  e : Env
  w : List Nat

def argE (E : Env) (off : Nat) : List Operand → List Ent
  | [] => []
  | x :: xs => ent (alias E (opd E off x)) :: argE E off xs

def retI (off : Nat) (E : Env) : List ResultVar → Option (Slot × Env)
  | [] => some (.tup [], E)
  | [.tmp t] =>
    match take E (opd E off (.tmp t)) with
    | some (v, us) => some (.val v.t v.o v.x, appU E us)
    | none => none
  | _ => none

def inlK (rc : Rc) (E : Env) (off : Nat) (f : Func) (pl : Plan) (caps : List Al) (xs : List Operand) (K : Zv → Option R) : Option R :=
  match f.body with
  | none => none
  | some c =>
    rc.run R pl c E.length (E ++ (argE E off xs ++ (caps.map (fun a => ent (.addr a)) ++ List.replicate (f.ntmps - (xs.length + caps.length)) (ent .none)))) fun x E2 =>
      match x with
      | .exit _ => none
      | _ =>
        match retI E.length E2 f.results.toList with
        | some (s, E3) =>
          bif E.length == ((keepE (List.range E.length) E3).take E.length).length then K ⟨s, (keepE (List.range E.length) E3).take E.length, List.range E.length⟩ else none
        | none => none

/-- The function that a call takes in place. -/
def inlOf (cx : Cx) (E : Env) (off : Nat) (o : Oper) : Option (FuncId × (Func × Plan) × List Al × List Operand) :=
  match o.op with
  | .call c =>
    match c.callee with
    | .value fo =>
      match (opd E off fo).s with
      | .fn k caps =>
        match lookup cx.funcs k with
        | some f => some (k, f, caps, c.args.toList)
        | none => none
      | _ => none
    | _ => none
  | _ => none

def plainK (cx : Cx) (E : Env) (off : Nat) (o : Oper) (K : SU → Option R) : Option R :=
  match o.op with
  | .call c =>
    match c.callee with
    | .builtin _ => stepK cx E off o K
    | _ => callK cx E off c K
  | _ => stepK cx E off o K

def opK (cx : Cx) (rc : Rc) (E : Env) (off : Nat) (o : Oper) (K : Zv → Option R) : Option R :=
  match inlOf cx E off o with
  | some q => inlK rc E off q.2.1.1 q.2.1.2 q.2.2.1 q.2.2.2 K
  | none => plainK cx E off o fun z => K ⟨z.1, appU E z.2, z.2.map U.ix⟩

def putE (off : Nat) (dst : Option Tmp) (z : Zv) : Env :=
  match dst with
  | some d => setNew z.e (off + d) z.s
  | none => z.e

def setS (E : Env) (k : Nat) (s : Slot) : Env := E.set k ⟨(E.at k).iv, (E.at k).cv, s⟩

def guardK (E : Env) (off : Nat) (l : List Oper) (o : Oper) (A B : Env → Option R) : Option R :=
  match o.guard with
  | none => A E
  | some (g, want) =>
    match (l[g]?).bind (·.dst) with
    | none => none
    | some t =>
      match (E.at (off + t)).s with
      | .val .bool ow b =>
        match want with
        | true => bif b then A (setS E (off + t) (.val .bool ow true)) else B (setS E (off + t) (.val .bool ow false))
        | false => bif b then B (setS E (off + t) (.val .bool ow true)) else A (setS E (off + t) (.val .bool ow false))
      | .tup [] => B E
      | _ => none

def Xt.to : Xt → Exit
  | .normal => .normal
  | .exit id => .exit id
  | .ret => .ret

def deadZ (E : Env) : Zv := ⟨.tup [], E, []⟩

def opsK (cx : Cx) (rc : Rc) (off : Nat) (l : List Oper) : List Oper → Env → (Env → Option R) → Option R
  | [], E, K => K E
  | o :: os, E, K => guardK E off l o (fun E => opK cx rc E off o fun z => opsK cx rc off l os (putE off o.dst z) K) (fun E => opsK cx rc off l os (putE off o.dst (deadZ E)) K)

/-! ### any order -/
structure Ft where
  i : Nat
  r : List Nat
  w : List Nat
  anc : Nat

def rdX (E : Env) (off : Nat) : Operand → List Nat
  | .tmp t => (off + t) :: rootsOf (E.at (off + t)).s
  | _ => []

def guardT (l : List Oper) (o : Oper) : Option Nat := o.guard.bind fun g => (l[g.1]?).bind (·.dst)

/-- What an operation looks at: a move only at the name. -/
def opR (E : Env) (off : Nat) : Op → List Nat
  | .move (.tmp t) => [off + t]
  | .move _ => []
  | o => o.operands.toList.flatMap (rdX E off)

def readsOf (cx : Cx) (E : Env) (off : Nat) (l : List Oper) (o : Oper) : List Nat :=
  (match guardT l o with | some t => [off + t] | none => []) ++ (opR E off o.op ++ (match inlOf cx E off o with | some _ => List.range E.length | none => []))

def writesOf (off : Nat) (o : Oper) (z : Zv) : List Nat := (match o.dst with | some d => [off + d] | none => []) ++ z.w

def ancAt : List Ft → Nat → Nat
  | [], _ => 0
  | f :: fs, i => bif f.i == i then f.anc else ancAt fs i

def ancL (fs : List Ft) : List Edge → Nat
  | [] => 0
  | e :: es => bif Region.binds .any e then (2 ^ e.on ||| ancAt fs e.on) ||| ancL fs es else ancL fs es

def disjN (a b : List Nat) : Bool := a.all fun k => !memN b k
def indep (g f : Ft) : Bool := disjN g.w f.r && (disjN g.w f.w && disjN f.w g.r)
def okD : List Ft → Bool
  | [] => true
  | f :: fs => (fs.all fun g => indep g f || f.anc.testBit g.i) && okD fs

def backE : List Oper → Nat → Bool
  | [], _ => true
  | o :: os, i => (o.after.toList.all fun e => !Region.binds .any e || decide (e.on < i)) && backE os (i + 1)

def opsD (cx : Cx) (rc : Rc) (off : Nat) (l : List Oper) : List Oper → Nat → Env → List Ft → (Env → Option R) → Option R
  | [], _, E, fs, K => bif okD fs then K E else none
  | o :: os, i, E, fs, K =>
    guardK E off l o
      (fun E' => opK cx rc E' off o fun z => opsD cx rc off l os (i + 1) (putE off o.dst z) (⟨i, readsOf cx E off l o, writesOf off o z, ancL fs o.after.toList⟩ :: fs) K)
      (fun E' => opsD cx rc off l os (i + 1) (putE off o.dst (deadZ E')) (⟨i, readsOf cx E off l o, writesOf off o (deadZ E'), ancL fs o.after.toList⟩ :: fs) K)

def regionK (cx : Cx) (rc : Rc) (off : Nat) (ops : Array Oper) (draw : Bool) (E : Env) (K : Env → Option R) : Option R :=
  match draw with
  | true => bif backE ops.toList 0 then opsD cx rc off ops.toList ops.toList 0 E [] K else none
  | false => opsK cx rc off ops.toList ops.toList E K

end

section
variable {w0 : World} {Pr0 M : Nat → Prop} {outer : List Value} {ds : List Deferred}
variable {P : Program} {cx : Cx} {E : Env} {w : World} {a : Act} {R : Type} {r : R} {Pr : Nat → Prop} {B : Nat → List Nat}

/-- The state, with the frame's own slots behind the outer ones. -/
structure Sx (w0 : World) (Pr0 M : Nat → Prop) (outer : List Value) (ds : List Deferred) (E : Env) (a : Act) (w : World) : Prop where
  st : St w0 Pr0 M E (outer ++ a.tmps.toList) w
  ds : a.defers = ds

theorem St.len {V : List Value} (h : St w0 Pr0 M E V w) : E.length = V.length := by obtain ⟨Pr, B, h, _⟩ := h; exact h.len

theorem put_list (dst : Option Tmp) (v : Value) : outer ++ (a.put dst v).tmps.toList = match dst with | some d => (outer ++ a.tmps.toList).set (outer.length + d) v | none => outer ++ a.tmps.toList := by
  cases dst with
  | none => rfl
  | some d =>
    show outer ++ (a.tmps.setIfInBounds d v).toList = _
    rw [Array.toList_setIfInBounds]
    simp only
    rw [List.set_append_right _ _ (by omega), Nat.add_sub_cancel_left]

theorem Hand.putZ {z : Zv} {dst : Option Tmp} {v : Value} (h : Hand w0 Pr0 M z.e (outer ++ a.tmps.toList) w z.s v) :
    St w0 Pr0 M (Dn.putE outer.length dst z) (outer ++ (a.put dst v).tmps.toList) w := by
  rw [put_list]
  cases dst with
  | none => exact h.drop
  | some d =>
    simp only [Dn.putE]
    by_cases hk : outer.length + d < z.e.length
    · exact h.put hk
    · have hl := St.len h.drop
      have e1 : setNew z.e (outer.length + d) z.s = z.e := List.set_eq_of_length_le (by omega)
      have e2 : (outer ++ a.tmps.toList).set (outer.length + d) v = outer ++ a.tmps.toList := List.set_eq_of_length_le (by omega)
      rw [e1, e2]
      exact h.drop

theorem Sx.fr (_h : Sx w0 Pr0 M outer ds E a w) : Fr outer.length (outer ++ a.tmps.toList) a := ⟨outer, rfl, rfl⟩

theorem put_defers (dst : Option Tmp) (v : Value) : (a.put dst v).defers = a.defers := by cases dst <;> rfl

/-- What is told of code taken in place holds. -/
def RcOk (P : Program) (cx : Cx) (rc : Rc) : Prop :=
  ∀ (w0 : World) (Pr0 M : Nat → Prop) (outer : List Value) (ds : List Deferred) (R : Type) (pl : Plan) (c : Code) (r : R) (E : Env) (a : Act) (w : World) (K : Xt → Env → Option R) (Q : Exit → Act → World → Prop),
    GlOk cx.gl w0 Pr0 M → (∃ k f, lookup cx.funcs k = some (f, pl) ∧ f.body = some c) → rc.run R pl c outer.length E K = some r → Sx w0 Pr0 M outer ds E a w → (∀ x E' a' w', K x E' = some r → Sx w0 Pr0 M outer ds E' a' w' → Q x.to a' w') → c.wp P Q a w

def FuncsOk (P : Program) (cx : Cx) : Prop := ∀ k f, lookup cx.funcs k = some f → P.funcs[k]? = some f.1 ∧ (f.1.name == "runtime.NumGoroutine") = false

theorem alias_row (h : StB w0 Pr0 M E (outer ++ a.tmps.toList) w Pr B) (hN : ∀ k, E.length ≤ k → B k = []) {xs : List Operand} {i : Nat} {e : Ent} {v : Value} (he : (argE E outer.length xs)[i]? = some e) (hv : (xs.map a.eval)[i]? = some v) :
    SlotOk w Pr E (outer ++ a.tmps.toList) B E.length e.s v := by
  induction xs generalizing i with
  | nil => simp [argE] at he
  | cons x xs ih =>
    cases i with
    | zero =>
      simp only [argE, List.getElem?_cons_zero, Option.some.injEq, List.map_cons] at he hv
      subst he; subst hv
      exact alias_ok h (opd_ok h ⟨outer, rfl, rfl⟩ x) (hN _ (Nat.le_refl _))
    | succ i => exact ih (by simpa [argE] using he) (by simpa using hv)

theorem argE_len {xs : List Operand} {off : Nat} : (argE E off xs).length = xs.length := by
  induction xs with
  | nil => rfl
  | cons x xs ih => simp [argE, ih]

theorem argE_noB {xs : List Operand} {off i : Nat} {e : Ent} (he : (argE E off xs)[i]? = some e) : ∃ d, e = ent (alias E d) := by
  induction xs generalizing i with
  | nil => simp [argE] at he
  | cons x xs ih =>
    cases i with
    | zero => simp only [argE, List.getElem?_cons_zero, Option.some.injEq] at he; exact ⟨_, he.symm⟩
    | succ i => exact ih (by simpa [argE] using he)

/-- More slots behind, that own nothing. -/
theorem St.more {E : Env} {V : List Value} {ex : List Ent} {vx : List Value} (h : StB w0 Pr0 M E V w Pr B) (hN : ∀ k, E.length ≤ k → B k = []) (hl : ex.length = vx.length)
    (hx : ∀ (i : Nat) (e : Ent) (v : Value), ex[i]? = some e → vx[i]? = some v → SlotOk w Pr E V B E.length e.s v) : St w0 Pr0 M (E ++ ex) (V ++ vx) w := by
  have lift : ∀ {k k' : Nat} {s : Slot} {v : Value}, B k' = B k → SlotOk w Pr E V B k s v → SlotOk w Pr (E ++ ex) (V ++ vx) B k' s v := by
    intro k k' s v hB hs
    have get : ∀ {j : Nat} {e : Ent}, E[j]? = some e → (E ++ ex)[j]? = some e := fun he => by rw [List.getElem?_append_left (List.getElem?_eq_some_iff.1 he).1]; exact he
    have getV : ∀ {j : Nat} {v : Value}, V[j]? = some v → (V ++ vx)[j]? = some v := fun he => by rw [List.getElem?_append_left (List.getElem?_eq_some_iff.1 he).1]; exact he
    have addr : ∀ {al : Al} {v : Value}, AddrOk w E V al v → AddrOk w (E ++ ex) (V ++ vx) al v := fun ⟨e, vj, hl, hv, hk⟩ => ⟨e, vj, ⟨get hl.1, hl.2⟩, getV hv, hk⟩
    cases s with
    | none => trivial
    | val t o x => show ValOk _ _ _ _ _ _ _; rw [hB]; exact hs
    | var t o x => show VarOk _ _ _ _ _ _ _; rw [hB]; exact hs
    | hole iV t o x p => show HoleOk _ _ _ _ _ _ _ _ _; rw [hB]; exact hs
    | sub al => obtain ⟨e, vj, hl, hv, hk⟩ := hs; exact ⟨e, vj, ⟨get hl.1, hl.2⟩, getV hv, hk⟩
    | addr al => exact addr hs
    | view al t x => obtain ⟨e, hl, hk⟩ := hs; exact ⟨e, ⟨get hl.1, hl.2⟩, hk⟩
    | bad t x => exact hs
    | fn f caps => obtain ⟨vs, h1, h2⟩ := hs; exact ⟨vs, h1, h2.imp fun _ _ => addr⟩
    | tup l => obtain ⟨vs, h1, h2⟩ := hs; exact ⟨vs, h1, by rw [hB]; exact h2⟩
  refine ⟨Pr, B, { len := by simp [h.len, hl], pr0 := h.pr0, prlt := h.prlt, prnew := h.prnew, slots := fun k e v he hv => ?_, nodup := h.nodup, disj := h.disj, free := h.free, os := h.os, tape := h.tape, output := h.output, size := h.size, frame := h.frame }, fun k hk => hN k (by simp at hk; omega)⟩
  by_cases hk : k < E.length
  · rw [List.getElem?_append_left hk] at he
    rw [List.getElem?_append_left (by rw [← h.len]; exact hk)] at hv
    exact lift rfl (h.slots k e v he hv)
  · rw [List.getElem?_append_right (by omega)] at he
    rw [List.getElem?_append_right (by rw [← h.len]; omega), ← h.len] at hv
    exact lift (k := E.length) (by rw [hN k (by omega), hN E.length (Nat.le_refl _)]) (hx _ e v he hv)

theorem getElem?_app' {α : Type} {l1 l2 : List α} {k : Nat} {x : α} (h : (l1 ++ l2)[k]? = some x) : (k < l1.length ∧ l1[k]? = some x) ∨ (l1.length ≤ k ∧ l2[k - l1.length]? = some x) := by
  by_cases hk : k < l1.length
  · exact .inl ⟨hk, by rwa [List.getElem?_append_left hk] at h⟩
  · exact .inr ⟨by omega, by rwa [List.getElem?_append_right (by omega)] at h⟩

theorem range_memN {n k : Nat} : memN (List.range n) k = true ↔ k < n := by
  have key : ∀ {l : List Nat} {k : Nat}, memN l k = true ↔ k ∈ l := by
    intro l
    induction l with
    | nil => simp [memN]
    | cons j l ih =>
      intro k
      simp only [memN, List.mem_cons]
      cases h : j == k with
      | true => have : j = k := by simpa using h
                simp [this]
      | false =>
        have : ¬ (k = j) := fun e => by simp [e] at h
        simp [this, ih]
  rw [key, List.mem_range]

/-- What a call in place hands back. -/
theorem retI_ok {outer2 : List Value} {f : Func} {E2 E3 : Env} {s : Slot} (h : Sx w0 Pr0 M outer2 [] E2 a w) {n : Nat} (hn : n = outer2.length) (hr : retI n E2 f.results.toList = some (s, E3)) (hle : n ≤ E2.length) :
    ∃ v, (results f a.tmps).run P w = .ok v w ∧ Hand w0 Pr0 M ((keepE (List.range n) E3).take n) outer2 w s v ∧ ((keepE (List.range n) E3).take n).length = n := by
  subst hn
  obtain ⟨⟨Pr, B, hst, hN⟩, hds⟩ := h
  have fin : ∀ {E3 : Env} {B3 : Nat → List Nat} {s : Slot} {v : Value}, E3.length = E2.length → StB w0 Pr0 M E3 (outer2 ++ a.tmps.toList) w Pr B3 → (∀ E' V', SlotOk w Pr E' V' B3 E3.length s v) → (∀ E' V' B' k, B' k = B3 E3.length → SlotOk w Pr E' V' B' k s v) →
      Hand w0 Pr0 M ((keepE (List.range outer2.length) E3).take outer2.length) outer2 w s v ∧ ((keepE (List.range outer2.length) E3).take outer2.length).length = outer2.length := by
    intro E3 B3 s v hl h3 _ hs
    have hlen : ((keepE (List.range outer2.length) E3).take outer2.length).length = outer2.length := by
      rw [List.length_take]
      have : (keepE (List.range outer2.length) E3).length = E3.length := keepL_len
      omega
    refine ⟨⟨Pr, (fun k => if k < outer2.length then (bif memN (List.range outer2.length) k then B3 k else []) else if k = outer2.length then B3 E3.length else []), ?_, ?_, fun k hk => ?_⟩, hlen⟩
    · have := h3.keep (keep := List.range outer2.length) (n := outer2.length) (N := E3.length) (by omega) (Nat.le_refl _) (fun k hk _ => range_memN.1 hk)
      rw [List.take_append_of_le_length (Nat.le_refl _), List.take_length] at this
      exact this
    · refine hs _ _ _ _ ?_
      rw [hlen]
      simp
    · rw [hlen] at hk
      simp only
      rw [if_neg (by omega), if_neg (by omega)]
  unfold retI at hr
  split at hr
  · rename_i hres
    simp only [Option.some.injEq, Prod.mk.injEq] at hr
    obtain ⟨rfl, rfl⟩ := hr
    have hres' : f.results = #[] := by rw [← Array.toList_inj]; exact hres
    refine ⟨.tuple #[], by simp [results, hres'], fin rfl hst (fun _ _ => ⟨[], rfl, hN _ (Nat.le_refl _)⟩) (fun _ _ _ _ hb => ⟨[], rfl, by rw [hb]; exact hN _ (Nat.le_refl _)⟩)⟩
  · rename_i t hres
    have hres' : f.results = #[.tmp t] := by rw [← Array.toList_inj]; exact hres
    split at hr
    · rename_i v us ht
      simp only [Option.some.injEq, Prod.mk.injEq] at hr
      obtain ⟨rfl, rfl⟩ := hr
      obtain ⟨B1, g1, g2, g3, g4⟩ := take_ok hst (Nat.le_refl _) (hN _ (Nat.le_refl _)) (opd_ok hst ⟨outer2, rfl, rfl⟩ (.tmp t)) ht
      refine ⟨a.eval (.tmp t), by simp [results, hres', Act.eval], fin g4 g1 (fun _ _ => ?_) (fun _ _ _ _ hb => ?_)⟩
      · show ValOk _ _ _ _ _ _ _
        rw [g4]; exact g2
      · show ValOk _ _ _ _ _ _ _
        rw [hb, g4]; exact g2
    · cases hr
  · cases hr

theorem inlOf_some {cx : Cx} {E : Env} {off : Nat} {o : Oper} {k : FuncId} {f : Func × Plan} {caps : List Al} {xs : List Operand} (h : inlOf cx E off o = some (k, f, caps, xs)) :
    ∃ c fo, o.op = .call c ∧ c.callee = .value fo ∧ (opd E off fo).s = .fn k caps ∧ lookup cx.funcs k = some f ∧ xs = c.args.toList := by
  unfold inlOf at h
  split at h
  · rename_i c hop
    split at h
    · rename_i fo hc
      split at h
      · rename_i k' caps' hs
        split at h
        · rename_i f' hf
          simp only [Option.some.injEq, Prod.mk.injEq] at h
          obtain ⟨rfl, rfl, rfl, rfl⟩ := h
          exact ⟨c, fo, hop, hc, hs, hf, rfl⟩
        · cases h
      · cases h
    · cases h
  · cases h

theorem call_enter2 {k : FuncId} {fn : Func} {o : Oper} {c : Call} {fo : Operand} {cv : Array Value} (hop : o.op = .call c) (hc : c.callee = .value fo) (hv : a.eval fo = .func (.func k) #[] cv) (hfn : P.funcs[k]? = some fn) (hb : fn.body.isNone = false) (hn : (fn.name == "runtime.NumGoroutine") = false) (w : World) :
    (execOp a.eval o).run P w = .ok (.enter k (c.args.map a.eval ++ cv)) w := by
  simp only [execOp, hop, resolve, hc, hv, Deferred.ofValue]
  show (callFunc k ((#[] ++ c.args.map a.eval) ++ cv)).run P w = _
  simp only [Array.empty_append]
  exact call_enter hfn hb hn _ _

theorem caps_row {caps : List Al} {cv : List Value} (h : AllL (AddrOk w E (outer ++ a.tmps.toList)) caps cv) {i : Nat} {e : Ent} {v : Value} (he : (caps.map (fun al => ent (.addr al)))[i]? = some e) (hv : cv[i]? = some v) : SlotOk w Pr E (outer ++ a.tmps.toList) B E.length e.s v := by
  induction caps generalizing cv i with
  | nil => simp at he
  | cons al caps ih =>
    cases cv with
    | nil => simp at hv
    | cons u cv =>
      cases i with
      | zero =>
        simp only [List.map_cons, List.getElem?_cons_zero, Option.some.injEq] at he hv
        subst he; subst hv
        exact h.1
      | succ i => exact ih h.2 (by simpa using he) (by simpa using hv)

theorem allL_len {α β : Type} {S : α → β → Prop} : ∀ {as : List α} {bs : List β}, AllL S as bs → as.length = bs.length
  | [], [], _ => rfl
  | a :: as, b :: bs, h => by simp [allL_len h.2]
  | [], _ :: _, h => h.elim
  | _ :: _, [], h => h.elim

theorem inl_ok {rc : Rc} (hfs : FuncsOk P cx) (hrc : RcOk P cx rc) (hgl : GlOk cx.gl w0 Pr0 M) {o : Oper} {K : Zv → Option R} {q : FuncId × (Func × Plan) × List Al × List Operand} (h : Sx w0 Pr0 M outer ds E a w) (hq : inlOf cx E outer.length o = some q)
    (hs : inlK rc E outer.length q.2.1.1 q.2.1.2 q.2.2.1 q.2.2.2 K = some r) (next : Act → World → Prop) (Q : Exit → Act → World → Prop)
    (hn : ∀ z a' w', K z = some r → Sx w0 Pr0 M outer ds (putE outer.length o.dst z) a' w' → next a' w') : o.wp P a w next Q := by
  obtain ⟨k, ⟨f, pl⟩, caps, xs⟩ := q
  obtain ⟨c, fo, hop, hc, hfk, hf, rfl⟩ := inlOf_some hq
  simp only at hs
  unfold inlK at hs
  split at hs
  · cases hs
  rename_i body hbody
  obtain ⟨hfn, hname⟩ := hfs k _ hf
  simp only at hfn hname
  obtain ⟨⟨Pr, B, hst, hN⟩, hds⟩ := id h
  have hlen := hst.len
  have hcap : ∃ cv : List Value, a.eval fo = .func (.func k) #[] cv.toArray ∧ AllL (AddrOk w E (outer ++ a.tmps.toList)) caps cv := by
    have ho := opd_ok hst ⟨outer, rfl, rfl⟩ fo
    cases hix : (opd E outer.length fo).ix with
    | none =>
      unfold OpdOk at ho
      rw [hix, hfk] at ho
      obtain ⟨rfl, hv⟩ := ho
      exact ⟨[], hv, trivial⟩
    | some j =>
      have := opdOk_tmp hst ho hix
      rw [hfk] at this
      exact this
  obtain ⟨cv, hv, hcv⟩ := hcap
  unfold Oper.wp
  rw [call_enter2 hop hc hv hfn (by rw [hbody]; rfl) hname w]
  show Calls P k _ w _
  refine calls_of_wp hfn hbody ?_
  have hcl := allL_len hcv
  have hst2 : Sx w0 Pr0 M (outer ++ a.tmps.toList) [] (E ++ (argE E outer.length c.args.toList ++ (caps.map (fun a => ent (.addr a)) ++ List.replicate (f.ntmps - (c.args.toList.length + caps.length)) (ent .none))))
      { tmps := (c.args.map a.eval ++ cv.toArray) ++ Array.replicate (f.ntmps - (c.args.map a.eval ++ cv.toArray).size) undef, defers := [] } w := by
    refine ⟨?_, rfl⟩
    have e1 : ((c.args.map a.eval ++ cv.toArray) ++ Array.replicate (f.ntmps - (c.args.map a.eval ++ cv.toArray).size) undef).toList =
        c.args.toList.map a.eval ++ (cv ++ List.replicate (f.ntmps - (c.args.toList.length + caps.length)) undef) := by
      simp [hcl]
    simp only [e1]
    refine St.more hst hN (by simp [argE_len, hcl]) fun i e v he hv => ?_
    rcases getElem?_app' he with ⟨p1, p2⟩ | ⟨p1, p2⟩
    · rw [argE_len] at p1
      rw [List.getElem?_append_left (by simpa using p1)] at hv
      exact alias_row hst hN p2 hv
    · rw [argE_len] at p1 p2
      rw [List.getElem?_append_right (by simpa using p1)] at hv
      simp only [List.length_map] at hv
      rcases getElem?_app' p2 with ⟨q1, q2⟩ | ⟨q1, q2⟩
      · simp only [List.length_map] at q1
        rw [List.getElem?_append_left (by omega)] at hv
        exact caps_row hcv q2 hv
      · rw [List.getElem?_replicate] at q2
        split at q2
        · obtain rfl := Option.some.inj q2; trivial
        · cases q2
  rw [hlen] at hs
  refine hrc w0 Pr0 M (outer ++ a.tmps.toList) [] R pl body r _ _ w _ _ hgl ⟨k, f, hf, hbody⟩ hs hst2 fun x E2 a' w' hk hx => ?_
  have fin : ∀ (s : Slot) (E3 : Env), retI (outer ++ a.tmps.toList).length E2 f.results.toList = some (s, E3) →
      (bif (outer ++ a.tmps.toList).length == ((keepE (List.range (outer ++ a.tmps.toList).length) E3).take (outer ++ a.tmps.toList).length).length then K ⟨s, (keepE (List.range (outer ++ a.tmps.toList).length) E3).take (outer ++ a.tmps.toList).length, List.range (outer ++ a.tmps.toList).length⟩ else none) = some r →
      a'.defers = [] ∧ ∃ v, (results f a'.tmps).run P w' = .ok v w' ∧ next (a.put o.dst v) w' := by
    intro s E3 hret hk
    have hl2 : (outer ++ a.tmps.toList).length ≤ E2.length := by
      have := St.len hx.st
      simp only [List.length_append] at this ⊢
      omega
    obtain ⟨v, h1, h2, h3⟩ := retI_ok (P := P) hx rfl hret hl2
    refine ⟨hx.ds, v, h1, ?_⟩
    rw [h3, beq_self_eq_true, cond_true] at hk
    exact hn _ _ _ hk ⟨Hand.putZ h2, by rw [put_defers, hds]⟩
  cases x with
  | exit id => cases hk
  | normal =>
    simp only at hk
    split at hk
    · rename_i s E3 hret
      exact fin s E3 hret hk
    · cases hk
  | ret =>
    simp only at hk
    split at hk
    · rename_i s E3 hret
      exact fin s E3 hret hk
    · cases hk

theorem plain_ok (htab : TabOk P cx.tab) (harr : ArrOk P cx) (hcts : CtsOk P cx) (hgl : GlOk cx.gl w0 Pr0 M) {o : Oper} {K : SU → Option R} (h : Sx w0 Pr0 M outer ds E a w) (hs : plainK cx E outer.length o K = some r) :
    ∃ z, K z = some r ∧ ∀ (next : Act → World → Prop) (Q : Exit → Act → World → Prop), (∀ a' w', Sx w0 Pr0 M outer ds (putE outer.length o.dst ⟨z.1, appU E z.2, z.2.map U.ix⟩) a' w' → next a' w') → o.wp P a w next Q := by
  obtain ⟨⟨Pr, B, hst, hN⟩, hds⟩ := h
  have hf : Fr outer.length (outer ++ a.tmps.toList) a := ⟨outer, rfl, rfl⟩
  have main : ∃ z, K z = some r ∧ OpDoes w0 Pr0 M P E (outer ++ a.tmps.toList) w a o z := by
    unfold plainK at hs
    split at hs
    · rename_i c hop
      split at hs
      · obtain ⟨z, h1, h2⟩ := step_ok htab harr hst hN hf hs
        exact ⟨z, h1, h2.does⟩
      · exact call_ok hcts hgl hop hst hN hf hs
    · obtain ⟨z, h1, h2⟩ := step_ok htab harr hst hN hf hs
      exact ⟨z, h1, h2.does⟩
  obtain ⟨z, h1, h2⟩ := main
  refine ⟨z, h1, fun next Q hn => ?_⟩
  refine Oper.wp_mono ?_ (h2 Q)
  rintro a' w' ⟨v, rfl, hlen, hh⟩
  exact hn _ _ ⟨Hand.putZ (z := ⟨z.1, appU E z.2, z.2.map U.ix⟩) hh, by rw [put_defers, hds]⟩

/-- All that the interpreter leans on. -/
structure Ok (P : Program) (cx : Cx) (rc : Rc) (w0 : World) (Pr0 M : Nat → Prop) : Prop where
  tab : TabOk P cx.tab
  arr : ArrOk P cx
  cts : CtsOk P cx
  fns : FuncsOk P cx
  rc : RcOk P cx rc
  mix : P.follows .mixedOrders = true
  gl : GlOk cx.gl w0 Pr0 M

theorem opK_ok {rc : Rc} (hk : Ok P cx rc w0 Pr0 M) {o : Oper} {K : Zv → Option R} (h : Sx w0 Pr0 M outer ds E a w) (hs : opK cx rc E outer.length o K = some r) (next : Act → World → Prop) (Q : Exit → Act → World → Prop)
    (hn : ∀ z a' w', K z = some r → Sx w0 Pr0 M outer ds (putE outer.length o.dst z) a' w' → next a' w') : o.wp P a w next Q := by
  unfold opK at hs
  split at hs
  · rename_i q hq
    exact inl_ok hk.fns hk.rc hk.gl h hq hs next Q hn
  · obtain ⟨z, h1, h2⟩ := plain_ok hk.tab hk.arr hk.cts hk.gl h hs
    exact h2 next Q fun a' w' hx => hn _ a' w' h1 hx

theorem skip_put (dst : Option Tmp) (h : Sx w0 Pr0 M outer ds E a w) : Sx w0 Pr0 M outer ds (putE outer.length dst (deadZ E)) (a.put dst undef) w := by
  obtain ⟨⟨Pr, B, hst, hN⟩, hds⟩ := h
  exact ⟨Hand.putZ (z := deadZ E) ⟨Pr, B, hst, ⟨[], rfl, hN _ (Nat.le_refl _)⟩, fun k hk => hN k (by simp only [deadZ] at hk; omega)⟩, by rw [put_defers, hds]⟩

/-! ### guards -/
/-- What the guard says. -/
def gd (E : Env) (off : Nat) (l : List Oper) (o : Oper) : Option Bool :=
  match o.guard with
  | none => some true
  | some (g, want) =>
    match (l[g]?).bind (·.dst) with
    | none => none
    | some t =>
      match (E.at (off + t)).s with
      | .val .bool _ b => some (b == want)
      | .tup [] => some false
      | _ => none

theorem setS_same {k : Nat} {s : Slot} (h : (E.at k).s = s) : setS E k s = E := by
  apply List.ext_getElem?
  intro i
  simp only [setS, List.getElem?_set]
  split
  · rename_i e
    subst e
    split
    · rename_i hk
      have := List.getElem?_eq_getElem (l := E) hk
      rw [this, ← h]
      have h2 := at_of this
      rw [h2]
    · rename_i hk; rw [List.getElem?_eq_none (by omega)]
  · rfl

theorem guardK_eq {off : Nat} {l : List Oper} {o : Oper} {A B : Env → Option R} : guardK E off l o A B = match gd E off l o with | none => none | some true => A E | some false => B E := by
  unfold guardK gd
  cases o.guard with
  | none => rfl
  | some q =>
    obtain ⟨g, want⟩ := q
    simp only
    cases (l[g]?).bind (·.dst) with
    | none => rfl
    | some t =>
      simp only
      split
      · rename_i ow b hs
        cases want <;> cases b <;> simp only [cond_true, cond_false, setS_same hs] <;> rfl
      · rfl
      · rfl

theorem gd_ok {ops : Array Oper} {o : Oper} {b : Bool} (h : Sx w0 Pr0 M outer ds E a w) (hg : gd E outer.length ops.toList o = some b) : Region.wanted o (yielded ops a.tmps) = b := by
  unfold gd at hg
  unfold Region.wanted
  split at hg
  · rename_i hgu; rw [hgu]; simpa using hg
  · rename_i g want hgu
    rw [hgu]
    simp only
    split at hg
    · cases hg
    · rename_i t ht
      rw [Array.getElem?_toList] at ht
      unfold yielded
      rw [ht]
      simp only [Option.bind_some]
      obtain ⟨⟨Pr, B, hst, hN⟩, hds⟩ := h
      have hf : Fr outer.length (outer ++ a.tmps.toList) a := ⟨outer, rfl, rfl⟩
      have ho := opd_ok hst hf (.tmp t)
      split at hg
      · rename_i ow bb hs
        have hr : rd E (opd E outer.length (.tmp t)).s = some ⟨.bool, bb⟩ := by
          show rd E (E.at (outer.length + t)).s = _
          rw [hs]; rfl
        have hv := rd_bool hst ho hr
        have : a.tmps[t]? = some (.bool bb) := by
          simp only [Act.eval] at hv
          rw [Array.getD_eq_getD_getElem?] at hv
          cases hq : a.tmps[t]? with
          | none => rw [hq] at hv; simp [undef] at hv
          | some u => rw [hq] at hv; simpa using hv
        rw [this]
        simp only [Option.some.injEq] at hg
        subst hg
        cases bb <;> cases want <;> rfl
      · rename_i hs
        have hso := opdOk_tmp hst ho (k := outer.length + t) rfl
        have hso : SlotOk w Pr E (outer ++ a.tmps.toList) B (outer.length + t) (E.at (outer.length + t)).s _ := hso
        rw [hs] at hso
        obtain ⟨vs, h1, h2⟩ := hso
        cases vs with
        | cons => exact h2.elim
        | nil =>
          have : ∀ b, a.tmps[t]? ≠ some (.bool b) := by
            intro b hq
            simp only [Act.eval] at h1
            rw [Array.getD_eq_getD_getElem?, hq] at h1
            cases h1
          cases hq : a.tmps[t]? with
          | none => simpa using hg
          | some u =>
            cases u <;> first | (exact absurd hq (this _)) | (simpa using hg)
      · cases hg

/-! ### the text's order -/
theorem opsK_ok {rc : Rc} (hok : Ok P cx rc w0 Pr0 M) {ops : Array Oper} {Q : Exit → Act → World → Prop} {K : Env → Option R}
    (hK : ∀ E a w, K E = some r → Sx w0 Pr0 M outer ds E a w → Q .normal a w) : ∀ (l2 : List Oper) (i : Nat) (E : Env) (a : Act) (w : World),
    ops.toList.drop i = l2 → opsK cx rc outer.length ops.toList l2 E K = some r → Sx w0 Pr0 M outer ds E a w → wpOps P ops Q (List.range' i l2.length) a w
  | [], i, E, a, w, _, hs, hx => hK E a w hs hx
  | o :: os, i, E, a, w, hd, hs, hx => by
    have hi : ops[i]? = some o := by
      rw [← Array.getElem?_toList]
      have := congrArg (fun l => l[0]?) hd
      simpa using this
    have hd' : ops.toList.drop (i + 1) = os := by rw [← List.tail_drop, hd]; rfl
    simp only [opsK] at hs
    rw [guardK_eq] at hs
    simp only [List.length_cons, List.range'_succ]
    rw [wpOps_cons]
    unfold wpOp
    rw [hi]
    simp only
    cases hg : gd E outer.length ops.toList o with
    | none => rw [hg] at hs; cases hs
    | some b =>
      rw [hg] at hs
      rw [gd_ok hx hg]
      cases b with
      | true => exact .inl (opK_ok hok hx hs _ _ fun z a' w' h1 hx' => opsK_ok hok hK os (i + 1) _ a' w' hd' h1 hx')
      | false => exact opsK_ok hok hK os (i + 1) _ _ w hd' hs (skip_put o.dst hx)

end
end Go.Dn
