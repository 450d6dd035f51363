/- The interpreter's environment: what each slot of a frame is known to hold, and what that says of the machine's values and memory. -/
import Derived.Test.YtegfhigkmghmjaaDoorDc
namespace Go.Dn

/-- A name for a place: slot, path, the versions at which it was taken. -/
structure Al where
  j : Nat
  p : List PE
  iv : Nat
  cv : Nat

/-- A value with its type and ownership. -/
structure TV where
  t : Ty
  o : Ow
  x : PV t

inductive Slot where
  | none
  | val (t : Ty) (o : Ow) (x : PV t)
  | var (t : Ty) (o : Ow) (x : PV t)
  | hole (isVar : Bool) (t : Ty) (o : Ow) (x : PV t) (p : List PE)
  | sub (a : Al)
  | addr (a : Al)
  | view (a : Al) (t : Ty) (x : PV t)
  | bad (t : Ty) (x : PV t)
  | fn (f : FuncId) (caps : List Al)
  | tup (l : List TV)

structure Ent where
  iv : Nat
  cv : Nat
  s : Slot

abbrev Env := List Ent

def Env.at (E : Env) (k : Nat) : Ent := E.getD k ⟨0, 0, .none⟩

/-- The cells at a place, read off. -/
def readCells (w : World) (b off : Nat) : Nat → List Value
  | 0 => []
  | n + 1 => (w.cell? ⟨b, off, none⟩).getD undef :: readCells w b (off + 1) n

theorem HoldsAt.read {w : World} : ∀ {cs : List Value} {b off : Nat}, HoldsAt w b off cs → readCells w b off cs.length = cs
  | [], _, _, _ => rfl
  | v :: cs, b, off, h => by
    simp only [List.length_cons, readCells]
    rw [h.cell, Option.getD_some, HoldsAt.read (cs := cs) (b := b) (off := off + 1) (by simpa using HoldsAt.right (c1 := [v]) (c2 := cs) h)]

/-- A root's own part: value 'v', blocks 'bs'. -/
def VarOk (w : World) (Pr : Nat → Prop) (v : Value) (t : Ty) (o : Ow) (x : PV t) (bs : List Nat) : Prop :=
  ∃ b cs bs0, v = .pointer (some ⟨b, 0, none⟩) ∧ HoldsAt w b 0 cs ∧ Rep w Pr t o cs x bs0 ∧ bs.Perm (b :: bs0)
def ValOk (w : World) (Pr : Nat → Prop) (v : Value) (t : Ty) (o : Ow) (x : PV t) (bs : List Nat) : Prop :=
  ∃ cs, v = pack t cs ∧ Rep w Pr t o cs x bs
def RootOk (w : World) (Pr : Nat → Prop) (isVar : Bool) (v : Value) (t : Ty) (o : Ow) (x : PV t) (bs : List Nat) : Prop :=
  if isVar then VarOk w Pr v t o x bs else ValOk w Pr v t o x bs

/-- Where a place lies, from its root's value. -/
def locOf (w : World) (isVar : Bool) (t : Ty) (v : Value) (p : List PE) : Option (Nat × Nat) :=
  match isVar, v with
  | true, .pointer (some ⟨b, 0, Option.none⟩) => locate w p t b 0
  | false, .slice (some a) _ _ =>
    match p, t with
    | .ix n :: p, .slice _ t => locate w p t a.block (n * t.size)
    | _, _ => Option.none
  | _, _ => Option.none

/-- A root of which the part at 'p' is away: the rest owns 'bs'; what comes when it is filled again. -/
def HoleOk (w : World) (Pr : Nat → Prop) (isVar : Bool) (v : Value) (t : Ty) (o : Ow) (x : PV t) (p : List PE) (bs : List Nat) : Prop :=
  ∃ b' off' cs', locOf w isVar t v p = some (b', off') ∧ HoldsAt w b' off' cs' ∧ cs'.length = (getT p t).size ∧ b' ∈ bs ∧ OkPath p t o x ∧
  (∀ (w2 : World) (cs2 : List Value), (∀ k, k ∈ bs → k ≠ b' → w2.heap[k]? = w.heap[k]?) → Upd w w2 b' off' cs2 → locOf w2 isVar t v p = some (b', off')) ∧
  ∀ (w2 : World) (Pr2 : Nat → Prop) (o2 o3 : Ow) (cs2 : List Value) (y : PV (getT p t)) (bs2 : List Nat), (∀ k, Pr k → Pr2 k) →
      (∀ k, (Pr k ∨ k ∈ bs) → k ≠ b' → w2.heap[k]? = w.heap[k]?) → Upd w w2 b' off' cs2 → Rep w2 Pr2 (getT p t) o2 cs2 y bs2 → OkSet p o o2 o3 →
      RootOk w2 Pr2 isVar v t o3 (set p t x y) (bs2 ++ bs)

def Al.live (a : Al) (E : Env) (e : Ent) : Prop := E[a.j]? = some e ∧ a.iv ≤ e.iv ∧ (a.iv = e.iv → a.cv ≤ e.cv)

/-- Is the alias still good? -/
def Al.okI (a : Al) (E : Env) : Bool := (E.at a.j).iv == a.iv
def Al.okC (a : Al) (E : Env) : Bool := (E.at a.j).iv == a.iv && (E.at a.j).cv == a.cv

def lrOnly : List PE → Bool
  | [] => true
  | .ix _ :: _ => false
  | _ :: p => lrOnly p

def ptr (loc : Nat × Nat) : Value := .pointer (some ⟨loc.1, loc.2, none⟩)

/-- A place at a root in the state 's'. -/
def AddrAt (w : World) (s : Slot) (vj v : Value) (q : List PE) : Prop :=
  match s with
  | .val t o x => OkPath q t o x ∧ ∃ loc, locOf w false t vj q = some loc ∧ v = ptr loc
  | .var t o x => OkPath q t o x ∧ ∃ loc, locOf w true t vj q = some loc ∧ v = ptr loc
  | .hole iV t _ _ p => ∀ s, p = q ++ s → lrOnly s = true → ∃ loc, locOf w iV t vj q = some loc ∧ v = ptr loc
  | _ => True

/-- What was loaded from a place. -/
def SubAt (w : World) (s : Slot) (vj v : Value) (q : List PE) : Prop :=
  match s with
  | .val t o x => OkPath q t o x ∧ ∃ loc, locOf w false t vj q = some loc ∧ v = pack (getT q t) (readCells w loc.1 loc.2 (getT q t).size)
  | .var t o x => OkPath q t o x ∧ ∃ loc, locOf w true t vj q = some loc ∧ v = pack (getT q t) (readCells w loc.1 loc.2 (getT q t).size)
  | _ => True

/-- A root that is a value (no variable). -/
def Slot.ofVal : Slot → Bool
  | .val _ _ _ => true
  | .hole iV _ _ _ _ => !iV
  | _ => false
def Slot.isHole : Slot → Bool
  | .hole _ _ _ _ _ => true
  | _ => false

/-- A value's alias: of a whole own value (as long as it is the slot's), or of what stands at a place (as long as nothing is written there). -/
def SubOk (w : World) (E : Env) (V : List Value) (a : Al) (v : Value) : Prop :=
  ∃ e vj, a.live E e ∧ V[a.j]? = some vj ∧ (e.iv = a.iv → (a.p = [] → e.s.ofVal = true → v = vj) ∧ (e.cv = a.cv → (a.p ≠ [] ∨ e.s.ofVal = false) → SubAt w e.s vj v a.p))

def AddrOk (w : World) (E : Env) (V : List Value) (a : Al) (v : Value) : Prop :=
  ∃ e vj, a.live E e ∧ V[a.j]? = some vj ∧ (e.iv = a.iv → (a.p = [] → v = vj) ∧ (a.p ≠ [] → e.cv = a.cv → AddrAt w e.s vj v a.p))

def BadOk (w : World) (Pr : Nat → Prop) (t : Ty) (x : PV t) (v : Value) : Prop :=
  ∃ a cs, v = .pointer (some a) ∧ Pr a.block ∧ Cells w a cs ∧ Rep w Pr t .b cs x []

def AllL {α β : Type} (R : α → β → Prop) : List α → List β → Prop
  | [], [] => True
  | a :: as, b :: bs => R a b ∧ AllL R as bs
  | _, _ => False

/-- Values of a tuple with the blocks they own. -/
def TupOk (w : World) (Pr : Nat → Prop) : List TV → List Value → List Nat → Prop
  | [], [], bs => bs = []
  | a :: as, v :: vs, bs => ∃ b1 b2, bs.Perm (b1 ++ b2) ∧ (a.t = .unit ∨ ValOk w Pr v a.t a.o a.x b1) ∧ TupOk w Pr as vs b2
  | _, _, _ => False

def SlotOk (w : World) (Pr : Nat → Prop) (E : Env) (V : List Value) (B : Nat → List Nat) (k : Nat) (s : Slot) (v : Value) : Prop :=
  match s with
  | .none => True
  | .val t o x => ValOk w Pr v t o x (B k)
  | .var t o x => VarOk w Pr v t o x (B k)
  | .hole iV t o x p => HoleOk w Pr iV v t o x p (B k)
  | .sub a => SubOk w E V a v
  | .addr a => AddrOk w E V a v
  | .view a t x => ∃ e, a.live E e ∧ (e.iv = a.iv → e.cv = a.cv → e.s.isHole = false → ∃ cs, v = pack t cs ∧ Rep w (fun b => Pr b ∨ b ∈ B a.j) t .b cs x [])
  | .bad t x => BadOk w Pr t x v
  | .fn f caps => ∃ vs : List Value, v = .func (.func f) #[] vs.toArray ∧ AllL (AddrOk w E V) caps vs
  | .tup l => ∃ vs : List Value, v = .tuple vs.toArray ∧ TupOk w Pr l vs (B k)

/-- The whole state. -/
structure StB (w0 : World) (Pr0 M : Nat → Prop) (E : Env) (V : List Value) (w : World) (Pr : Nat → Prop) (B : Nat → List Nat) : Prop where
  len : E.length = V.length
  pr0 : ∀ k, Pr0 k → Pr k
  prlt : ∀ k, Pr k → k < w.heap.size
  prnew : ∀ k, Pr k → Pr0 k ∨ w0.heap.size ≤ k ∨ M k
  slots : ∀ k e v, E[k]? = some e → V[k]? = some v → SlotOk w Pr E V B k e.s v
  nodup : ∀ k, (B k).Nodup
  disj : ∀ j k, j ≠ k → ∀ b ∈ B j, b ∉ B k
  free : ∀ k, ∀ b ∈ B k, (w0.heap.size ≤ b ∨ M b) ∧ ¬ Pr b ∧ b < w.heap.size
  os : w.os = w0.os
  tape : w.tape = w0.tape
  output : w.output = w0.output
  size : w0.heap.size ≤ w.heap.size
  frame : ∀ k, k < w0.heap.size → ¬ M k → w.heap[k]? = w0.heap[k]?

/-- Nothing is in the hand. -/
def St (w0 : World) (Pr0 M : Nat → Prop) (E : Env) (V : List Value) (w : World) : Prop := ∃ Pr B, StB w0 Pr0 M E V w Pr B ∧ ∀ k, E.length ≤ k → B k = []

end Go.Dn
