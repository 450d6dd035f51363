/- The interpreter: operations and code on pure values. -/
import Derived.Test.YtegfhigkmghmjaaDoorDe
namespace Go.Dn

/-! ### loops that end -/
def iter {S R : Type} (body : S → Option (S ⊕ R)) : Nat → S → Option R
  | 0, _ => none
  | n + 1, s =>
    match body s with
    | none => none
    | some (.inl s') => iter body n s'
    | some (.inr r) => some r

open Classical in
/-- The loop's result, if it ends. -/
noncomputable def fix {S R : Type} (body : S → Option (S ⊕ R)) (s : S) : Option R :=
  if h : ∃ r n, iter body n s = some r then some (Classical.choose h) else none

theorem iter_mono {S R : Type} {body : S → Option (S ⊕ R)} : ∀ {n : Nat} {s : S} {r : R} (m : Nat), iter body n s = some r → iter body (n + m) s = some r
  | 0, _, _, _, h => by simp [iter] at h
  | n + 1, s, r, m, h => by
    rw [show n + 1 + m = (n + m) + 1 by omega]
    simp only [iter] at h ⊢
    split at h
    · cases h
    · exact iter_mono m h
    · exact h

theorem iter_det {S R : Type} {body : S → Option (S ⊕ R)} {n m : Nat} {s : S} {r r' : R} (h : iter body n s = some r) (h' : iter body m s = some r') : r = r' := by
  have h1 := iter_mono m h
  have h2 := iter_mono n h'
  rw [Nat.add_comm] at h2
  exact Option.some.inj (h1.symm.trans h2)

theorem fix_eq_some {S R : Type} {body : S → Option (S ⊕ R)} {s : S} {r : R} : fix body s = some r ↔ ∃ n, iter body n s = some r := by
  unfold fix
  constructor
  · intro h
    split at h
    · rename_i hh
      obtain ⟨n, hn⟩ := Classical.choose_spec hh
      rw [Option.some.inj h] at hn
      exact ⟨n, hn⟩
    · cases h
  · rintro ⟨n, hn⟩
    have hh : ∃ r n, iter body n s = some r := ⟨r, n, hn⟩
    rw [dif_pos hh]
    obtain ⟨m, hm⟩ := Classical.choose_spec hh
    rw [iter_det hm hn]

theorem fix_step {S R : Type} (body : S → Option (S ⊕ R)) (s : S) :
    fix body s = match body s with | none => none | some (.inl s') => fix body s' | some (.inr r) => some r := by
  apply Option.ext
  intro r
  rw [fix_eq_some]
  constructor
  · rintro ⟨n, hn⟩
    cases n with
    | zero => simp [iter] at hn
    | succ n =>
      simp only [iter] at hn
      split at hn
      · cases hn
      · exact fix_eq_some.2 ⟨n, hn⟩
      · exact hn
  · intro h
    split at h
    · cases h
    · rename_i s' he
      obtain ⟨n, hn⟩ := fix_eq_some.1 h
      exact ⟨n + 1, by simp only [iter, he]; exact hn⟩
    · rename_i r' he
      exact ⟨1, by simp only [iter, he]; exact h⟩

/-- Loops over alike states are alike. -/
theorem fix_map {S S' R R' : Type} {body : S → Option (S ⊕ R)} {body' : S' → Option (S' ⊕ R')} (f : S' → S) (g : R' → R)
    (h : ∀ s, body (f s) = (body' s).map (Sum.map f g)) (s : S') : fix body (f s) = (fix body' s).map g := by
  have key : ∀ n s, iter body n (f s) = (iter body' n s).map g := by
    intro n
    induction n with
    | zero => intro s; rfl
    | succ n ih =>
      intro s
      simp only [iter, h s]
      cases body' s with
      | none => rfl
      | some z => cases z with
        | inl s' => exact ih s'
        | inr r => rfl
  apply Option.ext
  intro r
  rw [fix_eq_some, Option.map_eq_some_iff]
  constructor
  · rintro ⟨n, hn⟩
    rw [key, Option.map_eq_some_iff] at hn
    obtain ⟨r', h1, h2⟩ := hn
    exact ⟨r', fix_eq_some.2 ⟨n, h1⟩, h2⟩
  · rintro ⟨r', h1, h2⟩
    obtain ⟨n, hn⟩ := fix_eq_some.1 h1
    exact ⟨n, by rw [key, hn, ← h2]; rfl⟩

/-! ### contracts -/
inductive Mode where
  | bor
  | own
  | mut
  | ptr
  deriving DecidableEq

@[reducible] def PVs : List Ty → Type
  | [] => Unit
  | t :: ts => PV t × PVs ts

/-- Parameters that come back changed. -/
def Mode.back : Mode → Bool
  | .mut => true
  | .ptr => true
  | _ => false

def backs : List (Mode × Ty) → List Ty
  | [] => []
  | (m, t) :: l => bif m.back then t :: backs l else backs l

structure Ct where
  pars : List (Mode × Ty)
  rets : List (Ty × Bool)
  F : PVs (pars.map (·.2)) → Option (PVs (rets.map (·.1)) × PVs (backs pars))

/-- How a piece of code ends. -/
inductive Xt where
  | normal
  | exit (id : Nat)
  | ret

structure Cut where
  wk : List (Nat × Ow)
  keep : List Nat

/-- What a kept slot is: its data apart. -/
inductive Sh where
  | none
  | undef
  | val (t : Ty) (o : Ow)
  | var (t : Ty) (o : Ow)
  | bad (t : Ty)
  | view (a : Al) (t : Ty)
  | sub (a : Al)
  | addr (a : Al)
  | fn (f : FuncId) (caps : List Al)

@[reducible] def DS : List Sh → Type
  | [] => Unit
  | .val t _ :: l => PV t × DS l
  | .var t _ :: l => PV t × DS l
  | .bad t :: l => PV t × DS l
  | .view _ t :: l => PV t × DS l
  | .none :: l => DS l
  | .undef :: l => DS l
  | .sub _ :: l => DS l
  | .addr _ :: l => DS l
  | .fn _ _ :: l => DS l

def fillS : (l : List Sh) → DS l → List Ent
  | [], _ => []
  | .val t o :: l, d => ⟨0, 0, .val t o d.1⟩ :: fillS l d.2
  | .var t o :: l, d => ⟨0, 0, .var t o d.1⟩ :: fillS l d.2
  | .bad t :: l, d => ⟨0, 0, .bad t d.1⟩ :: fillS l d.2
  | .view a t :: l, d => ⟨0, 0, .view a t d.1⟩ :: fillS l d.2
  | .none :: l, d => ⟨0, 0, .none⟩ :: fillS l d
  | .undef :: l, d => ⟨0, 0, .tup []⟩ :: fillS l d
  | .sub a :: l, d => ⟨0, 0, .sub a⟩ :: fillS l d
  | .addr a :: l, d => ⟨0, 0, .addr a⟩ :: fillS l d
  | .fn f c :: l, d => ⟨0, 0, .fn f c⟩ :: fillS l d

/-- How a piece of code may end, and what is then kept. -/
structure Out where
  key : Xt
  cut : Cut
  sh : List Sh

@[reducible] def Xo : List Out → Type
  | [] => Empty
  | [o] => DS o.sh
  | o :: os => DS o.sh ⊕ Xo os

structure Lp where
  hd : Cut
  sh : List Sh
  outs : List Out
  B : DS sh → Option (DS sh ⊕ Xo outs)

structure Plan where
  seqs : List (Nat × List Out)
  loops : List (Nat × Lp)
  lv : Nat
  off : Nat

/-- What is known of the package-level variables: where they lie, and what holds of them. -/
structure Glob where
  dom : Nat → Prop
  ok : World → Prop
  stable : ∀ w w' : World, ok w → (∀ b, dom b → w'.heap[b]? = w.heap[b]?) → ok w'

def noGlob : Glob := ⟨fun _ => False, fun _ => True, fun _ _ _ _ => trivial⟩

structure Cx where
  tab : List (TypeId × Ty)
  arrs : List TypeId
  cts : List (FuncId × Ct)
  funcs : List (FuncId × Func × Plan)
  gl : Glob

def lookup {α : Type} : List (Nat × α) → Nat → Option α
  | [], _ => none
  | (k, a) :: l, n => bif k == n then some a else lookup l n

def memN : List Nat → Nat → Bool
  | [], _ => false
  | k :: l, n => bif k == n then true else memN l n

/-! ### operands -/
structure Opd where
  ix : Option Nat
  s : Slot

def constS : Value → Slot
  | .int k n => .val (.int k) .b n
  | .bool b => .val .bool .b b
  | .string s => .val .str .b s.data.toList
  | _ => .none

def opd (E : Env) (off : Nat) : Operand → Opd
  | .tmp t => ⟨some (off + t), (E.at (off + t)).s⟩
  | .const v => ⟨none, constS v⟩
  | .func f => ⟨none, .fn f []⟩
  | .global _ => ⟨none, .none⟩

/-- A constant nil slice, where the type is known. -/
def opdT (cx : Cx) (E : Env) (off : Nat) (t : TypeId) (x : Operand) : Opd :=
  match x with
  | .const (.slice none 0 0) =>
    match lookup cx.tab t with
    | some (.slice e t') => ⟨none, .val (.slice e t') (.row (top t')) []⟩
    | _ => ⟨none, .none⟩
  | x => opd E off x

def isNil : List PE → Bool
  | [] => true
  | _ => false

/-- Is the alias of a value still good? -/
def Al.okS (a : Al) (E : Env) : Bool :=
  (E.at a.j).iv == a.iv && ((E.at a.j).cv == a.cv || (isNil a.p && (E.at a.j).s.ofVal))
/-- .. of a place? -/
def Al.okA (a : Al) (E : Env) : Bool := (E.at a.j).iv == a.iv && ((E.at a.j).cv == a.cv || isNil a.p)

abbrev SV := (t : Ty) × PV t

/-- The value that a slot tells, to be looked at. -/
def rd (E : Env) : Slot → Option SV
  | .val t _ x => some ⟨t, x⟩
  | .sub a =>
    bif a.okS E then
      match (E.at a.j).s with
      | .val t _ x => some ⟨getT a.p t, get a.p t x⟩
      | .var t _ x => some ⟨getT a.p t, get a.p t x⟩
      | _ => none
    else none
  | .view a t x => bif a.okC E && !(E.at a.j).s.isHole then some ⟨t, x⟩ else none
  | _ => none

inductive U where
  | new (k : Nat) (s : Slot)
  | cont (k : Nat) (s : Slot)
  | hol (k : Nat) (s : Slot)

def U.app (E : Env) : U → Env
  | .new k s => E.set k ⟨(E.at k).iv + 1, 0, s⟩
  | .cont k s => E.set k ⟨(E.at k).iv, (E.at k).cv + 1, s⟩
  | .hol k s => E.set k ⟨(E.at k).iv, (E.at k).cv, s⟩

def appU (E : Env) : List U → Env
  | [] => E
  | u :: us => appU (u.app E) us

/-- A value, taken with what it owns; what it is taken from loses it. -/
def take (E : Env) (d : Opd) : Option (TV × List U) :=
  match d.s with
  | .val t o x =>
    bif owns t o then
      match d.ix with
      | some k => some (⟨t, o, x⟩, [.new k .none])
      | none => some (⟨t, o, x⟩, [])
    else some (⟨t, .b, x⟩, [])
  | .sub a =>
    bif a.okS E then
      match (E.at a.j).s with
      | .val t o x =>
        bif owns (getT a.p t) (getO a.p o) then
          bif isNil a.p then some (⟨t, o, x⟩, [.new a.j .none])
          else some (⟨getT a.p t, getO a.p o, get a.p t x⟩, [.hol a.j (.hole false t o x a.p)])
        else some (⟨getT a.p t, .b, get a.p t x⟩, [])
      | .var t o x =>
        bif owns (getT a.p t) (getO a.p o) then
          some (⟨getT a.p t, getO a.p o, get a.p t x⟩, [.hol a.j (.hole true t o x a.p)])
        else some (⟨getT a.p t, .b, get a.p t x⟩, [])
      | _ => none
    else none
  | _ => none

/-- A copy of what an operand names, as another name for it. -/
def alias (E : Env) (d : Opd) : Slot :=
  match d.s, d.ix with
  | .val t o x, some k => bif owns t o then .sub ⟨k, [], (E.at k).iv, (E.at k).cv⟩ else .val t .b x
  | .val t o x, none => bif owns t o then .none else .val t .b x
  | .var _ _ _, some k => .addr ⟨k, [], (E.at k).iv, (E.at k).cv⟩
  | .sub a, _ => .sub a
  | .addr a, _ => .addr a
  | .view a t x, _ => .view a t x
  | .bad t x, _ => .bad t x
  | .fn f c, _ => .fn f c
  | _, _ => .none

/-- The place that a pointer names. -/
def place (E : Env) (d : Opd) : Option Al :=
  match d.s, d.ix with
  | .var _ _ _, some k => some ⟨k, [], (E.at k).iv, (E.at k).cv⟩
  | .hole true _ _ _ _, some k => some ⟨k, [], (E.at k).iv, (E.at k).cv⟩
  | .addr a, _ => bif a.okA E then some a else none
  | _, _ => none

def fpath : Nat → List PE
  | 0 => [.l]
  | n + 1 => .r :: fpath n

def samePath : List PE → List PE → Bool
  | [], [] => true
  | .l :: p, .l :: q => samePath p q
  | .r :: p, .r :: q => samePath p q
  | .ix n :: p, .ix m :: q => (n == m) && samePath p q
  | _, _ => false

def hasIx : List PE → Bool
  | [] => false
  | .ix _ :: _ => true
  | _ :: p => hasIx p

def setO : List PE → Ow → Ow → Ow
  | [], _, o2 => o2
  | .l :: p, o, o2 => .pr (setO p o.fst o2) o.snd
  | .r :: p, o, o2 => .pr o.fst (setO p o.snd o2)
  | .ix _ :: _, o, _ => o

/-- Ownership at a place when 'tv' is put there: the value's as it is to be, and the whole's. -/
def fitO (p : List PE) (o : Ow) (t : Ty) (o2 : Ow) : Option (Ow × Ow) :=
  bif hasIx p then (bif weaken t o2 (getO p o) then some (getO p o, o) else none) else some (o2, setO p o o2)

def castTy (t t' : Ty) (x : PV t) : Option (PV t') := if h : t = t' then some (h ▸ x) else none

def sv (t : Ty) (x : PV t) : Slot := .val t .b x

/-! ### scalar operations -/
def cmpB {α : Type} (lt : α → α → Bool) (eq : α → α → Bool) : BinOp → α → α → Option Bool
  | .eql, x, y => some (eq x y)
  | .neq, x, y => some (!eq x y)
  | .lss, x, y => some (lt x y)
  | .geq, x, y => some (!lt x y)
  | .gtr, x, y => some (lt y x)
  | .leq, x, y => some (!lt y x)
  | _, _, _ => none

def intBin {R : Type} (op : BinOp) (k : IntKind) (x y : Int) (K : Slot → Option R) : Option R :=
  match op with
  | .add => K (sv (.int k) (k.wrap (x + y)))
  | .sub => K (sv (.int k) (k.wrap (x - y)))
  | .mul => K (sv (.int k) (k.wrap (x * y)))
  | .quo => bif y == 0 then none else K (sv (.int k) (k.wrap (x.tdiv y)))
  | .rem => bif y == 0 then none else K (sv (.int k) (x.tmod y))
  | .eql => K (sv .bool (x == y))
  | .neq => K (sv .bool (x != y))
  | .lss => K (sv .bool (decide (x < y)))
  | .leq => K (sv .bool (decide (x ≤ y)))
  | .gtr => K (sv .bool (decide (x > y)))
  | .geq => K (sv .bool (decide (x ≥ y)))
  | _ => none

def strBin {R : Type} (op : BinOp) (x y : List UInt8) (K : Slot → Option R) : Option R :=
  match op with
  | .add => bif decide (x.length + y.length ≤ 1099511627776) then K (sv .str (x ++ y)) else none
  | .eql => K (sv .bool (x == y))
  | .neq => K (sv .bool (!(x == y)))
  | .lss => K (sv .bool (Op.bytesLess x y))
  | .geq => K (sv .bool (!Op.bytesLess x y))
  | _ => none

def binK {R : Type} (tb : Bool) (op : BinOp) (a b : SV) (K : Slot → Option R) : Option R :=
  match a, b with
  | ⟨.int k, x⟩, ⟨.int k', y⟩ =>
    match op with
    | .shl => bif decide (0 ≤ y) then K (sv (.int k) (k.wrap (x * 2 ^ (min y.toNat k.bits)))) else none
    | .shr => bif decide (0 ≤ y) then K (sv (.int k) (x.fdiv (2 ^ (min y.toNat k.bits)))) else none
    | op => bif k == k' then intBin op k x y K else none
  | ⟨.str, x⟩, ⟨.str, y⟩ => strBin op x y K
  | ⟨.bool, x⟩, ⟨.bool, y⟩ =>
    bif tb then
      match op with
      | .eql => K (sv .bool (x == y))
      | .neq => K (sv .bool (!(x == y)))
      | _ => none
    else none
  | _, _ => none

def inB (i : Int) (n : Nat) : Bool := decide (0 ≤ i) && decide (i < (n : Int))

/-- How many elements an append or a make may bring to. -/
def roomB (n : Nat) : Bool := decide (n ≤ 1099511627776)


/-! ### one operation: what its slot tells then, and what else turns -/
abbrev SU := Slot × List U

def fieldTy : Nat → Ty → Ty
  | 0, .pair a _ => a
  | n + 1, .pair _ b => fieldTy n b
  | _, _ => .unit

/-- Elements without rows of their own. -/
def noSl : Ty → Bool
  | .slice _ _ => false
  | .pair a b => noSl a && noSl b
  | _ => true

def meet (t : Ty) (o1 o2 : Ow) : Ow := bif weaken t o1 o2 then o2 else bif weaken t o2 o1 then o1 else .b

/-- An operand whose type is known. -/
def opdY (E : Env) (off : Nat) (t : Ty) (x : Operand) : Opd :=
  match x with
  | .const (.slice none 0 0) =>
    match t with
    | .slice e t' => ⟨none, .val (.slice e t') (.row (top t')) []⟩
    | _ => ⟨none, .none⟩
  | x => opd E off x

/-- Values taken one behind the other. -/
def takeL (off : Nat) : Env → List (Ty × Operand) → Option (List TV × List U)
  | _, [] => some ([], [])
  | E, (t, x) :: xs =>
    match take E (opdY E off t x) with
    | none => none
    | some (v, us) =>
      match takeL off (appU E us) xs with
      | none => none
      | some (vs, us') => some (v :: vs, us ++ us')

def elems (t : Ty) : List TV → Option (Ow × List (PV t))
  | [] => some (top t, [])
  | v :: vs =>
    match castTy v.t t v.x, elems t vs with
    | some x, some (o, xs) => some (meet t v.o o, x :: xs)
    | _, _ => none

/-- A struct's (or array's) value out of its parts, in order; what is not named is zero. -/
def asm : (t : Ty) → Nat → List (Nat × TV) → Option (Ow × PV t)
  | .unit, _, [] => some (.b, ())
  | .pair a b, n, (i, v) :: ps =>
    bif i == n then
      match castTy v.t a v.x, asm b (n + 1) ps with
      | some y, some (o, z) => some (.pr v.o o, (y, z))
      | _, _ => none
    else
      match asm b (n + 1) ((i, v) :: ps) with
      | some (o, z) => some (.pr (top a) o, (dflt a, z))
      | none => none
  | .pair a b, n, [] =>
    match asm b (n + 1) [] with
    | some (o, z) => some (.pr (top a) o, (dflt a, z))
    | none => none
  | _, _, _ => none

def bytesOfInts (l : List Int) : List UInt8 := l.map fun n => UInt8.ofNat n.toNat
def intsOfBytes (l : List UInt8) : List Int := l.map fun b => (b.toNat : Int)

/-- What a place's root holds there. -/
def look (E : Env) (a : Al) : Option TV :=
  match (E.at a.j).s with
  | .val t o x => bif isNil a.p then none else some ⟨getT a.p t, getO a.p o, get a.p t x⟩
  | .var t o x => some ⟨getT a.p t, getO a.p o, get a.p t x⟩
  | _ => none

def ownsAt (E : Env) (a : Al) : Bool :=
  match (E.at a.j).s with
  | .val t o _ => owns (getT a.p t) (getO a.p o)
  | .var t o _ => owns (getT a.p t) (getO a.p o)
  | _ => false

/-- 'q' is the begin of 'p', and no index stands behind it. -/
def preLr : List PE → List PE → Bool
  | [], p => lrOnly p
  | .l :: q, .l :: p => preLr q p
  | .r :: q, .r :: p => preLr q p
  | .ix n :: q, .ix m :: p => (n == m) && preLr q p
  | _, _ => false

def placesOf (E : Env) (off : Nat) : List Operand → Option (List Al)
  | [] => some []
  | x :: xs =>
    match place E (opd E off x), placesOf E off xs with
    | some a, some as => bif isNil a.p then some (a :: as) else none
    | _, _ => none

/-- A bound of a slice expression. -/
def bound (E : Env) (off : Nat) (d : Int) : Option Operand → Option Int
  | none => some d
  | some y => match rd E (opd E off y).s with | some ⟨.int _, n⟩ => some n | _ => none

def cutB (a b : Int) (n : Nat) : Bool := decide (0 ≤ a) && (decide (a ≤ b) && decide (b ≤ (n : Int)))
def cutL {α : Type} (a b : Int) (l : List α) : List α := (l.take b.toNat).drop a.toNat

def Ty.isUnit : Ty → Bool
  | .unit => true
  | _ => false

/-- A slice expression that keeps a row's head. -/
def headCut {α : Type} : Option α → Option α → Bool
  | none, some _ => true
  | _, _ => false
def Slot.isVar : Slot → Bool
  | .var _ _ _ => true
  | _ => false

/-- What lies in an owned row is not taken out for a name: the name looks there. -/
def viaIx : Slot → Bool
  | .sub a => hasIx a.p
  | _ => false

def stepK {R : Type} (cx : Cx) (E : Env) (off : Nat) (o : Oper) (K : SU → Option R) : Option R :=
  match o.op with
  | .move x =>
    match opd E off x with
    | ⟨some k, .tup l⟩ => K (.tup l, [.new k .none])
    | d => K (alias E d, [])
  | .assign x =>
    bif viaIx (opd E off x).s then K (alias E (opd E off x), []) else
    match take E (opdT cx E off o.type x) with
    | some (v, us) => K (.val v.t v.o v.x, us)
    | none =>
      match (opd E off x).s with
      | .val _ _ _ => none
      | .sub _ => none
      | _ => K (alias E (opd E off x), [])
  | .pick c a b =>
    match rd E (opd E off c).s with
    | some ⟨.bool, c⟩ =>
      match rd E (opd E off a).s, rd E (opd E off b).s with
      | some ⟨t, x⟩, some ⟨t', y⟩ =>
        match castTy t' t y with
        | some y => bif noSl t then K (sv t (bif c then x else y), []) else none
        | none => none
      | some ⟨t, x⟩, none => bif c then (bif noSl t then K (sv t x, []) else none) else none
      | none, some ⟨t, y⟩ => bif c then none else (bif noSl t then K (sv t y, []) else none)
      | none, none => none
    | _ => none
  | .alloc t =>
    match lookup cx.tab t with
    | some t => K (.var t (top t) (dflt t), [])
    | none => none
  | .box t x =>
    match lookup cx.tab t, take E (opdT cx E off t x) with
    | some t, some (v, us) =>
      match castTy v.t t v.x with
      | some x => K (.var t v.o x, us)
      | none => none
    | _, _ => none
  | .build t ps =>
    match lookup cx.tab t with
    | some t =>
      match takeL off E (ps.toList.map fun q => (getT (fpath q.1) t, q.2)) with
      | some (vs, us) =>
        match asm t 0 ((ps.toList.map (·.1)).zip vs) with
        | some (ow, x) => K (.val t ow x, us)
        | none => none
      | none => none
    | none => none
  | .buildSlice t n ps =>
    match lookup cx.tab t with
    | some (.slice e t') =>
      bif (ps.size == n) && ((List.range n == ps.toList.map (·.1)) && decide (n * t'.size ≤ 65536)) then
        match takeL off E (ps.toList.map fun q => (t', q.2)) with
        | some (vs, us) =>
          match elems t' vs with
          | some (ow, xs) => K (.val (.slice e t') (.row ow) xs, us)
          | none => none
        | none => none
      else none
    | _ => none
  | .load t x =>
    match lookup cx.tab t with
    | none => none
    | some t =>
      match (opd E off x).s with
      | .bad t' y =>
        match castTy t' t y with
        | some y => K (.val t .b y, [])
        | none => none
      | _ =>
        match place E (opd E off x) with
        | some a =>
          match look E a with
          | some v =>
            match castTy v.t t v.x with
            | some y => bif owns v.t v.o then K (.sub ⟨a.j, a.p, a.iv, (E.at a.j).cv⟩, []) else K (.val t .b y, [])
            | none => none
          | none => none
        | none => none
  | .store t x y =>
    match lookup cx.tab t, take E (opdT cx E off t y) with
    | some t, some (v, us) =>
      match place (appU E us) (opd (appU E us) off x) with
      | some a =>
        match (Env.at (appU E us) a.j).s with
        | .val t' ow z =>
          match castTy v.t (getT a.p t') v.x, fitO a.p ow v.t v.o with
          | some x, some (_, ow') => bif (v.t == t) && !isNil a.p then K (.none, us ++ [.cont a.j (.val t' ow' (set a.p t' z x))]) else none
          | _, _ => none
        | .var t' ow z =>
          match castTy v.t (getT a.p t') v.x, fitO a.p ow v.t v.o with
          | some x, some (_, ow') => bif v.t == t then K (.none, us ++ [.cont a.j (.var t' ow' (set a.p t' z x))]) else none
          | _, _ => none
        | .hole iV t' ow z p =>
          match castTy v.t (getT p t') v.x, fitO p ow v.t v.o with
          | some x, some (_, ow') =>
            bif v.t == t then (bif samePath a.p p then K (.none, us ++ [.cont a.j (match iV with | true => .var t' ow' (set p t' z x) | false => .val t' ow' (set p t' z x))]) else none) else none
          | _, _ => none
        | _ => none
      | none => none
    | _, _ => none
  | .binOp op t x y _ =>
    match rd E (opdT cx E off t x).s, rd E (opdT cx E off t y).s with
    | some a, some b => binK (match lookup cx.tab t with | some .bool => true | _ => false) op a b fun s => K (s, [])
    | _, _ => none
  | .unOp op _ x =>
    match op, rd E (opd E off x).s with
    | .not, some ⟨.bool, b⟩ => K (sv .bool (!b), [])
    | .neg, some ⟨.int k, n⟩ => K (sv (.int k) (k.wrap (0 - n)), [])
    | _, _ => none
  | .convert s d x =>
    match lookup cx.tab s, lookup cx.tab d, rd E (opd E off x).s with
    | some (.int k), some (.int k'), some ⟨.int k'', n⟩ => bif k == k'' then K (sv (.int k') (k'.wrap n), []) else none
    | some (.slice _ (.int .u8)), some .str, some ⟨.slice _ (.int .u8), l⟩ => K (sv .str (bytesOfInts l), [])
    | _, _, _ => none
  | .makeFunc (.func f) first captured =>
    bif first.isEmpty then
      match placesOf E off captured.toList with
      | some as => K (.fn f as, [])
      | none => none
    else none
  | .makeSlice t l c =>
    match lookup cx.tab t, rd E (opd E off l).s, rd E (opd E off c).s with
    | some (.slice e t'), some ⟨.int .i64, n⟩, some ⟨.int .i64, m⟩ =>
      bif decide (0 ≤ n) && (decide (n ≤ m) && roomB m.toNat) then K (.val (.slice e t') (.row (top t')) (List.replicate n.toNat (dflt t')), []) else none
    | _, _, _ => none
  | .slice t x lo hi none =>
    match rd E (opd E off x).s with
    | some ⟨.str, l⟩ =>
      match lookup cx.tab t, bound E off 0 lo, bound E off (l.length : Int) hi with
      | some .str, some a, some b => bif cutB a b l.length then K (sv .str (cutL a b l), []) else none
      | _, _, _ => none
    | some ⟨.slice e t', l⟩ =>
      match lookup cx.tab t, bound E off 0 lo, bound E off (l.length : Int) hi with
      | some (.slice e' t''), some a, some b =>
        bif (Ty.slice e t' == .slice e' t'') && cutB a b l.length then
          match alias E (opd E off x) with
          | .val _ _ _ => K (.val (.slice e t') .b (cutL a b l), [])
          | .sub al =>
            bif headCut lo hi && ((E.at al.j).s.isVar && noSl t') then
              match take E (opd E off x) with
              | some (⟨.slice e2 t2, .row oe, z⟩, us) => bif (Ty.slice e2 t2 == .slice e t') && cutB 0 b z.length then K (.val (.slice e2 t2) (.row oe) (cutL 0 b z), us) else none
              | _ => none
            else K (.view ⟨al.j, al.p, al.iv, (E.at al.j).cv⟩ (.slice e t') (cutL a b l), [])
          | .view al _ _ => K (.view al (.slice e t') (cutL a b l), [])
          | _ => none
        else none
      | _, _, _ => none
    | _ => none
  | .fieldAddr tid x f =>
    match (bif memN cx.arrs tid then none else lookup cx.tab tid) with
    | none => none
    | some t =>
      match (opd E off x).s with
      | .bad t' y =>
        match castTy t' t y with
        | some y => bif !(getT (fpath f) t).isUnit then K (.bad (getT (fpath f) t) (get (fpath f) t y), []) else none
        | none => none
      | _ =>
        match place E (opd E off x) with
        | some a =>
          match (E.at a.j).s with
          | .val t' _ _ => bif (getT a.p t' == t) && (!(getT (fpath f) t).isUnit && !isNil a.p) then K (.addr ⟨a.j, a.p ++ fpath f, a.iv, (E.at a.j).cv⟩, []) else none
          | .var t' _ _ => bif (getT a.p t' == t) && !(getT (fpath f) t).isUnit then K (.addr ⟨a.j, a.p ++ fpath f, a.iv, (E.at a.j).cv⟩, []) else none
          | .hole iV t' _ _ p =>
            bif (getT a.p t' == t) && !(getT (fpath f) t).isUnit then
              (bif (isNil a.p && iV) || (!isNil a.p && preLr a.p p) then K (.addr ⟨a.j, a.p ++ fpath f, a.iv, (E.at a.j).cv⟩, []) else none)
            else none
          | _ => none
        | none => none
  | .nilCheck x =>
    match place E (opd E off x) with
    | some a =>
      match (E.at a.j).s with
      | .val _ _ _ => bif isNil a.p then none else K (.addr a, [])
      | .var _ _ _ => K (.addr a, [])
      | .hole _ _ _ _ p => bif !isNil a.p && preLr a.p p then K (.addr a, []) else none
      | _ => none
    | none => none
  | .indexAddr tid x i =>
    match rd E (opd E off i).s with
    | some ⟨.int _, n⟩ =>
      bif memN cx.arrs tid then
        match lookup cx.tab tid with
        | none => none
        | some t =>
          bif decide (0 ≤ n) && !(getT (fpath n.toNat) t).isUnit then
            match (opd E off x).s with
            | .bad t' y =>
              match castTy t' t y with
              | some y => K (.bad (getT (fpath n.toNat) t) (get (fpath n.toNat) t y), [])
              | none => none
            | _ =>
              match place E (opd E off x) with
              | some a =>
                match (E.at a.j).s with
                | .val t' _ _ => bif (getT a.p t' == t) && !isNil a.p then K (.addr ⟨a.j, a.p ++ fpath n.toNat, a.iv, (E.at a.j).cv⟩, []) else none
                | .var t' _ _ => bif (getT a.p t' == t) then K (.addr ⟨a.j, a.p ++ fpath n.toNat, a.iv, (E.at a.j).cv⟩, []) else none
                | _ => none
              | none => none
          else none
      else
        match rd E (opd E off x).s with
        | some ⟨.slice _ t', l⟩ =>
          match lookup cx.tab tid with
          | some (.slice _ t'') =>
            bif (t'' == t') && inB n l.length then
              match alias E (opd E off x) with
              | .val _ _ _ => K (.bad t' (l.getD n.toNat (dflt t')), [])
              | .sub a => bif ownsAt E a then K (.addr ⟨a.j, a.p ++ [.ix n.toNat], a.iv, (E.at a.j).cv⟩, []) else none
              | _ => none
            else none
          | _ => none
        | _ => none
    | _ => none
  | .index tid x i =>
    match rd E (opd E off x).s, rd E (opd E off i).s with
    | some ⟨.str, l⟩, some ⟨.int _, n⟩ =>
      match lookup cx.tab tid with
      | some .str => bif inB n l.length then K (sv (.int .u8) ((l.getD n.toNat 0).toNat : Int), []) else none
      | _ => none
    | some ⟨t, y⟩, some ⟨.int _, n⟩ =>
      bif memN cx.arrs tid then
        match lookup cx.tab tid with
        | none => none
        | some t' =>
          match castTy t t' y with
          | some y => bif decide (0 ≤ n) && (!(getT (fpath n.toNat) t').isUnit && noSl (getT (fpath n.toNat) t')) then K (sv (getT (fpath n.toNat) t') (get (fpath n.toNat) t' y), []) else none
          | none => none
      else none
    | _, _ => none
  | .extract x i =>
    match opd E off x with
    | ⟨some k, .tup l⟩ =>
      match l[i]? with
      | some v => bif v.t.isUnit then none else K (.val v.t v.o v.x, [.cont k (.tup (l.set i ⟨.unit, .b, ()⟩))])
      | none => none
    | _ => none
  | .call c =>
    match c.callee, c.args.toList with
    | .builtin .len, [x] =>
      match c.argTypes.toList with
      | [tid] =>
        match lookup cx.tab tid, rd E (opdT cx E off tid x).s with
        | some .str, some ⟨.str, l⟩ => K (sv (.int .i64) (l.length : Int), [])
        | some (.slice _ _), some ⟨.slice _ _, l⟩ => K (sv (.int .i64) (l.length : Int), [])
        | _, _ => none
      | _ => none
    | .builtin .max, [x, y] =>
      match rd E (opd E off x).s, rd E (opd E off y).s with
      | some ⟨.int k, a⟩, some ⟨.int k', b⟩ => bif k == k' then K (sv (.int k) (bif decide (b > a) then b else a), []) else none
      | _, _ => none
    | .builtin .min, [x, y] =>
      match rd E (opd E off x).s, rd E (opd E off y).s with
      | some ⟨.int k, a⟩, some ⟨.int k', b⟩ => bif k == k' then K (sv (.int k) (bif decide (b < a) then b else a), []) else none
      | _, _ => none
    | .builtin .append, [x, y] =>
      bif c.argTypes.size == 2 && (c.argTypes.getD 0 0 == c.argTypes.getD 1 0) then
        match lookup cx.tab (c.argTypes.getD 0 0), take E (opdT cx E off (c.argTypes.getD 0 0) x) with
        | some (.slice e0 t0), some (⟨.slice e t', .row ow, xs⟩, us) =>
          bif (Ty.slice e0 t0 == .slice e t') then
            bif noSl t' then
              match rd (appU E us) (opdT cx (appU E us) off (c.argTypes.getD 0 0) y).s with
              | some ⟨t'', ys⟩ =>
                match castTy t'' (.slice e t') ys with
                | some ys => bif roomB (List.length (α := PV t') xs + List.length (α := PV t') ys) then K (.val (.slice e t') (.row ow) (List.append (α := PV t') xs ys), us) else none
                | none => none
              | none => none
            else
              match take (appU E us) (opdT cx (appU E us) off (c.argTypes.getD 0 0) y) with
              | some (⟨ty, oy, ys⟩, us') =>
                match castTy ty (.slice e t') ys with
                | some ys => bif roomB (List.length (α := PV t') xs + List.length (α := PV t') ys) then K (.val (.slice e t') (.row (meet t' ow oy.elem)) (List.append (α := PV t') xs ys), us ++ us') else none
                | none => none
              | none => none
          else none
        | _, _ => none
      else none
    | _, _ => none
  | _ => none

/-! ### calls by contract -/
/-- Everything inside is owned. -/
def full : Ty → Ow → Bool
  | .pair a b, o => full a o.fst && full b o.snd
  | .slice _ t, .row e => full t e
  | .slice _ _, _ => false
  | _, _ => true

/-- How an argument goes back to where it came from. -/
inductive Bk where
  | none
  | val (j : Nat)
  | var (j : Nat)
  | hol (j : Nat) (isVar : Bool) (t : Ty) (o : Ow) (x : PV t) (p : List PE)

/-- An argument that is handed over: its value, what turns, and how it goes back. -/
def handOver (E : Env) (off : Nat) (m : Mode) (t : Ty) (x : Operand) : Option (PV t × List U × Bk) :=
  match m with
  | .bor => none
  | .own =>
    match take E (opdY E off t x) with
    | some (v, us) => match castTy v.t t v.x with | some y => bif full v.t v.o then some (y, us, .none) else none | none => none
    | none => none
  | .mut =>
    match alias E (opd E off x) with
    | .sub a =>
      bif a.okS E then
        match (E.at a.j).s with
        | .val t' o z =>
          match castTy (getT a.p t') t (get a.p t' z) with
          | some y =>
            bif full (getT a.p t') (getO a.p o) then
              (bif isNil a.p then some (y, [.new a.j .none], .val a.j) else some (y, [.hol a.j (.hole false t' o z a.p)], .hol a.j false t' o z a.p))
            else none
          | none => none
        | .var t' o z =>
          match castTy (getT a.p t') t (get a.p t' z) with
          | some y => bif full (getT a.p t') (getO a.p o) then some (y, [.hol a.j (.hole true t' o z a.p)], .hol a.j true t' o z a.p) else none
          | none => none
        | _ => none
      else none
    | _ => none
  | .ptr =>
    match place E (opd E off x) with
    | some a =>
      match (E.at a.j).s with
      | .var t' o z =>
        match castTy t' t z with
        | some y => bif full t' o && isNil a.p then some (y, [.new a.j .none], .var a.j) else none
        | none => none
      | _ => none
    | none => none

def isBor (q : Mode × Ty) : Bool := match q.1 with | .bor => true | _ => false

/-- First what is handed over (one argument at most) .. -/
def handAll (E : Env) (off : Nat) : List (Mode × Ty) → List Operand → Option (List SV × List U × List Bk)
  | [], [] => some ([], [], [])
  | (m, t) :: ps, x :: xs =>
    match m with
    | .bor =>
      match handAll E off ps xs with
      | some (vs, us, bs) => some (⟨.unit, ()⟩ :: vs, us, .none :: bs)
      | none => none
    | m =>
      bif ps.all isBor && (ps.length == xs.length) then
        match handOver E off m t x with
        | some (y, us, b) => some (⟨t, y⟩ :: ps.map (fun _ => ⟨.unit, ()⟩), us, b :: ps.map (fun _ => Bk.none))
        | none => none
      else none
  | _, _ => none

/-- A value of which nothing is owned. -/
def Slot.free : Slot → Bool
  | .val t o _ => !owns t o
  | _ => false

/-- .. then what is looked at. 'strict': only what is borrowed already. -/
def lookOne (strict : Bool) (E : Env) (off : Nat) (m : Mode) (t : Ty) (x : Operand) (v : SV) : Option (PV t) :=
  match m with
  | .bor =>
    match rd E (opdY E off t x).s with
    | some ⟨t', y⟩ => bif !strict || (opdY E off t x).s.free || noSl t' then castTy t' t y else none
    | none => none
  | _ => castTy v.1 t v.2

def lookAll (strict : Bool) (E : Env) (off : Nat) : (ps : List (Mode × Ty)) → List Operand → List SV → Option (PVs (ps.map (·.2)))
  | [], [], [] => some ()
  | (m, t) :: ps, x :: xs, v :: vs =>
    match lookOne strict E off m t x v, lookAll strict E off ps xs vs with
    | some y, some r => some (y, r)
    | _, _ => none
  | _, _, _ => none

/-- What comes back goes where it was. -/
def bring : (ps : List (Mode × Ty)) → List Bk → PVs (backs ps) → Option (List U)
  | [], [], _ => some []
  | (.bor, _) :: ps, _ :: bs, r => bring ps bs r
  | (.own, _) :: ps, _ :: bs, r => bring ps bs r
  | (.mut, t) :: ps, b :: bs, r =>
    match b, bring ps bs r.2 with
    | .val j, some us => some (.new j (.val t (top t) r.1) :: us)
    | .hol j iV t' o z p, some us =>
      match castTy t (getT p t') r.1, fitO p o t (top t) with
      | some y, some (o2, o3) => bif full t o2 then some (.cont j (match iV with | true => .var t' o3 (set p t' z y) | false => .val t' o3 (set p t' z y)) :: us) else none
      | _, _ => none
    | _, _ => none
  | (.ptr, t) :: ps, b :: bs, r =>
    match b, bring ps bs r.2 with
    | .var j, some us => some (.new j (.var t (top t) r.1) :: us)
    | _, _ => none
  | _, _, _ => none

def ownR (t : Ty) (own : Bool) : Ow := bif own then top t else .b

def retList : (rs : List (Ty × Bool)) → PVs (rs.map (·.1)) → List TV
  | [], _ => []
  | (t, o) :: rs, x => ⟨t, ownR t o, x.1⟩ :: retList rs x.2

def retSlot (l : List TV) : Slot :=
  match l with
  | [] => .none
  | [v] => .val v.t v.o v.x
  | l => .tup l

def callK {R : Type} (cx : Cx) (E : Env) (off : Nat) (c : Call) (K : SU → Option R) : Option R :=
  match c.callee with
  | .value fo =>
    match (opd E off fo).s with
    | .fn k [] =>
      match lookup cx.cts k with
      | some ct =>
        match handAll E off ct.pars c.args.toList with
        | some (vs, us, bs) =>
          match lookAll (ct.rets.any fun q => !q.2 && !noSl q.1) (appU E us) off ct.pars c.args.toList vs with
          | some xs =>
            (ct.F xs).bind fun r =>
              match bring ct.pars bs r.2 with
              | some us' => K (retSlot (retList ct.rets r.1), us ++ us')
              | none => none
          | none => none
        | none => none
      | none => none
    | _ => none
  | _ => none

end Go.Dn
