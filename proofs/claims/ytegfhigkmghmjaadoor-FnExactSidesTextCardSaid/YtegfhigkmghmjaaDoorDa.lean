/- Pure values of the program's types, how they stand in the model's memory, and that what is told of them outlives changes elsewhere. -/
import Derived.Laws.AppendOwn
import Derived.Laws.OwnMore
import Derived.Laws.MakeOwn
import Derived.Below
import Derived.Calls
import Derived.Orders
namespace Go.Dn

/-! ### types -/
inductive Ty where
  | int (k : IntKind)
  | bool
  | str
  | unit
  | pair (a b : Ty)
  | slice (e : TypeId) (t : Ty)
  deriving DecidableEq

@[reducible] def PV : Ty → Type
  | .int _ => Int
  | .bool => Bool
  | .str => List UInt8
  | .unit => Unit
  | .pair a b => PV a × PV b
  | .slice _ t => List (PV t)

def dflt : (t : Ty) → PV t
  | .int _ => (0 : Int)
  | .bool => false
  | .str => ([] : List UInt8)
  | .unit => ()
  | .pair a b => (dflt a, dflt b)
  | .slice _ t => ([] : List (PV t))

def Ty.agg : Ty → Bool
  | .pair _ _ => true
  | .unit => true
  | _ => false

def Ty.size : Ty → Nat
  | .unit => 0
  | .pair a b => a.size + b.size
  | _ => 1

def strV (l : List UInt8) : Value := .string ⟨⟨l⟩⟩

theorem strV_of (s : ByteArray) : Value.string s = strV s.data.toList := rfl

def pack (t : Ty) (cs : List Value) : Value := if t.agg then .agg cs.toArray else cs.headD undef

/-! ### ownership -/
inductive Ow where
  | b
  | row (e : Ow)
  | pr (x y : Ow)

def Ow.fst : Ow → Ow
  | .pr x _ => x
  | _ => .b
def Ow.snd : Ow → Ow
  | .pr _ y => y
  | _ => .b
def Ow.elem : Ow → Ow
  | .row e => e
  | _ => .b

/-- All rows owned. -/
def top : Ty → Ow
  | .pair a b => .pr (top a) (top b)
  | .slice _ t => .row (top t)
  | _ => .b

/-! ### standing in memory -/
def RepL {α : Type} (R : List Value → α → List Nat → Prop) : List Value → List α → List Nat → Prop
  | cs, [], bs => cs = [] ∧ bs = []
  | cs, x :: xs, bs => ∃ c1 c2 b1 b2, cs = c1 ++ c2 ∧ bs.Perm (b1 ++ b2) ∧ R c1 x b1 ∧ RepL R c2 xs b2

def Cells (w : World) (a : Addr) (ys : List Value) : Prop := ∀ (j : Nat) (u : Value), ys[j]? = some u → w.cell? (a.add j) = some u

def Rep (w : World) (Pr : Nat → Prop) : (t : Ty) → Ow → List Value → PV t → List Nat → Prop
  | .int k, _, cs, n, bs => cs = [.int k n] ∧ bs = []
  | .bool, _, cs, x, bs => cs = [.bool x] ∧ bs = []
  | .str, _, cs, s, bs => cs = [strV s] ∧ bs = []
  | .unit, _, cs, _, bs => cs = [] ∧ bs = []
  | .pair a b, o, cs, x, bs => ∃ c1 c2 b1 b2, cs = c1 ++ c2 ∧ bs.Perm (b1 ++ b2) ∧ Rep w Pr a o.fst c1 x.1 b1 ∧ Rep w Pr b o.snd c2 x.2 b2
  | .slice e t, .row oe, cs, xs, bs => ∃ v ys b', cs = [v] ∧ w.ownsRow 0 e t.size v xs.length ys ∧ bs.Perm (v.ownBlock.toList ++ b') ∧ RepL (Rep w Pr t oe) ys xs b'
  | .slice _ t, _, cs, xs, bs => bs = [] ∧ ∃ A c, cs = [.slice A xs.length c] ∧ xs.length ≤ c ∧
      (xs = [] ∨ ∃ a ys, A = some a ∧ Pr a.block ∧ Cells w a ys ∧ RepL (Rep w Pr t .b) ys xs [])

/-- A borrowed slice, in words. -/
def Bor (w : World) (Pr : Nat → Prop) (t : Ty) (cs : List Value) (xs : List (PV t)) : Prop :=
  ∃ A c, cs = [.slice A xs.length c] ∧ xs.length ≤ c ∧ (xs = [] ∨ ∃ a ys, A = some a ∧ Pr a.block ∧ Cells w a ys ∧ RepL (Rep w Pr t .b) ys xs [])

theorem rep_bor {w : World} {Pr : Nat → Prop} {e : TypeId} {t : Ty} {cs : List Value} {xs : List (PV t)} {bs : List Nat} :
    Rep w Pr (.slice e t) .b cs xs bs ↔ bs = [] ∧ Bor w Pr t cs xs := by simp only [Rep, Bor]
theorem rep_bor' {w : World} {Pr : Nat → Prop} {e : TypeId} {t : Ty} {cs : List Value} {xs : List (PV t)} {bs : List Nat} {p q : Ow} :
    Rep w Pr (.slice e t) (.pr p q) cs xs bs ↔ bs = [] ∧ Bor w Pr t cs xs := by simp only [Rep, Bor]
theorem rep_row {w : World} {Pr : Nat → Prop} {e : TypeId} {t : Ty} {oe : Ow} {cs : List Value} {xs : List (PV t)} {bs : List Nat} :
    Rep w Pr (.slice e t) (.row oe) cs xs bs ↔ ∃ v ys b', cs = [v] ∧ w.ownsRow 0 e t.size v xs.length ys ∧ bs.Perm (v.ownBlock.toList ++ b') ∧ RepL (Rep w Pr t oe) ys xs b' := by
  simp only [Rep]
theorem rep_pair {w : World} {Pr : Nat → Prop} {a b : Ty} {o : Ow} {cs : List Value} {x : PV a × PV b} {bs : List Nat} :
    Rep w Pr (.pair a b) o cs x bs ↔ ∃ c1 c2 b1 b2, cs = c1 ++ c2 ∧ bs.Perm (b1 ++ b2) ∧ Rep w Pr a o.fst c1 x.1 b1 ∧ Rep w Pr b o.snd c2 x.2 b2 := by
  simp only [Rep]

/-! ### simple facts -/
theorem RepL.imp {α : Type} {R R' : List Value → α → List Nat → Prop} {bsA : List Nat} :
    ∀ {xs : List α} {cs : List Value} {bs : List Nat}, (∀ c x b, (∀ k ∈ b, k ∈ bsA) → R c x b → R' c x b) → (∀ k ∈ bs, k ∈ bsA) → RepL R cs xs bs → RepL R' cs xs bs
  | [], _, _, _, _, h => h
  | _ :: _, _, _, hR, hs, h => by
    obtain ⟨c1, c2, b1, b2, e1, e2, h1, h2⟩ := h
    exact ⟨c1, c2, b1, b2, e1, e2, hR _ _ _ (fun k hk => hs k (e2.mem_iff.2 (List.mem_append_left _ hk))) h1,
      RepL.imp hR (fun k hk => hs k (e2.mem_iff.2 (List.mem_append_right _ hk))) h2⟩

theorem RepL.perm {α : Type} {R : List Value → α → List Nat → Prop} :
    ∀ {xs : List α} {cs : List Value} {bs bs' : List Nat}, bs.Perm bs' → RepL R cs xs bs → RepL R cs xs bs'
  | [], _, _, _, p, h => ⟨h.1, by obtain ⟨_, rfl⟩ := h; exact List.perm_nil.1 p.symm⟩
  | _ :: _, _, _, _, p, h => by
    obtain ⟨c1, c2, b1, b2, e1, e2, h1, h2⟩ := h
    exact ⟨c1, c2, b1, b2, e1, p.symm.trans e2, h1, h2⟩

theorem Rep.perm {w : World} {Pr : Nat → Prop} : ∀ {t : Ty} {o : Ow} {cs : List Value} {x : PV t} {bs bs' : List Nat}, bs.Perm bs' → Rep w Pr t o cs x bs → Rep w Pr t o cs x bs' := by
  intro t o cs x bs bs' p h
  cases t with
  | int k => exact ⟨h.1, by obtain ⟨_, rfl⟩ := h; exact List.perm_nil.1 p.symm⟩
  | bool => exact ⟨h.1, by obtain ⟨_, rfl⟩ := h; exact List.perm_nil.1 p.symm⟩
  | str => exact ⟨h.1, by obtain ⟨_, rfl⟩ := h; exact List.perm_nil.1 p.symm⟩
  | unit => exact ⟨h.1, by obtain ⟨_, rfl⟩ := h; exact List.perm_nil.1 p.symm⟩
  | pair a b =>
    obtain ⟨c1, c2, b1, b2, e1, e2, h1, h2⟩ := h
    exact ⟨c1, c2, b1, b2, e1, p.symm.trans e2, h1, h2⟩
  | slice e t =>
    cases o with
    | row oe =>
      obtain ⟨v, ys, b', e1, e2, e3, h1⟩ := rep_row.1 h
      exact rep_row.2 ⟨v, ys, b', e1, e2, p.symm.trans e3, h1⟩
    | b => exact rep_bor.2 ⟨by have := (rep_bor.1 h).1; subst this; exact List.perm_nil.1 p.symm, (rep_bor.1 h).2⟩
    | pr x y => exact rep_bor'.2 ⟨by have := (rep_bor'.1 h).1; subst this; exact List.perm_nil.1 p.symm, (rep_bor'.1 h).2⟩

theorem RepL.length {α : Type} {R : List Value → α → List Nat → Prop} {n : Nat} (hR : ∀ c x b, R c x b → c.length = n) :
    ∀ {xs : List α} {cs : List Value} {bs : List Nat}, RepL R cs xs bs → cs.length = xs.length * n
  | [], _, _, h => by rw [h.1]; simp
  | _ :: xs, _, _, h => by
    obtain ⟨c1, c2, b1, b2, rfl, e2, h1, h2⟩ := h
    rw [List.length_append, hR _ _ _ h1, RepL.length hR h2, List.length_cons, Nat.succ_mul, Nat.add_comm]

theorem Rep.length {w : World} {Pr : Nat → Prop} : ∀ {t : Ty} {o : Ow} {cs : List Value} {x : PV t} {bs : List Nat}, Rep w Pr t o cs x bs → cs.length = t.size
  | .int _, _, _, _, _, h => by rw [h.1]; rfl
  | .bool, _, _, _, _, h => by rw [h.1]; rfl
  | .str, _, _, _, _, h => by rw [h.1]; rfl
  | .unit, _, _, _, _, h => by rw [h.1]; rfl
  | .pair a b, _, _, _, _, h => by
    obtain ⟨c1, c2, b1, b2, rfl, e2, h1, h2⟩ := h
    rw [List.length_append, h1.length, h2.length]; rfl
  | .slice e t, .row oe, _, _, _, h => by obtain ⟨v, ys, b', rfl, _⟩ := rep_row.1 h; rfl
  | .slice e t, .b, _, _, _, h => by obtain ⟨_, A, c, rfl, _⟩ := rep_bor.1 h; rfl
  | .slice e t, .pr _ _, _, _, _, h => by obtain ⟨_, A, c, rfl, _⟩ := rep_bor'.1 h; rfl

/-- Two worlds agree on some blocks. -/
def Agree (w w' : World) (S : Nat → Prop) : Prop := ∀ k, S k → w'.heap[k]? = w.heap[k]?

theorem Cells.agree {w w' : World} {a : Addr} {ys : List Value} (h : Cells w a ys) (hb : w'.heap[a.block]? = w.heap[a.block]?) : Cells w' a ys := by
  intro j u hu
  rw [World.cell?_of_block (w := w) (by rw [show (a.add j).block = a.block by unfold Addr.add; split <;> rfl]; exact hb)]
  exact h j u hu

theorem ownsRow_agree {w w' : World} {e : TypeId} {size n : Nat} {v : Value} {xs : List Value} (h : w.ownsRow 0 e size v n xs)
    (hb : ∀ k ∈ v.ownBlock.toList, w'.heap[k]? = w.heap[k]?) : w'.ownsRow 0 e size v n xs := by
  refine ⟨h.1, ?_⟩
  rcases h.2 with hn | ⟨g, cap, cur, rfl, hg0, hg, rest⟩
  · exact .inl hn
  · exact .inr ⟨g, cap, cur, rfl, hg0, by rw [hb g (by simp [Value.ownBlock])]; exact hg, rest⟩

theorem Rep.agree {w w' : World} {Pr Pr' : Nat → Prop} (hp : ∀ k, Pr k → Pr' k) :
    ∀ {t : Ty} {o : Ow} {cs : List Value} {x : PV t} {bs : List Nat}, Agree w w' (fun k => Pr k ∨ k ∈ bs) → Rep w Pr t o cs x bs → Rep w' Pr' t o cs x bs
  | .int _, _, _, _, _, _, h => h
  | .bool, _, _, _, _, _, h => h
  | .str, _, _, _, _, _, h => h
  | .unit, _, _, _, _, _, h => h
  | .pair a b, _, _, _, _, ha, h => by
    obtain ⟨c1, c2, b1, b2, e1, e2, h1, h2⟩ := h
    exact ⟨c1, c2, b1, b2, e1, e2, h1.agree hp (fun k hk => ha k (hk.imp id fun m => e2.mem_iff.2 (List.mem_append_left _ m))),
      h2.agree hp (fun k hk => ha k (hk.imp id fun m => e2.mem_iff.2 (List.mem_append_right _ m)))⟩
  | .slice e t, .row oe, _, _, bs, ha, h => by
    obtain ⟨v, ys, b', e1, e2, e3, h1⟩ := rep_row.1 h
    refine rep_row.2 ⟨v, ys, b', e1, ownsRow_agree e2 (fun k hk => ha k (.inr (e3.mem_iff.2 (List.mem_append_left _ hk)))), e3, ?_⟩
    exact h1.imp (bsA := bs) (fun c x b hb hr => hr.agree hp (fun k hk => ha k (hk.imp id (hb k)))) (fun k hk => e3.mem_iff.2 (List.mem_append_right _ hk))
  | .slice e t, .b, _, _, bs, ha, h => by
    obtain ⟨rfl, A, c, e1, e2, e3⟩ := rep_bor.1 h
    refine rep_bor.2 ⟨rfl, A, c, e1, e2, e3.imp id ?_⟩
    rintro ⟨a, ys, rfl, hpa, hc, hl⟩
    exact ⟨a, ys, rfl, hp _ hpa, hc.agree (ha _ (.inl hpa)), hl.imp (bsA := []) (fun c x b hb hr => hr.agree hp (fun k hk => ha k (hk.imp id (hb k)))) (fun k hk => hk)⟩
  | .slice e t, .pr _ _, _, _, bs, ha, h => by
    obtain ⟨rfl, A, c, e1, e2, e3⟩ := rep_bor'.1 h
    refine rep_bor'.2 ⟨rfl, A, c, e1, e2, e3.imp id ?_⟩
    rintro ⟨a, ys, rfl, hpa, hc, hl⟩
    exact ⟨a, ys, rfl, hp _ hpa, hc.agree (ha _ (.inl hpa)), hl.imp (bsA := []) (fun c x b hb hr => hr.agree hp (fun k hk => ha k (hk.imp id (hb k)))) (fun k hk => hk)⟩

theorem RepL.agree {w w' : World} {Pr Pr' : Nat → Prop} (hp : ∀ k, Pr k → Pr' k) {t : Ty} {o : Ow} {cs : List Value} {xs : List (PV t)} {bs : List Nat}
    (ha : Agree w w' (fun k => Pr k ∨ k ∈ bs)) (h : RepL (Rep w Pr t o) cs xs bs) : RepL (Rep w' Pr' t o) cs xs bs :=
  h.imp (bsA := bs) (fun _ _ _ hb hr => hr.agree hp (fun k hk => ha k (hk.imp id (hb k)))) (fun _ hk => hk)

theorem Rep.lt {w : World} {Pr : Nat → Prop} : ∀ {t : Ty} {o : Ow} {cs : List Value} {x : PV t} {bs : List Nat}, Rep w Pr t o cs x bs → ∀ k ∈ bs, k < w.heap.size
  | .int _, _, _, _, _, h => by rw [h.2]; simp
  | .bool, _, _, _, _, h => by rw [h.2]; simp
  | .str, _, _, _, _, h => by rw [h.2]; simp
  | .unit, _, _, _, _, h => by rw [h.2]; simp
  | .pair a b, _, _, _, _, h => by
    obtain ⟨c1, c2, b1, b2, e1, e2, h1, h2⟩ := h
    intro k hk
    rcases List.mem_append.1 (e2.mem_iff.1 hk) with h | h
    · exact h1.lt k h
    · exact h2.lt k h
  | .slice e t, .row oe, _, xs, bs, h => by
    obtain ⟨v, ys, b', e1, e2, e3, h1⟩ := rep_row.1 h
    intro k hk
    rcases List.mem_append.1 (e3.mem_iff.1 hk) with h | h
    · exact (e2.lt k (by simpa using h)).2
    · have go : ∀ (xs : List (PV t)) (ys : List Value) (b : List Nat), RepL (Rep w Pr t oe) ys xs b → ∀ k ∈ b, k < w.heap.size := by
        intro xs
        induction xs with
        | nil => intro ys b h; rw [h.2]; simp
        | cons x xs ih =>
          intro ys b h k hk
          obtain ⟨c1, c2, b1, b2, _, p2, h1, h2⟩ := h
          rcases List.mem_append.1 (p2.mem_iff.1 hk) with h | h
          · exact h1.lt k h
          · exact ih _ _ h2 k h
      exact go xs ys b' h1 k h
  | .slice e t, .b, _, _, bs, h => by rw [(rep_bor.1 h).1]; simp
  | .slice e t, .pr _ _, _, _, bs, h => by rw [(rep_bor'.1 h).1]; simp

theorem RepL.lt {w : World} {Pr : Nat → Prop} {t : Ty} {o : Ow} : ∀ {xs : List (PV t)} {cs : List Value} {bs : List Nat}, RepL (Rep w Pr t o) cs xs bs → ∀ k ∈ bs, k < w.heap.size
  | [], _, _, h => by rw [h.2]; simp
  | _ :: _, _, _, h => by
    obtain ⟨c1, c2, b1, b2, _, p2, h1, h2⟩ := h
    intro k hk
    rcases List.mem_append.1 (p2.mem_iff.1 hk) with h | h
    · exact h1.lt k h
    · exact h2.lt k h

/-! ### weakening: what is owned is borrowed from now on -/
def weaken : Ty → Ow → Ow → Bool
  | .pair a b, o1, o2 => weaken a o1.fst o2.fst && weaken b o1.snd o2.snd
  | .slice _ t, .row e1, .row e2 => weaken t e1 e2
  | .slice _ _, .b, .row _ => false
  | .slice _ _, .pr _ _, .row _ => false
  | _, _, _ => true

/-- Is anything owned? -/
def owns : Ty → Ow → Bool
  | .pair a b, o => owns a o.fst || owns b o.snd
  | .slice _ _, .row _ => true
  | _, _ => false

theorem RepL.split {α : Type} {R : List Value → α → List Nat → Prop} :
    ∀ {xs : List α} {cs : List Value} {bs : List Nat} (n : Nat) (h : n < xs.length), RepL R cs xs bs →
      ∃ c0 c c2 b b2, cs = c0 ++ c ++ c2 ∧ bs.Perm (b ++ b2) ∧ R c xs[n] b ∧
        (∀ m, (∀ c x b, R c x b → c.length = m) → c0.length = n * m) ∧
        (∀ R' : List Value → α → List Nat → Prop, (∀ c x b', (∀ k ∈ b', k ∈ b2) → R c x b' → R' c x b') → ∀ c' x' b', R' c' x' b' → RepL R' (c0 ++ c' ++ c2) (xs.set n x') (b' ++ b2))
  | x :: xs, cs, bs, 0, _, h => by
    obtain ⟨c1, c2, b1, b2, e1, e2, h1, h2⟩ := h
    refine ⟨[], c1, c2, b1, b2, by simp [e1], e2, h1, by simp, fun R' hR c' x' b' hr => ?_⟩
    exact ⟨c', c2, b', b2, by simp, List.Perm.refl _, hr, h2.imp (bsA := b2) hR (fun k hk => hk)⟩
  | x :: xs, cs, bs, n + 1, h, hh => by
    obtain ⟨c1, c2, b1, b2, e1, e2, h1, h2⟩ := hh
    obtain ⟨c0, c, c3, b, b3, e3, e4, h3, h4, h5⟩ := RepL.split n (by simpa using h) h2
    refine ⟨c1 ++ c0, c, c3, b, b1 ++ b3, by rw [e1, e3]; simp, ?_, by simpa using h3, ?_, ?_⟩
    · refine e2.trans ((List.Perm.append_left _ e4).trans ?_)
      rw [← List.append_assoc, ← List.append_assoc]
      exact List.Perm.append_right _ List.perm_append_comm
    · intro m hm
      rw [List.length_append, hm _ _ _ h1, h4 m hm, Nat.succ_mul, Nat.add_comm]
    · intro R' hR c' x' b' hr
      refine ⟨c1, c0 ++ c' ++ c3, b1, b' ++ b3, by simp, ?_, hR _ _ _ (fun k hk => List.mem_append_left _ hk) h1, h5 R' (fun c x b'' hb => hR c x b'' (fun k hk => List.mem_append_right _ (hb k hk))) c' x' b' hr⟩
      rw [← List.append_assoc, ← List.append_assoc]
      exact List.Perm.append_right _ List.perm_append_comm

theorem RepL.append {α : Type} {R : List Value → α → List Nat → Prop} :
    ∀ {xs ys : List α} {cs ds : List Value} {bs ds' : List Nat}, RepL R cs xs bs → RepL R ds ys ds' → RepL R (cs ++ ds) (xs ++ ys) (bs ++ ds')
  | [], _, _, _, _, _, h, h' => by obtain ⟨rfl, rfl⟩ := h; exact h'
  | _ :: _, _, _, _, _, _, h, h' => by
    obtain ⟨c1, c2, b1, b2, rfl, e2, h1, h2⟩ := h
    refine ⟨c1, _, b1, _, by rw [List.append_assoc], ?_, h1, h2.append h'⟩
    rw [← List.append_assoc]; exact e2.append_right _

theorem RepL.take {α : Type} {R : List Value → α → List Nat → Prop} {m : Nat} (hR : ∀ c x b, R c x b → c.length = m) :
    ∀ {xs : List α} {cs : List Value} {bs : List Nat} (n : Nat), RepL R cs xs bs → ∃ b1 b2, bs.Perm (b1 ++ b2) ∧ RepL R (cs.take (n * m)) (xs.take n) b1 ∧ RepL R (cs.drop (n * m)) (xs.drop n) b2
  | [], _, _, n, h => by obtain ⟨rfl, rfl⟩ := h; exact ⟨[], [], List.Perm.refl _, by simp [RepL], by simp [RepL]⟩
  | x :: xs, cs, bs, 0, h => ⟨[], bs, List.Perm.refl _, by simp [RepL], by simpa using h⟩
  | x :: xs, cs, bs, n + 1, h => by
    obtain ⟨c1, c2, b1, b2, rfl, e2, h1, h2⟩ := h
    obtain ⟨b3, b4, e3, h3, h4⟩ := RepL.take hR n h2
    have hl := hR _ _ _ h1
    have hm : (n + 1) * m = c1.length + n * m := by rw [hl, Nat.succ_mul, Nat.add_comm]
    refine ⟨b1 ++ b3, b4, ?_, ?_, ?_⟩
    · rw [List.append_assoc]; exact e2.trans (e3.append_left _)
    · refine ⟨c1, c2.take (n * m), b1, b3, ?_, List.Perm.refl _, h1, h3⟩
      rw [hm, List.take_append, List.take_of_length_le (by omega), Nat.add_sub_cancel_left]
    · rw [hm, List.drop_append, List.drop_of_length_le (by omega), Nat.add_sub_cancel_left]; simpa using h4

end Go.Dn
