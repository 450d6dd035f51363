/- The program's types against the interpreter's; loads, stores and new blocks as the machine does them. -/
import Derived.Test.YtegfhigkmghmjaaDoorDh
import Derived.Laws.Entries
import Derived.Laws.Rows
import Derived.Laws.Tables
import Derived.Laws.CopyRow
import Derived.Laws.Cells
import Derived.WalkKit
namespace Go.Dn

/-! ### the table of types -/
def zOk : Ty → List Value → Option (List Value)
  | .int k, .int k' n :: r => if k = k' ∧ n = 0 then some r else none
  | .bool, .bool b :: r => if b = false then some r else none
  | .str, .string s :: r => match s with | ⟨⟨[]⟩⟩ => some r | _ => none
  | .slice _ _, .slice none n m :: r => if n = 0 ∧ m = 0 then some r else none
  | .unit, r => some r
  | .pair a b, cs => (zOk a cs).bind (zOk b)
  | _, _ => none

def fieldsOk (tab : List (TypeId × Ty)) : List Field → Nat → Ty → Bool
  | [], _, .unit => true
  | f :: fs, o, .pair a b => (lookup tab f.type == some a) && (f.offset == o) && !(a.size == 0) && fieldsOk tab fs (o + a.size) b
  | _, _, _ => false

def arrOk (a : Ty) : Nat → Ty → Bool
  | 0, .unit => true
  | n + 1, .pair b c => (b == a) && arrOk a n c
  | _, _ => false

def fits (tab : List (TypeId × Ty)) : TypeDesc → Ty → Bool
  | .int k, .int k' => k == k'
  | .bool, .bool => true
  | .string, .str => true
  | .slice e, .slice e' t => (e == e') && (lookup tab e == some t) && !(t.size == 0)
  | .struct fs, t => t.agg && fieldsOk tab fs.toList 0 t
  | .array n e, t => t.agg && (match lookup tab e with | some a => !(a.size == 0) && arrOk a n t | none => false)
  | _, _ => false

def tyOk (P : Program) (tab : List (TypeId × Ty)) (q : TypeId × Ty) : Bool :=
  match P.info? q.1, P.underlying q.1 with
  | some i, some d => (i.size == q.2.size) && (match i.zero with | some z => (match zOk q.2 z.cells.toList with | some [] => true | _ => false) | none => false) && decide (i.bytes ≤ 128) && fits tab d q.2
  | _, _ => false

def TabOk (P : Program) (tab : List (TypeId × Ty)) : Prop := tab.all (tyOk P tab) = true

theorem lookup_mem {α : Type} : ∀ {l : List (Nat × α)} {k : Nat} {a : α}, lookup l k = some a → (k, a) ∈ l
  | [], _, _, h => by cases h
  | (k', a') :: l, k, a, h => by
    simp only [lookup] at h
    cases hk : (k' == k) with
    | true => rw [hk] at h; simp only [cond_true, Option.some.injEq] at h; subst h; rw [beq_iff_eq] at hk; subst hk; exact List.mem_cons_self ..
    | false => rw [hk] at h; exact List.mem_cons_of_mem _ (lookup_mem h)

structure TyFact (P : Program) (tab : List (TypeId × Ty)) (tid : TypeId) (t : Ty) : Prop where
  info : ∃ i z, P.info? tid = some i ∧ i.size = t.size ∧ i.zero = some z ∧ zOk t z.cells.toList = some [] ∧ i.bytes ≤ 128
  und : ∃ d, P.underlying tid = some d ∧ fits tab d t = true

theorem tab_fact {P : Program} {tab : List (TypeId × Ty)} (h : TabOk P tab) {tid : TypeId} {t : Ty} (hl : lookup tab tid = some t) : TyFact P tab tid t := by
  have := List.all_eq_true.1 h _ (lookup_mem hl)
  unfold tyOk at this
  split at this
  · rename_i i d h1 h2
    simp only [Bool.and_eq_true, beq_iff_eq, decide_eq_true_eq] at this
    obtain ⟨⟨⟨a1, a2⟩, a3⟩, a4⟩ := this
    refine ⟨?_, d, h2, a4⟩
    split at a2
    · rename_i z hz
      split at a2
      · rename_i hzo; exact ⟨i, z, h1, a1, hz, hzo, a3⟩
      · cases a2
    · cases a2
  · cases this

theorem zOk_rep {w : World} {Pr : Nat → Prop} : ∀ {t : Ty} {cs r : List Value}, zOk t cs = some r → ∃ c, cs = c ++ r ∧ Rep w Pr t (top t) c (dflt t) []
  | .int k, [], _, h => by simp [zOk] at h
  | .int k, c :: cs, r, h => by
    cases c <;> simp [zOk] at h
    obtain ⟨⟨rfl, rfl⟩, rfl⟩ := h
    exact ⟨[.int k 0], rfl, rfl, rfl⟩
  | .bool, [], _, h => by simp [zOk] at h
  | .bool, c :: cs, r, h => by
    cases c <;> simp [zOk] at h
    obtain ⟨rfl, rfl⟩ := h
    exact ⟨[.bool false], rfl, rfl, rfl⟩
  | .str, [], _, h => by simp [zOk] at h
  | .str, c :: cs, r, h => by
    cases c <;> simp [zOk] at h
    split at h
    · obtain rfl := Option.some.inj h; exact ⟨[strV []], rfl, rfl, rfl⟩
    · cases h
  | .unit, cs, r, h => by simp [zOk] at h; subst h; exact ⟨[], rfl, rfl, rfl⟩
  | .pair a b, cs, r, h => by
    simp only [zOk, Option.bind_eq_some_iff] at h
    obtain ⟨r1, h1, h2⟩ := h
    obtain ⟨c1, rfl, g1⟩ := zOk_rep (w := w) (Pr := Pr) h1
    obtain ⟨c2, rfl, g2⟩ := zOk_rep (w := w) (Pr := Pr) h2
    exact ⟨c1 ++ c2, by simp, c1, c2, [], [], rfl, by simp, g1, g2⟩
  | .slice e t, [], _, h => by simp [zOk] at h
  | .slice e t, c :: cs, r, h => by
    have hc : ∃ n m, c = .slice none n m ∧ n = 0 ∧ m = 0 ∧ cs = r := by
      cases c with
      | slice A n m =>
        cases A with
        | none => simp [zOk] at h; exact ⟨n, m, rfl, h.1.1, h.1.2, h.2⟩
        | some a => simp [zOk] at h
      | _ => simp [zOk] at h
    obtain ⟨n, m, rfl, rfl, rfl, rfl⟩ := hc
    exact ⟨[.slice none 0 0], rfl, rep_row.2 ⟨.slice none 0 0, [], [], rfl, World.ownsRow_nil _ _ _ _, by simp [Value.ownBlock], rfl, rfl⟩⟩

/-! ### values of one cell -/
theorem Rep.one {w : World} {Pr : Nat → Prop} : ∀ {t : Ty} {o : Ow} {cs : List Value} {x : PV t} {bs : List Nat}, Rep w Pr t o cs x bs → ∀ u ∈ cs, u.oneCell' = true
  | .int _, _, _, _, _, h => by rw [h.1]; simp [Value.oneCell']
  | .bool, _, _, _, _, h => by rw [h.1]; simp [Value.oneCell']
  | .str, _, _, _, _, h => by rw [h.1]; simp [strV, Value.oneCell']
  | .unit, _, _, _, _, h => by rw [h.1]; simp
  | .pair a b, _, _, _, _, h => by
    obtain ⟨c1, c2, b1, b2, rfl, e2, h1, h2⟩ := h
    intro u hu
    rcases List.mem_append.1 hu with hu | hu
    · exact h1.one u hu
    · exact h2.one u hu
  | .slice e t, .row oe, _, _, _, h => by
    obtain ⟨v, ys, b', rfl, h1, _⟩ := rep_row.1 h
    intro u hu
    rw [List.mem_singleton.1 hu]
    rcases ownsRow_form h1 with ⟨rfl, _⟩ | ⟨g, c, rfl, _⟩ <;> simp [Value.oneCell']
  | .slice e t, .b, _, _, _, h => by obtain ⟨_, A, c, rfl, _⟩ := rep_bor.1 h; simp [Value.oneCell']
  | .slice e t, .pr _ _, _, _, _, h => by obtain ⟨_, A, c, rfl, _⟩ := rep_bor'.1 h; simp [Value.oneCell']

theorem RepL.one {w : World} {Pr : Nat → Prop} {t : Ty} {o : Ow} : ∀ {xs : List (PV t)} {cs : List Value} {bs : List Nat}, RepL (Rep w Pr t o) cs xs bs → ∀ u ∈ cs, u.oneCell' = true
  | [], _, _, h => by rw [h.1]; simp
  | _ :: _, _, _, h => by
    obtain ⟨c1, c2, b1, b2, rfl, p2, h1, h2⟩ := h
    intro u hu
    rcases List.mem_append.1 hu with hu | hu
    · exact h1.one u hu
    · exact h2.one u hu

theorem oneCells {v : Value} (h : v.oneCell' = true) : v.cells = #[v] := by cases v <;> simp [Value.oneCell'] at h <;> rfl

theorem pack_cells {w : World} {Pr : Nat → Prop} {t : Ty} {o : Ow} {cs : List Value} {x : PV t} {bs : List Nat} (h : Rep w Pr t o cs x bs) : (pack t cs).cells = cs.toArray := by
  unfold pack
  cases ha : t.agg with
  | true => rfl
  | false =>
    simp only [Bool.false_eq_true, if_false]
    have hl := h.length
    have h1 : t.size = 1 := by cases t <;> simp [Ty.agg] at ha <;> rfl
    rw [h1] at hl
    obtain ⟨v, rfl⟩ := List.length_eq_one_iff.1 hl
    exact oneCells (h.one v (List.mem_singleton_self _))

theorem agg_of_fits {tab : List (TypeId × Ty)} {d : TypeDesc} {t : Ty} (h : fits tab d t = true) : (match d with | .struct _ | .array _ _ => true | _ => false) = t.agg := by
  cases d <;> cases t <;> first | rfl | (unfold fits at h; simp [Ty.agg] at h; done)

section
variable {P : Program} {tab : List (TypeId × Ty)} {tid : TypeId} {t : Ty} {w : World}

theorem run_isAgg (hf : TyFact P tab tid t) : (isAgg tid).run P w = .ok t.agg w := by
  obtain ⟨d, h1, h2⟩ := hf.und
  have := agg_of_fits h2
  simp only [isAgg, Sem.run_bind, run_underlying h1, Result.andThen_ok]
  rw [← this]
  cases d <;> rfl

theorem run_sizeOf (hf : TyFact P tab tid t) : (sizeOf tid).run P w = .ok t.size w := by
  obtain ⟨i, z, h1, h2, _⟩ := hf.info
  simp [Go.sizeOf, typeInfo, program, Sem.run, h1, h2]

theorem Cells.of_holds {b off : Nat} {cs : List Value} (h : HoldsAt w b off cs) : Cells w ⟨b, off, none⟩ cs := by
  obtain ⟨cur, T, h1, h2⟩ := h
  intro j u hu
  rw [show (⟨b, off, none⟩ : Addr).add j = ⟨b, off + j, none⟩ by unfold Addr.add; split <;> simp_all]
  simp only [World.cell?, h1, Option.isSome_none, Bool.false_eq_true, if_false]
  exact h2 j u hu

theorem run_loadVar_cells (hf : TyFact P tab tid t) {a : Addr} {cs : List Value} (hc : Cells w a cs) (hl : cs.length = t.size) : (loadVar tid a).run P w = .ok (pack t cs) w := by
  simp only [loadVar, Sem.run_bind, run_isAgg hf, Result.andThen_ok]
  unfold pack
  cases ha : t.agg with
  | true =>
    simp only [if_true, Sem.run_bind, run_sizeOf hf, Result.andThen_ok, ← hl, run_loadCells_list (P := P) w a cs hc]
    rfl
  | false =>
    simp only [Bool.false_eq_true, if_false]
    have h1 : t.size = 1 := by cases t <;> simp [Ty.agg] at ha <;> rfl
    rw [h1] at hl
    obtain ⟨v, rfl⟩ := List.length_eq_one_iff.1 hl
    have := hc 0 v rfl
    rw [show a.add 0 = a by simp [Addr.add]] at this
    simp [load, Sem.run, this]

theorem run_loadAt (hf : TyFact P tab tid t) {a : Addr} {cs : List Value} (hc : Cells w a cs) (hl : cs.length = t.size) : (Instr.loadAt tid (.pointer (some a))).run P w = .ok (pack t cs) w := by
  simp [Instr.loadAt, Instr.sureAddr, run_loadVar_cells hf hc hl]

theorem run_storeAt (hf : TyFact P tab tid t) {b off : Nat} {old new : List Value} (hh : HoldsAt w b off old) (hl : old.length = t.size) {v : Value} (hv : v.cells = new.toArray) (hn : new.length = t.size)
    (h1 : ∀ u ∈ new, u.oneCell' = true) :
    ∃ w2, (Instr.storeAt tid (.pointer (some ⟨b, off, none⟩)) v).run P w = .ok () w2 ∧ Upd w w2 b off new ∧ (∀ k, k ≠ b → w2.heap[k]? = w.heap[k]?) ∧ w2.os = w.os ∧ w2.tape = w.tape ∧
      w2.output = w.output ∧ w2.heap.size = w.heap.size := by
  obtain ⟨cur, T, g1, g2⟩ := hh
  by_cases h0 : new = []
  · subst h0
    refine ⟨w, ?_, ⟨cur, T, cur, g1, g1, rfl, fun _ _ => rfl, by simp⟩, fun _ _ => rfl, rfl, rfl, rfl, rfl⟩
    have : t.size = 0 := by simpa using hn.symm
    simp [Instr.storeAt, Instr.sureAddr, storeVar, hv, run_sizeOf hf, this, storeCells]
  · have hlen : 0 < new.length := by cases new <;> simp at h0 ⊢
    have hfit : off + new.length ≤ cur.size := by
      have hlast : old.length - 1 < old.length := by omega
      have := g2 (old.length - 1) _ (List.getElem?_eq_getElem hlast)
      have := (Array.getElem?_eq_some_iff.1 this).1
      omega
    have hr := run_storeCells_at P b off T new 0 cur w g1 (by simpa using hfit) h1
    simp only [Nat.add_zero] at hr
    refine ⟨w.setRow b (cur.toList.take off ++ new ++ cur.toList.drop (off + new.length)).toArray, ?_, ⟨cur, T, _, g1, setRow_heap w b cur _ T _ g1, ?_, ?_, ?_⟩, fun k hk => setRow_other w b k _ hk, rfl, rfl, rfl, by simp⟩
    · simp [Instr.storeAt, Instr.sureAddr, storeVar, run_sizeOf hf, hn, hv, hr]
    · simp; omega
    · intro i hi
      simp only [List.getElem?_toArray]
      rcases hi with hi | hi
      · rw [List.append_assoc, List.getElem?_append_left (by simp; omega), List.getElem?_take, if_pos hi]; simp
      · rw [List.getElem?_append_right (by simp; omega), List.getElem?_drop]
        simp only [List.length_append, List.length_take, Array.length_toList]
        rw [show off + new.length + (i - (min off cur.size + new.length)) = i by omega]; simp
    · intro i u hu
      have hi := (List.getElem?_eq_some_iff.1 hu).1
      simp only [List.getElem?_toArray]
      rw [List.getElem?_append_left (by simp; omega), List.getElem?_append_right (by simp; omega)]
      simp only [List.length_take, Array.length_toList]
      rw [show off + i - min off cur.size = i by omega]; exact hu

theorem heap_alloc_self (w : World) (o : Obj) : (w.alloc o).heap[w.heap.size]? = some o := by show (w.heap.push o)[w.heap.size]? = _; simp
theorem heap_alloc_ne (w : World) (o : Obj) (k : Nat) (h : k < w.heap.size) : (w.alloc o).heap[k]? = w.heap[k]? := by
  show (w.heap.push o)[k]? = _; rw [Array.getElem?_push, if_neg (by omega)]

theorem run_newVar (v : Value) : (newVar tid v).run P w = .ok ⟨w.heap.size, 0, none⟩ (w.alloc (.cells v.cells tid)) := by
  rfl

end
end Go.Dn
