/- Operations, second part: variables, loads, stores, places. -/
import Derived.Test.YtegfhigkmghmjaaDoorDj
namespace Go.Dn

section
variable {w0 : World} {Pr0 M : Nat → Prop}
variable {P : Program} {cx : Cx} {E : Env} {V : List Value} {w w' : World} {Pr : Nat → Prop} {B : Nat → List Nat} {off : Nat} {a : Act}

def upd (B : Nat → List Nat) (N : Nat) (bs : List Nat) : Nat → List Nat := fun j => if j = N then bs else B j

theorem upd_N {N : Nat} {bs : List Nat} : upd B N bs N = bs := by simp [upd]
theorem upd_ne {N j : Nat} {bs : List Nat} (h : j ≠ N) : upd B N bs j = B j := by simp [upd, h]

/-- New blocks come into the hand; what is there may turn. -/
theorem StB.fresh (h : StB w0 Pr0 M E V w Pr B) {N : Nat} (hN : E.length ≤ N) {bs : List Nat} (hbs : ∀ b ∈ bs, (b ∈ B N ∨ w.heap.size ≤ b) ∧ b < w'.heap.size) (hnd : bs.Nodup)
    (hw : ∀ b, b < w.heap.size → b ∉ B N → w'.heap[b]? = w.heap[b]?)
    (hos : w'.os = w.os) (htape : w'.tape = w.tape) (hout : w'.output = w.output) (hsz : w.heap.size ≤ w'.heap.size) : StB w0 Pr0 M E V w' Pr (upd B N bs) :=
  h.pool (fun j => j = N) h.len rfl (fun k hk => ⟨rfl, rfl, upd_ne hk⟩)
    (fun k e v hk he _ => by have := (List.getElem?_eq_some_iff.1 he).1; omega)
    (fun k hk b hb => by subst hk; rw [upd_N] at hb; exact ⟨(hbs b hb).1.imp (fun m => ⟨k, rfl, m⟩) id, (hbs b hb).2⟩)
    (fun _ h => h) (fun _ h => .inl h) (fun k hk => by subst hk; rw [upd_N]; exact hnd) (fun i j hi hj hne => absurd (hi.trans hj.symm) hne)
    (fun b hb hk => hw b hb (hk N rfl)) hos htape hout hsz

theorem holds_new (w : World) (cs : List Value) (tid : TypeId) : HoldsAt (w.alloc (.cells cs.toArray tid)) w.heap.size 0 cs :=
  ⟨cs.toArray, tid, heap_alloc_self w _, fun i u hu => by simpa using hu⟩

theorem hand_var (h : StB w0 Pr0 M E V w Pr B) {N : Nat} (hN : E.length ≤ N) {t : Ty} {o : Ow} {cs : List Value} {x : PV t} (hr : Rep w Pr t o cs x (B N)) (tid : TypeId) :
    StB w0 Pr0 M E V (w.alloc (.cells cs.toArray tid)) Pr (upd B N (w.heap.size :: B N)) ∧
      VarOk (w.alloc (.cells cs.toArray tid)) Pr (.pointer (some ⟨w.heap.size, 0, none⟩)) t o x (w.heap.size :: B N) := by
  have hlt : ∀ b ∈ B N, b < w.heap.size := fun b hb => (h.free _ _ hb).2.2
  refine ⟨h.fresh hN (fun b hb => ?_) (List.nodup_cons.2 ⟨fun m => Nat.lt_irrefl _ (hlt _ m), h.nodup N⟩) (fun b hb _ => heap_alloc_ne w _ b hb) rfl rfl rfl (by show _ ≤ (w.heap.push _).size; simp), ?_⟩
  · have hs : (w.alloc (.cells cs.toArray tid)).heap.size = w.heap.size + 1 := by show (w.heap.push _).size = _; simp
    rcases List.mem_cons.1 hb with rfl | hb
    · exact ⟨.inr (Nat.le_refl _), by omega⟩
    · exact ⟨.inl hb, by have := hlt b hb; omega⟩
  · refine ⟨w.heap.size, cs, B N, rfl, holds_new w cs tid, hr.agree (fun _ h => h) (fun b hb => heap_alloc_ne w _ b ?_), List.Perm.refl _⟩
    exact hb.elim (h.prlt b) (hlt b)

theorem good_alloc (htab : TabOk P cx.tab) {o : Oper} {tid : TypeId} {t : Ty} (hop : o.op = .alloc tid) (h : StB w0 Pr0 M E V w Pr B) (hN : ∀ k, E.length ≤ k → B k = []) (hl : lookup cx.tab tid = some t) :
    OpGood w0 Pr0 M P E V w a o (.var t (top t) (dflt t), []) := by
  obtain ⟨i, z, h1, h2, h3, h4, h5⟩ := (tab_fact htab hl).info
  obtain ⟨c, hc, hr⟩ := zOk_rep (w := w) (Pr := Pr) h4
  simp only [List.append_nil] at hc
  have hB := hN E.length (Nat.le_refl _)
  have hv := hand_var h (Nat.le_refl E.length) (cs := c) (by rw [hB]; exact hr) tid
  rw [hB] at hv
  refine ⟨.value _, w.alloc (.cells z.cells tid), .pointer (some ⟨w.heap.size, 0, none⟩), ?_, .inl rfl, rfl, Pr, upd B E.length [w.heap.size], ?_, ?_, ?_⟩
  · simp [execOp, hop, Instr.alloc, Go.zeroValue, typeInfo, program, Sem.run, h1, h3, run_newVar]
  · have : z.cells = c.toArray := by rw [← hc]
    rw [this]; exact hv.1
  · have : z.cells = c.toArray := by rw [← hc]
    rw [this]
    show VarOk _ _ _ _ _ _ _
    simp only [appU]
    rw [upd_N]; exact hv.2
  · intro k hk
    simp only [appU] at hk
    rw [upd_ne (by omega)]; exact hN k (by omega)

theorem good_box {o : Oper} {tid : TypeId} {x : Operand} (hop : o.op = .box tid x) (h : StB w0 Pr0 M E V w Pr B) (hN : ∀ k, E.length ≤ k → B k = []) (hf : Fr off V a)
    {tv : TV} {us : List U} (ht : take E (opdT cx E off tid x) = some (tv, us)) : OpGood w0 Pr0 M P E V w a o (.var tv.t tv.o tv.x, us) := by
  obtain ⟨B1, g1, ⟨cs, g2, g3⟩, g4, g5⟩ := take_ok h (N := E.length) (Nat.le_refl _) (hN _ (Nat.le_refl _)) (opdT_ok h hf tid x) ht
  have hv := hand_var g1 (N := E.length) (by rw [g5]; exact Nat.le_refl _) g3 tid
  refine ⟨.value _, w.alloc (.cells cs.toArray tid), .pointer (some ⟨w.heap.size, 0, none⟩), ?_, .inl rfl, g5, Pr, upd B1 E.length (w.heap.size :: B1 E.length), hv.1, ?_, ?_⟩
  · have : (a.eval x).cells = cs.toArray := by rw [g2]; exact pack_cells g3
    simp [execOp, hop, Instr.box, run_newVar, this]
  · show VarOk _ _ _ _ _ _ _
    rw [g5, upd_N]; exact hv.2
  · intro k hk
    rw [g5] at hk
    rw [upd_ne (by omega), g4 k (by omega) (by omega)]; exact hN k (by omega)

/-! ### places -/
theorem place_ok (h : StB w0 Pr0 M E V w Pr B) {d : Opd} {v : Value} (ho : OpdOk w Pr E V d v) {al : Al} (hp : place E d = some al) :
    AddrOk w E V al v ∧ al.okA E = true := by
  unfold place at hp
  split at hp
  · rename_i t o x k hs hix
    obtain rfl := Option.some.inj hp
    unfold OpdOk at ho
    rw [hix] at ho
    rcases ho with h0 | ⟨e, h1, h2, h3⟩
    · rw [hs] at h0; cases h0
    · refine ⟨⟨e, v, ⟨h1, ?_, ?_⟩, h2, fun hi => ⟨fun _ => rfl, fun hp => absurd rfl hp⟩⟩, ?_⟩
      · simp only [at_of h1]; exact Nat.le_refl _
      · simp only [at_of h1]; intro _; exact Nat.le_refl _
      · simp [Al.okA]
  · rename_i t o x p k hs hix
    obtain rfl := Option.some.inj hp
    unfold OpdOk at ho
    rw [hix] at ho
    rcases ho with h0 | ⟨e, h1, h2, h3⟩
    · rw [hs] at h0; cases h0
    · refine ⟨⟨e, v, ⟨h1, ?_, ?_⟩, h2, fun hi => ⟨fun _ => rfl, fun hp => absurd rfl hp⟩⟩, ?_⟩
      · simp only [at_of h1]; exact Nat.le_refl _
      · simp only [at_of h1]; intro _; exact Nat.le_refl _
      · simp [Al.okA]
  · rename_i x1 al' hs
    cases hok : al'.okA E with
    | false => rw [hok] at hp; simp at hp
    | true =>
      rw [hok] at hp
      simp only [cond_true, Option.some.injEq] at hp
      subst hp
      refine ⟨?_, hok⟩
      cases hix : d.ix with
      | none => unfold OpdOk at ho; rw [hix, hs] at ho; exact ho.elim
      | some k => have := opdOk_tmp h ho hix; rw [hs] at this; exact this
  · cases hp

/-- A good place at a root: where it lies. -/
theorem addr_root (h : StB w0 Pr0 M E V w Pr B) {al : Al} {v : Value} (ha : AddrOk w E V al v) (hok : al.okA E = true) {iV : Bool} {t : Ty} {o : Ow} {x : PV t}
    (hs : (E.at al.j).s = if iV then .var t o x else .val t o x) (hp : iV = true ∨ al.p ≠ []) :
    ∃ vj loc, V[al.j]? = some vj ∧ E[al.j]? = some (E.at al.j) ∧ RootOk w Pr iV vj t o x (B al.j) ∧ OkPath al.p t o x ∧ RootFocus w Pr iV vj t o x (B al.j) al.p ∧
      locOf w iV t vj al.p = some loc ∧ v = ptr loc := by
  obtain ⟨e, vj, hl, hv, hk⟩ := ha
  have he := at_of hl.1
  rw [he] at hs
  simp only [Al.okA, he, Bool.and_eq_true, beq_iff_eq, Bool.or_eq_true] at hok
  have hR := root_of (h.slots al.j e vj hl.1 hv) hs
  have hdj : ∀ k, Pr k → k ∉ B al.j := fun k hk m => (h.free _ _ m).2.1 hk
  obtain ⟨k1, k2⟩ := hk hok.1
  by_cases hnil : al.p = []
  · have hiV : iV = true := hp.resolve_right (fun q => q hnil)
    subst hiV
    have hv2 : VarOk w Pr vj t o x (B al.j) := hR
    obtain ⟨b, cs, bs0, q1, q2, q3, q4⟩ := hv2
    have hpath : OkPath al.p t o x := by rw [hnil]; trivial
    refine ⟨vj, (b, 0), hv, by rw [he]; exact hl.1, hR, hpath, root_focus hR (h.nodup _) hdj hpath (.inl rfl), ?_, ?_⟩
    · rw [hnil, q1]; rfl
    · rw [k1 hnil, q1]; rfl
  · have hcv : e.cv = al.cv := by
      rcases hok.2 with hc | hn
      · exact hc
      · cases hap : al.p with
        | nil => exact absurd hap hnil
        | cons _ _ => rw [hap] at hn; simp [isNil] at hn
    have hA := k2 hnil hcv
    rw [hs] at hA
    cases iV with
    | true =>
      obtain ⟨p1, loc, p2, p3⟩ := hA
      exact ⟨vj, loc, hv, by rw [he]; exact hl.1, hR, p1, root_focus hR (h.nodup _) hdj p1 (.inl rfl), p2, p3⟩
    | false =>
      obtain ⟨p1, loc, p2, p3⟩ := hA
      exact ⟨vj, loc, hv, by rw [he]; exact hl.1, hR, p1, root_focus hR (h.nodup _) hdj p1 (.inr (by rw [p2]; rfl)), p2, p3⟩

/-- Loading from a place of one's own. -/
theorem good_load (htab : TabOk P cx.tab) {o : Oper} {tid : TypeId} {x : Operand} {al : Al} {iV : Bool} {t' : Ty} {ow : Ow} {z : PV t'} (hop : o.op = .load tid x) (h : StB w0 Pr0 M E V w Pr B)
    (hN : ∀ k, E.length ≤ k → B k = []) (hf : Fr off V a) (hl : lookup cx.tab tid = some (getT al.p t')) (hp : place E (opd E off x) = some al)
    (hs : (E.at al.j).s = if iV then .var t' ow z else .val t' ow z) (hnn : iV = true ∨ al.p ≠ []) :
    OpGood w0 Pr0 M P E V w a o (bif owns (getT al.p t') (getO al.p ow) then .sub ⟨al.j, al.p, al.iv, (E.at al.j).cv⟩ else .val (getT al.p t') .b (get al.p t' z), []) := by
  obtain ⟨hA, hok⟩ := place_ok h (opd_ok h hf x) hp
  obtain ⟨vj, loc, q1, q2, q3, q4, q5, q6, q7⟩ := addr_root h hA hok hs hnn
  obtain ⟨b', off', cs', bs', bsR, f1, f2, f3, f4, f5, fL, f6⟩ := q5
  rw [q6] at f1
  obtain rfl := Option.some.inj f1
  have hval : pack (getT al.p t') cs' = pack (getT al.p t') (readCells w b' off' (getT al.p t').size) := by rw [← f3.length, f2.read]
  refine ⟨.value (pack (getT al.p t') cs'), w, _, ?_, .inl rfl, rfl, hand_same h hN fun N hB => ?_⟩
  · have := run_loadAt (P := P) (tab_fact htab hl) (Cells.of_holds f2) f3.length
    simp [execOp, hop, q7, ptr, this]
  · cases hown : owns (getT al.p t') (getO al.p ow) with
    | false =>
      simp only [cond_false]
      show ValOk w Pr _ _ .b _ (B N)
      rw [hB]
      exact ValOk.nowns hown ⟨cs', rfl, f3⟩
    | true =>
      simp only [cond_true]
      have hiv : (E.at al.j).iv = al.iv := by simp only [Al.okA, Bool.and_eq_true, beq_iff_eq] at hok; exact hok.1
      refine ⟨E.at al.j, vj, ⟨q2, by rw [hiv]; exact Nat.le_refl _, fun _ => Nat.le_refl _⟩, q1, fun _ => ⟨fun hpn hofv => ?_, fun _ _ => ?_⟩⟩
      · exfalso
        cases iV with
        | true => rw [hs] at hofv; simp [Slot.ofVal] at hofv
        | false => exact hnn.elim (fun q => by cases q) (fun q => q hpn)
      · rw [hs]
        cases iV with
        | true => exact ⟨q4, (b', off'), q6, hval⟩
        | false => exact ⟨q4, (b', off'), q6, hval⟩

end
end Go.Dn
