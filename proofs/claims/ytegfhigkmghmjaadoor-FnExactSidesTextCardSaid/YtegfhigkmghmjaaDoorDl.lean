/- Operations, third part: stores. -/
import Derived.Test.YtegfhigkmghmjaaDoorDk
namespace Go.Dn

theorem samePath_eq : ∀ {p q : List PE}, samePath p q = true → p = q
  | [], [], _ => rfl
  | .l :: p, .l :: q, h => by rw [samePath_eq (p := p) (q := q) h]
  | .r :: p, .r :: q, h => by rw [samePath_eq (p := p) (q := q) h]
  | .ix n :: p, .ix m :: q, h => by
    simp only [samePath, Bool.and_eq_true, beq_iff_eq] at h
    rw [h.1, samePath_eq h.2]
  | [], _ :: _, h | .l :: _, [], h | .r :: _, [], h | .ix _ :: _, [], h => by simp [samePath] at h
  | .l :: _, .r :: _, h | .l :: _, .ix _ :: _, h | .r :: _, .l :: _, h | .r :: _, .ix _ :: _, h | .ix _ :: _, .l :: _, h | .ix _ :: _, .r :: _, h => by simp [samePath] at h

theorem okSet_same : ∀ {p : List PE} {t : Ty} {o : Ow} {x : PV t}, OkPath p t o x → OkSet p o (getO p o) o
  | [], _, _, _, _ => rfl
  | .l :: p, .pair a _, o, x, h => ⟨okSet_same (p := p) (t := a) (x := x.1) h, rfl⟩
  | .r :: p, .pair _ b, o, x, h => ⟨rfl, okSet_same (p := p) (t := b) (x := x.2) h⟩
  | .ix n :: p, .slice _ t, .row oe, xs, h => ⟨oe, rfl, rfl, okSet_same (p := p) (t := t) h.2⟩
  | .l :: _, .int _, _, _, h | .l :: _, .bool, _, _, h | .l :: _, .str, _, _, h | .l :: _, .unit, _, _, h | .l :: _, .slice _ _, _, _, h => by simp [OkPath] at h
  | .r :: _, .int _, _, _, h | .r :: _, .bool, _, _, h | .r :: _, .str, _, _, h | .r :: _, .unit, _, _, h | .r :: _, .slice _ _, _, _, h => by simp [OkPath] at h
  | .ix _ :: _, .int _, _, _, h | .ix _ :: _, .bool, _, _, h | .ix _ :: _, .str, _, _, h | .ix _ :: _, .unit, _, _, h | .ix _ :: _, .pair _ _, _, _, h
  | .ix _ :: _, .slice _ _, .b, _, h | .ix _ :: _, .slice _ _, .pr _ _, _, h => by simp [OkPath] at h

theorem okSet_lr : ∀ {p : List PE} {o o2 : Ow}, hasIx p = false → OkSet p o o2 (setO p o o2)
  | [], _, _, _ => rfl
  | .l :: p, o, o2, h => ⟨okSet_lr (p := p) h, rfl⟩
  | .r :: p, o, o2, h => ⟨rfl, okSet_lr (p := p) h⟩
  | .ix _ :: _, _, _, h => by simp [hasIx] at h

theorem fitO_ok {p : List PE} {t0 t : Ty} {o o2 o2' o3 : Ow} {x : PV t0} (hp : OkPath p t0 o x) (h : fitO p o t o2 = some (o2', o3)) : OkSet p o o2' o3 ∧ weaken t o2 o2' = true := by
  unfold fitO at h
  cases hi : hasIx p with
  | false =>
    rw [hi] at h
    simp only [cond_false, Option.some.injEq, Prod.mk.injEq] at h
    obtain ⟨rfl, rfl⟩ := h
    refine ⟨okSet_lr hi, ?_⟩
    have : ∀ (t : Ty) (o : Ow), weaken t o o = true := by
      intro t
      induction t with
      | pair a b iha ihb => intro o; simp [weaken, iha, ihb]
      | slice e t ih => intro o; cases o <;> simp [weaken, ih]
      | _ => intro o; rfl
    exact this _ _
  | true =>
    rw [hi] at h
    simp only [cond_true] at h
    cases hw : weaken t o2 (getO p o) with
    | false => rw [hw] at h; cases h
    | true =>
      rw [hw] at h
      simp only [cond_true, Option.some.injEq, Prod.mk.injEq] at h
      obtain ⟨rfl, rfl⟩ := h
      exact ⟨okSet_same hp, hw⟩

section
variable {w0 : World} {Pr0 M : Nat → Prop}
variable {P : Program} {cx : Cx} {E : Env} {V : List Value} {w w' : World} {Pr : Nat → Prop} {B : Nat → List Nat} {off : Nat} {a : Act}

def rootS (iV : Bool) (t : Ty) (o : Ow) (x : PV t) : Slot := match iV with | true => .var t o x | false => .val t o x

/-- A place that can be written: where it lies, and what comes of it. -/
def Fill (w : World) (Pr : Nat → Prop) (v : Value) (iV : Bool) (vj : Value) (t : Ty) (o : Ow) (x : PV t) (p : List PE) (bs : List Nat) : Prop :=
  ∃ b' off' cs' bs' bsR, v = .pointer (some ⟨b', off', none⟩) ∧ HoldsAt w b' off' cs' ∧ cs'.length = (getT p t).size ∧ b' ∈ bsR ∧ bs.Perm (bs' ++ bsR) ∧ OkPath p t o x ∧
    ∀ (w2 : World) (Pr2 : Nat → Prop) (o2 o3 : Ow) (cs2 : List Value) (y : PV (getT p t)) (bs2 : List Nat), (∀ k, Pr k → Pr2 k) →
      (∀ k, (Pr k ∨ k ∈ bsR) → k ≠ b' → w2.heap[k]? = w.heap[k]?) → Upd w w2 b' off' cs2 → Rep w2 Pr2 (getT p t) o2 cs2 y bs2 → OkSet p o o2 o3 →
      RootOk w2 Pr2 iV vj t o3 (set p t x y) (bs2 ++ bsR)

theorem fill_root (h : StB w0 Pr0 M E V w Pr B) {al : Al} {v : Value} (ha : AddrOk w E V al v) (hok : al.okA E = true) {iV : Bool} {t : Ty} {o : Ow} {x : PV t}
    (hs : (E.at al.j).s = if iV then .var t o x else .val t o x) (hp : iV = true ∨ al.p ≠ []) :
    ∃ vj, V[al.j]? = some vj ∧ E[al.j]? = some (E.at al.j) ∧ Fill w Pr v iV vj t o x al.p (B al.j) := by
  obtain ⟨vj, loc, q1, q2, q3, q4, q5, q6, q7⟩ := addr_root h ha hok hs hp
  obtain ⟨b', off', cs', bs', bsR, f1, f2, f3, f4, f5, fL, f6⟩ := q5
  rw [q6] at f1
  obtain rfl := Option.some.inj f1
  exact ⟨vj, q1, q2, b', off', cs', bs', bsR, q7, f2, f3.length, f5, f4, q4, f6⟩

theorem fill_hole (h : StB w0 Pr0 M E V w Pr B) {al : Al} {v : Value} (ha : AddrOk w E V al v) (hok : al.okA E = true) {iV : Bool} {t : Ty} {o : Ow} {x : PV t}
    (hs : (E.at al.j).s = .hole iV t o x al.p) :
    ∃ vj, V[al.j]? = some vj ∧ E[al.j]? = some (E.at al.j) ∧ Fill w Pr v iV vj t o x al.p (B al.j) := by
  obtain ⟨e, vj, hl, hv, hk⟩ := ha
  have he := at_of hl.1
  rw [he] at hs
  simp only [Al.okA, he, Bool.and_eq_true, beq_iff_eq, Bool.or_eq_true] at hok
  have hso := h.slots al.j e vj hl.1 hv
  rw [hs] at hso
  obtain ⟨b', off', cs', h1, h2, h3, h4, h5, h6, h7⟩ := hso
  obtain ⟨k1, k2⟩ := hk hok.1
  refine ⟨vj, hv, by rw [he]; exact hl.1, b', off', cs', [], B al.j, ?_, h2, h3, h4, by simp, h5, h7⟩
  by_cases hnil : al.p = []
  · rw [k1 hnil]
    rw [hnil] at h1
    cases iV with
    | false => cases vj <;> simp [locOf] at h1; rename_i A _ _; cases A <;> simp at h1
    | true =>
      cases vj <;> simp only [locOf] at h1 <;> try (cases h1; done)
      rename_i A
      cases A with
      | none => cases h1
      | some A =>
        obtain ⟨b, n, sp⟩ := A
        cases n <;> cases sp <;> simp only [locate, Option.some.injEq, Prod.mk.injEq] at h1 <;> try (cases h1; done)
        obtain ⟨rfl, rfl⟩ := h1
        rfl
  · have hcv : e.cv = al.cv := by
      rcases hok.2 with hc | hn
      · exact hc
      · cases hap : al.p with
        | nil => exact absurd hap hnil
        | cons _ _ => rw [hap] at hn; simp [isNil] at hn
    have hA := k2 hnil hcv
    rw [hs] at hA
    obtain ⟨loc, q1, q2⟩ := hA [] (by simp) rfl
    rw [h1] at q1
    obtain rfl := Option.some.inj q1
    exact q2

theorem appU_append : ∀ (us us' : List U) (E : Env), appU E (us ++ us') = appU (appU E us) us'
  | [], _, _ => rfl
  | u :: us, us', E => appU_append us us' (u.app E)

/-- What is in the hand comes to a place of slot j. -/
theorem StB.fill (htab : TabOk P cx.tab) {tid : TypeId} (h : StB w0 Pr0 M E V w Pr B) {N j : Nat} (hN : E.length ≤ N) {v vy vj : Value} {iV : Bool} {t : Ty} {o : Ow} {x : PV t} {p : List PE}
    {o1 o2 o3 : Ow} {y : PV (getT p t)} (hl : lookup cx.tab tid = some (getT p t)) (he : E[j]? = some (E.at j)) (hv : V[j]? = some vj) (hofv : (rootS iV t o3 (set p t x y)).ofVal = (E.at j).s.ofVal)
    (hf : Fill w Pr v iV vj t o x p (B j)) (hy : ValOk w Pr vy (getT p t) o1 y (B N)) (hfit : fitO p o (getT p t) o1 = some (o2, o3)) :
    ∃ B2 w2 Pr2, (Instr.storeAt tid v vy).run P w = .ok () w2 ∧
      StB w0 Pr0 M (U.app E (.cont j (rootS iV t o3 (set p t x y)))) V w2 Pr2 B2 ∧ ∀ k, E.length ≤ k → B2 k = if k = N then [] else B k := by
  obtain ⟨b', off', cs', bs', bsR, rfl, f2, f3, f4, f5, f6, f7⟩ := hf
  obtain ⟨new, rfl, hr⟩ := hy
  obtain ⟨hset, hwk⟩ := fitO_ok f6 hfit
  obtain ⟨b1, b2, e1, hr1⟩ := hr.weaken hwk
  obtain ⟨w2, g1, g2, g3, g4, g5, g6, g7⟩ := run_storeAt (P := P) (tab_fact htab hl) f2 f3 (pack_cells hr) hr.length hr.one
  have hj := (List.getElem?_eq_some_iff.1 he).1
  have hjN : j ≠ N := by omega
  have mR : ∀ k, k ∈ bsR → k ∈ B j := fun k hk => f5.mem_iff.2 (List.mem_append_right _ hk)
  have m1 : ∀ k, k ∈ b1 → k ∈ B N := fun k hk => e1.mem_iff.2 (List.mem_append_left _ hk)
  have m2 : ∀ k, k ∈ b2 → k ∈ B N := fun k hk => e1.mem_iff.2 (List.mem_append_right _ hk)
  have hnb : ∀ k, k ∈ B N → k ≠ b' := fun k hk e => h.disj N j (Ne.symm hjN) k hk (e ▸ mR _ f4)
  have hnp : ∀ k, Pr k → k ≠ b' := fun k hk e => (h.free _ _ (mR _ f4)).2.1 (e ▸ hk)
  have hr2 : Rep w2 (fun k => Pr k ∨ k ∈ b2) (getT p t) o2 new y b1 := hr1.agree (fun _ h => h) (fun k hk => g3 k (by
    rcases hk with (hk | hk) | hk
    · exact hnp k hk
    · exact hnb k (m2 k hk)
    · exact hnb k (m1 k hk)))
  have hroot := f7 w2 (fun k => Pr k ∨ k ∈ b2) o2 o3 new y b1 (fun _ h => .inl h) (fun k hk hne => g3 k hne) g2 hr2 hset
  refine ⟨fun k => if k = j then b1 ++ bsR else if k = N then [] else B k, w2, fun k => Pr k ∨ k ∈ b2, g1, ?_, fun k hk => ?_⟩
  · have hn5 := f5.nodup_iff.1 (h.nodup j)
    have hn1 := e1.nodup_iff.1 (h.nodup N)
    refine h.pool (fun k => k = j ∨ k = N) (by simp [U.app, h.len]) (by simp [U.app]) (fun k hk => ?_) (fun k e v hk he' hv' => ?_) (fun k hk b hb => ?_) (fun _ h => .inl h) (fun b hb => ?_)
      (fun k hk => ?_) (fun i k hi hk hne b hb hbk => ?_) (fun b _ hb => ?_) g4 g5 g6 (by omega)
    · have h1 : k ≠ j := fun e => hk (.inl e)
      have h2 : k ≠ N := fun e => hk (.inr e)
      exact ⟨List.getElem?_set_ne (Ne.symm h1), rfl, by simp [h1, h2]⟩
    · rcases hk with rfl | rfl
      · rw [hv] at hv'
        rw [he] at he'
        obtain rfl := Option.some.inj hv'
        obtain rfl := Option.some.inj he'
        refine ⟨_, _, List.getElem?_set_self hj, hv, ?_, .inr (.inl ⟨rfl, rfl, Nat.lt_succ_self _, hofv⟩)⟩
        show SlotOk w2 _ _ _ _ k (rootS iV t o3 (set p t x y)) _
        cases iV with
        | true => show VarOk _ _ _ _ _ _ _; simp only [if_true]; exact hroot
        | false => show ValOk _ _ _ _ _ _ _; simp only [if_true]; exact hroot
      · have := (List.getElem?_eq_some_iff.1 he').1; omega
    · rcases hk with rfl | rfl
      · simp only [if_true] at hb
        rcases List.mem_append.1 hb with hb | hb
        · exact ⟨.inl ⟨N, .inr rfl, m1 b hb⟩, by rw [g7]; exact (h.free _ _ (m1 b hb)).2.2⟩
        · exact ⟨.inl ⟨k, .inl rfl, mR b hb⟩, by rw [g7]; exact (h.free _ _ (mR b hb)).2.2⟩
      · simp [Ne.symm hjN] at hb
    · rcases hb with hb | hb
      · exact .inl hb
      · refine .inr ⟨.inl ⟨N, .inr rfl, m2 b hb⟩, by rw [g7]; exact (h.free _ _ (m2 b hb)).2.2, fun k hk => ?_⟩
        rcases hk with rfl | rfl
        · simp only [if_true]
          intro hm
          rcases List.mem_append.1 hm with hm | hm
          · exact notin_of_nodup_append hn1 hm hb
          · exact h.disj N k (Ne.symm hjN) b (m2 b hb) (mR b hm)
        · simp [Ne.symm hjN]
    · rcases hk with rfl | rfl
      · simp only [if_true]
        refine List.nodup_append.2 ⟨(List.nodup_append.1 hn1).1, (List.nodup_append.1 hn5).2.1, fun x hx y hy e => ?_⟩
        exact h.disj N k (Ne.symm hjN) x (m1 x hx) (e ▸ mR y hy)
      · simp [Ne.symm hjN]
    · rcases hi with rfl | rfl <;> rcases hk with rfl | rfl
      · exact hne rfl
      · simp [Ne.symm hjN] at hbk
      · simp [Ne.symm hjN] at hb
      · exact hne rfl
    · exact g3 b (fun e => hb j (.inl rfl) (e ▸ mR _ f4))
  · have : k ≠ j := by omega
    simp [this]

end
end Go.Dn
