/- Calls by contract, second part: what comes back. -/
import Derived.Test.YtegfhigkmghmjaaDoorDu
namespace Go.Dn

section
variable {w0 : World} {Pr0 M : Nat → Prop}
variable {P : Program} {cx : Cx} {E : Env} {V : List Value} {w w' w1 : World} {Pr Pr' Pr1 Q : Nat → Prop} {B B1 : Nat → List Nat} {off : Nat} {a : Act}

theorem BkOk.move (h : StB w0 Pr0 M E V w Pr B) {m : Mode} {t : Ty} {v : Value} {b : Bk} (hb : BkOk w Q E V B1 m t v b)
    (hw : ∀ k, k < E.length → ∀ b ∈ B k, w'.heap[b]? = w.heap[b]?) : BkOk w' Pr' E V B m t v b := by
  cases m with
  | bor => trivial
  | own => trivial
  | ptr => cases b <;> exact hb
  | «mut» =>
    cases b with
    | none => exact hb
    | val j => exact hb
    | var j => exact hb
    | hol j iV t' o z p =>
      obtain ⟨he, hs, ht, vj, loc, hv, hl, hval⟩ := hb
      refine ⟨he, hs, ht, vj, loc, hv, ?_⟩
      have hj := (List.getElem?_eq_some_iff.1 he).1
      have hso := h.slots j _ vj he hv
      rw [hs] at hso
      obtain ⟨b', off', cs', h1, h2, h3, h4, h5, h6, h7⟩ := hso
      rw [hl] at h1
      obtain rfl := Option.some.inj h1
      have hb' := hw j hj b' h4
      have h2' : HoldsAt w' b' off' cs' := by
        obtain ⟨cur, T, q1, q2⟩ := h2
        exact ⟨cur, T, hb'.trans q1, q2⟩
      refine ⟨h6 w' cs' (fun k hk _ => hw j hj k hk) (h2.upd hb'), ?_⟩
      rw [hval]
      simp only
      rw [← h3, h2.read, h2'.read]

theorem bring_bors : ∀ {ps : List (Mode × Ty)} {vs : List Value} {r : PVs (backs ps)} {us : List U} {bms : List (List Nat)}, ps.all isBor = true → bring ps (ps.map (fun _ => Bk.none)) r = some us →
    BacksOk w Q ps vs r bms → us = [] ∧ bms.flatten = []
  | [], vs, r, us, bms, _, hb, hk => by
    cases vs <;> cases bms <;> simp [BacksOk] at hk
    simp [bring] at hb
    exact ⟨hb, rfl⟩
  | (m, t) :: ps, vs, r, us, bms, ha, hb, hk => by
    rw [List.all_cons, Bool.and_eq_true] at ha
    obtain ⟨ha1, ha⟩ := ha
    cases m <;> simp [isBor] at ha1
    cases vs with
    | nil => cases bms <;> simp [BacksOk] at hk
    | cons v vs =>
      cases bms with
      | nil => simp [BacksOk] at hk
      | cons b bms =>
        obtain ⟨rfl, hk⟩ := hk
        simp only [List.map_cons, bring] at hb
        obtain ⟨h1, h2⟩ := bring_bors ha hb hk
        exact ⟨h1, by simpa using h2⟩

theorem set_same {V : List Value} {j : Nat} {v : Value} (h : V[j]? = some v) : V.set j v = V := by
  apply List.ext_getElem?
  intro i
  rw [List.getElem?_set]
  split
  · rename_i e
    subst e
    split
    · exact h.symm
    · rename_i hlt; rw [List.getElem?_eq_none (by omega)]
  · rfl

theorem owns_b (t : Ty) : owns t .b = false := by induction t <;> simp_all [owns, Ow.fst, Ow.snd]

theorem lay_N {N j : Nat} (hN : E.length ≤ N) (hj : j < E.length) : lay B N j N = [] := by
  have : N ≠ j := by omega
  simp [lay, this]

theorem bring_ok (h : StB w0 Pr0 M E V w Pr B) {N N1 : Nat} (hN : E.length ≤ N) (hbk : ∀ m t v b, BkOk w1 Pr1 E V B1 m t v b → BkOk w Pr E V B m t v b) :
    ∀ {ps : List (Mode × Ty)} {vs : List Value} {ys : List SV} {bs : List Bk} {bss : List (List Nat)} {r : PVs (backs ps)} {us : List U} {bms : List (List Nat)},
    HandsOk w1 Pr1 E V B1 N1 ps vs ys bs bss → BacksOk w Q ps vs r bms → bring ps bs r = some us → bms.flatten = B N →
    ∃ B3, StB w0 Pr0 M (appU E us) V w Pr B3 ∧ (appU E us).length = E.length ∧ (∀ k, E.length ≤ k → k ≠ N → B3 k = B k) ∧ B3 N = []
  | [], vs, ys, bs, bss, r, us, bms, hh, hk, hb, hfl => by
    cases vs <;> cases ys <;> cases bs <;> simp [HandsOk] at hh
    cases bms <;> simp [BacksOk] at hk
    simp [bring] at hb
    subst hb
    exact ⟨B, h, rfl, fun _ _ _ => rfl, by simpa using hfl.symm⟩
  | (m, t) :: ps, vs, ys, bs, bss, r, us, bms, hh, hk, hb, hfl => by
    cases vs with
    | nil => cases m <;> cases bms <;> simp [BacksOk] at hk
    | cons v vs =>
    cases ys with
    | nil => cases m <;> cases bs <;> simp [HandsOk] at hh
    | cons y ys =>
    cases bs with
    | nil => cases m <;> simp [HandsOk] at hh
    | cons b bs =>
    cases bms with
    | nil => cases m <;> simp [BacksOk] at hk
    | cons bm bms =>
    cases m with
    | bor =>
      obtain ⟨bss', rfl, hh⟩ := hh
      obtain ⟨rfl, hk⟩ := hk
      simp only [bring] at hb
      exact bring_ok h hN hbk hh hk hb (by simpa using hfl)
    | own =>
      obtain ⟨T, Y⟩ := y
      obtain ⟨_, ha, hlen, rfl, rfl, _, e, _⟩ := hh
      obtain ⟨rfl, hk⟩ := hk
      simp only [bring] at hb
      obtain ⟨rfl, h2⟩ := bring_bors ha hb hk
      exact ⟨B, h, rfl, fun _ _ _ => rfl, by rw [← hfl]; simpa using h2⟩
    | «mut» =>
      obtain ⟨T, Y⟩ := y
      obtain ⟨_, ha, hlen, rfl, rfl, hbk1, e, _⟩ := hh
      obtain ⟨hv, hk⟩ := hk
      have hbk2 := hbk _ _ _ _ hbk1
      simp only [bring] at hb
      split at hb
      · rename_i j us' hb'
        obtain ⟨rfl, h2⟩ := bring_bors ha hb' hk
        obtain rfl := Option.some.inj hb
        obtain ⟨g1, g2⟩ := hbk2
        have hbm : bm = B N := by rw [← hfl]; simp [h2]
        subst hbm
        have := h.put hN g2 (s := .val t (top t) r.1) (v := v) (ValOk.full (full_top t) hv)
        rw [set_same g1] at this
        exact ⟨_, this, by simp [appU, U.app], fun k hk hne => by simp only [lay]; rw [if_neg (by omega), if_neg hne], lay_N hN g2⟩
      · rename_i j iV t' o z p us' hb'
        obtain ⟨rfl, h2⟩ := bring_bors ha hb' hk
        split at hb
        · rename_i y' o2 o3 hc hfit
          cases hfull : full t o2 with
          | false => rw [hfull] at hb; cases hb
          | true =>
            rw [hfull] at hb
            simp only [cond_true, Option.some.injEq] at hb
            obtain ⟨he, hs, ht, vj, loc, hvj, hl, hval⟩ := hbk2
            subst ht
            obtain rfl := castTy_self hc
            have hbm : bm = B N := by rw [← hfl]; simp [h2]
            subst hbm
            have hj := (List.getElem?_eq_some_iff.1 he).1
            have := h.refill hN he hs hvj hl hval (ValOk.full (full_top _) hv) hfit hfull
            subst hb
            refine ⟨(fun k => if k = j then B N ++ B j else if k = N then [] else B k), ?_, by simp [appU, U.app], fun k hk hne => ?_, ?_⟩
            · cases iV <;> exact this
            · simp only; rw [if_neg (by omega), if_neg hne]
            · have : N ≠ j := by omega
              simp [this]
        · cases hb
      · cases hb
    | ptr =>
      obtain ⟨T, Y⟩ := y
      obtain ⟨_, ha, hlen, rfl, rfl, hbk1, e, _⟩ := hh
      obtain ⟨hv, hk⟩ := hk
      have hbk2 := hbk _ _ _ _ hbk1
      simp only [bring] at hb
      split at hb
      · rename_i j us' hb'
        obtain ⟨rfl, h2⟩ := bring_bors ha hb' hk
        obtain rfl := Option.some.inj hb
        obtain ⟨g1, g2⟩ := hbk2
        have hbm : bm = B N := by rw [← hfl]; simp [h2]
        subst hbm
        have := h.put hN g2 (s := .var t (top t) r.1) (v := v) (VarOk.full (full_top t) hv)
        rw [set_same g1] at this
        exact ⟨_, this, by simp [appU, U.app], fun k hk hne => by simp only [lay]; rw [if_neg (by omega), if_neg hne], lay_N hN g2⟩
      · cases hb

/-- What was returned, in a slot. -/
theorem ret_slot {k : Nat} : ∀ {l : List TV} {rv : List Value}, TupOk w Pr l rv (B k) → (∀ x ∈ l, x.t ≠ .unit) → SlotOk w Pr E V B k (retSlot l) (retValue rv)
  | [], _, _, _ => trivial
  | [x], rv, h, hne => by
    cases rv with
    | nil => simp [TupOk] at h
    | cons v rv =>
      cases rv with
      | cons => obtain ⟨_, _, _, _, h⟩ := h; simp [TupOk] at h
      | nil =>
        obtain ⟨b1, b2, hp, h1, h2⟩ := h
        have : b2 = [] := h2
        subst this
        rcases h1 with h1 | h1
        · exact absurd h1 (hne x (by simp))
        · show ValOk w Pr v x.t x.o x.x (B k)
          obtain ⟨cs, q1, q2⟩ := h1
          exact ⟨cs, q1, q2.perm (by simpa using hp.symm)⟩
  | x :: y :: l, rv, h, _ => by
    cases rv with
    | nil => simp [TupOk] at h
    | cons v rv =>
      cases rv with
      | nil => obtain ⟨_, _, _, _, h⟩ := h; simp [TupOk] at h
      | cons u rv => exact ⟨_, rfl, h⟩

theorem tup_lend {Pr' : Nat → Prop} : ∀ {rs : List (Ty × Bool)} {x : PVs (rs.map (·.1))} {rv : List Value} {bs : List Nat}, (rs.any fun q => !q.2 && !noSl q.1) = false → TupOk w Pr (retList rs x) rv bs → TupOk w Pr' (retList rs x) rv bs
  | [], _, [], _, _, h => h
  | [], _, _ :: _, _, _, h => by simp [retList, TupOk] at h
  | (t, o) :: rs, x, [], _, _, h => by simp [retList, TupOk] at h
  | (t, o) :: rs, x, v :: rv, bs, hn, h => by
    rw [List.any_cons, Bool.or_eq_false_iff] at hn
    obtain ⟨b1, b2, hp, h1, h2⟩ := h
    refine ⟨b1, b2, hp, ?_, tup_lend hn.2 h2⟩
    rcases h1 with h1 | h1
    · exact .inl h1
    · right
      cases o with
      | true => exact ValOk.full (full_top t) h1
      | false =>
        have hns : noSl t = true := by simpa using hn.1
        obtain ⟨cs, q1, q2⟩ := h1
        have hb := q2.nowns (owns_b t)
        exact ⟨cs, q1, by rw [hb]; exact q2.plain hns⟩

/-- What an operation, a call too, does. -/
def OpDoes (w0 : World) (Pr0 M : Nat → Prop) (P : Program) (E : Env) (V : List Value) (w : World) (a : Act) (o : Oper) (z : SU) : Prop :=
  ∀ Q : Exit → Act → World → Prop, o.wp P a w (fun a' w' => ∃ v, a' = a.put o.dst v ∧ (appU E z.2).length = E.length ∧ Hand w0 Pr0 M (appU E z.2) V w' z.1 v) Q

theorem OpGood.does {o : Oper} {z : SU} (h : OpGood w0 Pr0 M P E V w a o z) : OpDoes w0 Pr0 M P E V w a o z := by
  obtain ⟨r, w', v, h1, h2, h3, h4⟩ := h
  intro Q
  unfold Oper.wp
  rw [h1]
  rcases h2 with rfl | ⟨rfl, rfl⟩
  · exact ⟨v, rfl, h3, h4⟩
  · exact ⟨undef, rfl, h3, h4⟩

def CtsOk (P : Program) (cx : Cx) : Prop := ∀ k ct, lookup cx.cts k = some ct → FnOk cx.gl P k ct

/-- The variables at the start. -/
def GlOk (g : Glob) (w0 : World) (Pr0 M : Nat → Prop) : Prop := g.ok w0 ∧ ∀ b, g.dom b → Pr0 b ∧ b < w0.heap.size ∧ ¬ M b

theorem HandsOk.flat : ∀ {ps : List (Mode × Ty)} {vs : List Value} {ys : List SV} {bs : List Bk} {bss : List (List Nat)} {N : Nat}, HandsOk w Pr E V B N ps vs ys bs bss → bss.flatten = B N
  | [], [], [], [], bss, _, h => by obtain ⟨rfl, h⟩ := h; exact h.symm
  | (m, t) :: ps, v :: vs, y :: ys, b :: bs, bss, N, h => by
    have key : ∀ {l : List (Mode × Ty)}, (l.map (fun _ => ([] : List Nat))).flatten = [] := by intro l; induction l <;> simp_all
    cases m with
    | bor => obtain ⟨bss', rfl, h⟩ := h; simpa using h.flat
    | own => obtain ⟨_, _, _, _, rfl, _⟩ := h; simp [key]
    | «mut» => obtain ⟨_, _, _, _, rfl, _⟩ := h; simp [key]
    | ptr => obtain ⟨_, _, _, _, rfl, _⟩ := h; simp [key]
  | [], _ :: _, _, _, _, _, h => by simp [HandsOk] at h
  | [], [], _ :: _, _, _, _, h => by simp [HandsOk] at h
  | [], [], [], _ :: _, _, _, h => by simp [HandsOk] at h
  | (m, t) :: ps, [], ys, bs, bss, _, h => by cases m <;> cases ys <;> cases bs <;> simp [HandsOk] at h
  | (m, t) :: ps, _ :: _, [], bs, bss, _, h => by cases m <;> cases bs <;> simp [HandsOk] at h
  | (m, t) :: ps, _ :: _, _ :: _, [], bss, _, h => by cases m <;> simp [HandsOk] at h

theorem ret_unit : ∀ {rs : List (Ty × Bool)} {x : PVs (rs.map (·.1))}, (rs.all fun q => !q.1.isUnit) = true → ∀ y ∈ retList rs x, y.t ≠ .unit
  | [], _, _, y, hy => by simp [retList] at hy
  | (t, o) :: rs, x, h, y, hy => by
    rw [List.all_cons, Bool.and_eq_true] at h
    simp only [retList, List.mem_cons] at hy
    rcases hy with rfl | hy
    · intro e; simp only at e; subst e; exact absurd h.1 (by simp [Ty.isUnit])
    · exact ret_unit h.2 y hy

theorem call_enter {k : FuncId} {fn : Func} (hfn : P.funcs[k]? = some fn) (hb : fn.body.isNone = false) (hn : (fn.name == "runtime.NumGoroutine") = false) (xs : Array Value) (w : World) :
    (callFunc k xs).run P w = .ok (.enter k xs) w := by
  unfold callFunc
  show ((match P.funcs[k]? with | none => _ | some fn => _ : Sem Next)).run P w = _
  rw [hfn]
  simp only [hb, hn, Bool.false_eq_true, if_false]
  rfl

theorem call_ok {R : Type} {K : SU → Option R} {r : R} (hcts : CtsOk P cx) (hgl : GlOk cx.gl w0 Pr0 M) {o : Oper} {c : Call} (hop : o.op = .call c) (h : StB w0 Pr0 M E V w Pr B) (hN : ∀ k, E.length ≤ k → B k = []) (hf : Fr off V a)
    (hs : callK cx E off c K = some r) : ∃ z, K z = some r ∧ OpDoes w0 Pr0 M P E V w a o z := by
  unfold callK at hs
  split at hs
  case h_2 => cases hs
  rename_i fo hfo
  split at hs
  case h_2 => cases hs
  rename_i k hfk
  split at hs
  case h_2 => cases hs
  rename_i ct hct
  split at hs
  case h_2 => cases hs
  rename_i vs us bs hhand
  split at hs
  case h_2 => cases hs
  rename_i xs hlook
  rw [Option.bind_eq_some_iff] at hs
  obtain ⟨rr, hF, hs⟩ := hs
  split at hs
  case h_2 => cases hs
  rename_i us' hbring
  refine ⟨_, hs, ?_⟩
  obtain ⟨B1, bss, g1, g2, g3, g4, g5⟩ := handAll_ok h hN hf hhand
  have hargs := lookAll_ok g1 hf g3 hlook
  generalize hstr : (ct.rets.any fun q => !q.2 && !noSl q.1) = strict at hlook hargs
  have hPrC : ∀ b, PrC strict (appU E us) Pr B1 b → b < w.heap.size := by
    rintro b (hb | ⟨_, k, _, hb⟩)
    · exact g1.prlt b hb
    · exact (g1.free k b hb).2.2
  have hbss : ∀ b ∈ bss.flatten, ¬ PrC strict (appU E us) Pr B1 b ∧ b < w.heap.size := by
    intro b hb
    rw [g5] at hb
    refine ⟨?_, (g1.free _ b hb).2.2⟩
    rintro (hb' | ⟨_, k, hk, hb'⟩)
    · exact (g1.free _ b hb).2.1 hb'
    · exact g1.disj k E.length (by omega) b hb' hb
  obtain ⟨hunit, hcts⟩ := hcts k ct hct
  obtain ⟨⟨fn, hfn, hbody, hname⟩, hcall⟩ := hcts w (PrC strict (appU E us) Pr B1) _ xs bss rr hPrC hargs (by rw [g5]; exact g1.nodup _) hbss (cx.gl.stable w0 w hgl.1 fun b hb => h.frame b (hgl.2 b hb).2.1 (hgl.2 b hb).2.2) (fun b hb => .inl (g1.pr0 b (hgl.2 b hb).1)) hF
  intro Q
  have hval : a.eval fo = .func (.func k) #[] #[] := by
    have ho := opd_ok h hf fo
    have := alias_ok h ho (N := E.length) (hN _ (Nat.le_refl _))
    unfold alias at this
    rw [hfk] at this
    cases hix : (opd E off fo).ix with
    | none => unfold OpdOk at ho; rw [hix, hfk] at ho; exact ho.2
    | some j =>
      have := opdOk_tmp h ho hix
      rw [hfk] at this
      obtain ⟨vs, h1, h2⟩ := this
      cases vs with
      | nil => exact h1
      | cons => exact h2.elim
  have hexec : (execOp a.eval o).run P w = .ok (.enter k ((c.args.map a.eval))) w := by
    have hbn : fn.body.isNone = false := by cases hb : fn.body <;> simp_all
    simp only [execOp, hop, resolve, hfo, hval, Deferred.ofValue]
    show (callFunc k (#[] ++ c.args.map a.eval ++ #[])).run P w = _
    simp only [Array.empty_append, Array.append_empty]
    exact call_enter hfn hbn hname _ _
  unfold Oper.wp
  rw [hexec]
  show Calls P k _ w _
  have hva : (c.args.map a.eval) = (c.args.toList.map a.eval).toArray := by rw [← Array.toList_map]
  rw [hva]
  refine Calls.mono hcall ?_
  rintro e w' ⟨rv, Pr', bv, bms, rfl, k1, k2, k3, k4, k5, k6, k7, k8, k9, k10, k11⟩
  have hnd := List.nodup_append.1 k3
  have hmem : ∀ b, b ∈ bss.flatten ↔ b ∈ B1 E.length := fun b => by rw [g5]
  obtain ⟨Pr2, p1, p2, p3, p4⟩ : ∃ Pr2 : Nat → Prop, (∀ b, Pr b → Pr2 b) ∧ (∀ b, Pr2 b → Pr' b) ∧ (∀ b, Pr2 b → Pr b ∨ (b ∈ B1 E.length ∨ w.heap.size ≤ b) ∧ b < w'.heap.size) ∧ TupOk w' Pr2 (retList ct.rets rr.1) rv bv := by
    cases strict with
    | true =>
      refine ⟨Pr', fun b hb => k5 b (.inl hb), fun _ h => h, fun b hb => ?_, k1⟩
      rcases k6 b hb with (hb' | ⟨hc, _⟩) | ⟨hb', hlt⟩
      · exact .inl hb'
      · cases hc
      · exact .inr ⟨by rw [← hmem]; exact hb', hlt⟩
    | false => exact ⟨Pr, fun _ h => h, fun b hb => k5 b (.inl hb), fun b hb => .inl hb, tup_lend hstr k1⟩
  have hB2 : ∀ k, E.length ≤ k → ∀ b ∈ (if k = E.length then bv else if k = E.length + 1 then bms.flatten else B1 k), b ∈ bv ++ bms.flatten := by
    intro k hk b hb
    split at hb
    · exact List.mem_append_left _ hb
    · split at hb
      · exact List.mem_append_right _ hb
      · rw [g4 k (by omega)] at hb; cases hb
  have h2 : StB w0 Pr0 M (appU E us) V w' Pr2 (fun k => if k = E.length then bv else if k = E.length + 1 then bms.flatten else B1 k) := by
    refine g1.hand (fun k hk => ?_) (fun k hk b hb => ?_) p1 (fun b hb => ?_) (fun k hk => ?_) (fun j k hj hk hne b hb hbk => ?_) (fun b hb hnb => ?_) k7 k8 k9 k10
    · rw [g2] at hk
      rw [if_neg (by omega), if_neg (by omega)]
    · rw [g2] at hk
      have := k4 b (hB2 k hk b hb)
      rw [hmem] at this
      exact ⟨this.1.imp (fun q => ⟨E.length, by omega, q⟩) id, this.2.2⟩
    · rcases p3 b hb with q | ⟨q1, q2⟩
      · exact .inl q
      · refine .inr ⟨q1.imp (fun q => ⟨E.length, by omega, q⟩) id, q2, fun k hk hbk => ?_⟩
        rw [g2] at hk
        exact (k4 b (hB2 k hk b hbk)).2.1 (p2 b hb)
    · rw [g2] at hk
      split
      · exact hnd.1
      · split
        · exact hnd.2.1
        · rw [g4 k (by omega)]; exact List.nodup_nil
    · rw [g2] at hj hk
      by_cases e1 : j = E.length
      · by_cases e2 : k = E.length
        · omega
        · simp only [e1, if_true] at hb
          by_cases e3 : k = E.length + 1
          · have e4 : ¬ (E.length + 1 = E.length) := by omega
            simp only [e3, if_true, e4, if_false] at hbk; exact hnd.2.2 b hb b hbk rfl
          · simp only [e2, e3, if_false] at hbk; rw [g4 k (by omega)] at hbk; cases hbk
      · by_cases e3 : j = E.length + 1
        · have e4 : ¬ (E.length + 1 = E.length) := by omega
          simp only [e3, if_true, e4, if_false] at hb
          by_cases e2 : k = E.length
          · simp only [e2, if_true] at hbk; exact hnd.2.2 b hbk b hb rfl
          · have e5 : ¬ (k = E.length + 1) := by omega
            simp only [e2, e5, if_false] at hbk; rw [g4 k (by omega)] at hbk; cases hbk
        · simp only [e1, e3, if_false] at hb; rw [g4 j (by omega)] at hb; cases hb
    · refine k11 b hb fun q => ?_
      rw [hmem] at q
      exact hnb _ (by omega) q
  have hmove : ∀ m t v b, BkOk w Pr (appU E us) V B1 m t v b → BkOk w' Pr2 (appU E us) V (fun k => if k = E.length then bv else if k = E.length + 1 then bms.flatten else B1 k) m t v b := by
    intro m t v b hb
    have := BkOk.move (w' := w') (Pr' := Pr2) g1 hb (fun k hk b hb => k11 b (g1.free k b hb).2.2 (fun q => by rw [hmem] at q; exact g1.disj k E.length (by omega) b hb q))
    cases m <;> cases b <;> exact this
  obtain ⟨B3, q1, q2, q3, q4⟩ := bring_ok h2 (N := E.length + 1) (by omega) hmove g3 k2 hbring (by
    have e4 : ¬ (E.length + 1 = E.length) := by omega
    show _ = (if E.length + 1 = E.length then bv else if E.length + 1 = E.length + 1 then bms.flatten else B1 (E.length + 1))
    rw [if_neg e4, if_pos rfl])
  have hu : appU E (us ++ us') = appU (appU E us) us' := appU_append ..
  refine ⟨_, rfl, by simp only [hu]; omega, Pr2, B3, ?_, ?_, ?_⟩
  · simp only [hu]; exact q1
  · have hlen : (appU E (us ++ us')).length = E.length := by rw [hu]; omega
    show SlotOk _ _ _ _ _ (appU E (us ++ us')).length _ _
    rw [hlen]
    refine ret_slot ?_ ?_
    · rw [q3 E.length (by omega) (by omega), if_pos rfl]; exact p4
    · exact ret_unit hunit
  · intro k hk
    have hlen : (appU E (us ++ us')).length = E.length := by rw [hu]; omega
    simp only at hk
    rw [hlen] at hk
    by_cases e : k = E.length + 1
    · rw [e, q4]
    · rw [q3 k (by omega) e]
      have e2 : ¬ (k = E.length) := by omega
      simp only [e, e2, if_false]
      exact g4 k (by omega)

end
end Go.Dn
