/- Calls by contract. -/
import Derived.Test.YtegfhigkmghmjaaDoorDt
namespace Go.Dn

/-- What is owned all through depends on nothing else. -/
theorem Rep.full {w : World} {Pr Q : Nat → Prop} : ∀ {t : Ty} {o : Ow} {cs : List Value} {x : PV t} {bs : List Nat}, Go.Dn.full t o = true → Rep w Pr t o cs x bs → Rep w Q t (top t) cs x bs
  | .int _, _, _, _, _, _, h => h
  | .bool, _, _, _, _, _, h => h
  | .str, _, _, _, _, _, h => h
  | .unit, _, _, _, _, _, h => h
  | .pair a b, o, _, _, _, hf, h => by
    simp only [Go.Dn.full, Bool.and_eq_true] at hf
    obtain ⟨c1, c2, b1, b2, e1, e2, h1, h2⟩ := h
    exact ⟨c1, c2, b1, b2, e1, e2, h1.full hf.1, h2.full hf.2⟩
  | .slice e t, .row oe, _, xs, bs, hf, h => by
    obtain ⟨v, ys, b', e1, e2, e3, h1⟩ := rep_row.1 h
    exact rep_row.2 ⟨v, ys, b', e1, e2, e3, h1.imp (bsA := b') (fun c x b _ hr => hr.full (by simpa [Go.Dn.full] using hf)) (fun _ h => h)⟩
  | .slice _ _, .b, _, _, _, hf, _ => by simp [Go.Dn.full] at hf
  | .slice _ _, .pr _ _, _, _, _, hf, _ => by simp [Go.Dn.full] at hf

theorem full_top : ∀ t : Ty, full t (top t) = true
  | .int _ => rfl
  | .bool => rfl
  | .str => rfl
  | .unit => rfl
  | .pair a b => by simp [full, top, Ow.fst, Ow.snd, full_top a, full_top b]
  | .slice _ t => by simp [full, top, full_top t]

section
variable {w0 : World} {Pr0 M : Nat → Prop}
variable {P : Program} {cx : Cx} {E : Env} {V : List Value} {w w' : World} {Pr Pr' Q : Nat → Prop} {B : Nat → List Nat} {off : Nat} {a : Act}

theorem ValOk.full {v : Value} {t : Ty} {o : Ow} {x : PV t} {bs : List Nat} (hf : Go.Dn.full t o = true) (h : ValOk w Pr v t o x bs) : ValOk w Q v t (top t) x bs := by
  obtain ⟨cs, h1, h2⟩ := h; exact ⟨cs, h1, h2.full hf⟩

theorem VarOk.full {v : Value} {t : Ty} {o : Ow} {x : PV t} {bs : List Nat} (hf : Go.Dn.full t o = true) (h : VarOk w Pr v t o x bs) : VarOk w Q v t (top t) x bs := by
  obtain ⟨b, cs, bs0, h1, h2, h3, h4⟩ := h; exact ⟨b, cs, bs0, h1, h2, h3.full hf, h4⟩

/-- One argument. -/
def ArgOk (w : World) (Pr : Nat → Prop) (m : Mode) (t : Ty) (v : Value) (x : PV t) (bs : List Nat) : Prop :=
  match m with
  | .bor => ValOk w Pr v t .b x [] ∧ bs = []
  | .own => ValOk w Pr v t (top t) x bs
  | .mut => ValOk w Pr v t (top t) x bs
  | .ptr => VarOk w Pr v t (top t) x bs

def ArgsOk (w : World) (Pr : Nat → Prop) : (ps : List (Mode × Ty)) → List Value → PVs (ps.map (·.2)) → List (List Nat) → Prop
  | [], [], _, [] => True
  | (m, t) :: ps, v :: vs, x, bs :: bss => ArgOk w Pr m t v x.1 bs ∧ ArgsOk w Pr ps vs x.2 bss
  | _, _, _, _ => False

/-- What comes back in the arguments. -/
def BacksOk (w : World) (Pr : Nat → Prop) : (ps : List (Mode × Ty)) → List Value → PVs (backs ps) → List (List Nat) → Prop
  | [], [], _, [] => True
  | (.bor, _) :: ps, _ :: vs, r, bs :: bss => bs = [] ∧ BacksOk w Pr ps vs r bss
  | (.own, _) :: ps, _ :: vs, r, bs :: bss => bs = [] ∧ BacksOk w Pr ps vs r bss
  | (.mut, t) :: ps, v :: vs, r, bs :: bss => ValOk w Pr v t (top t) r.1 bs ∧ BacksOk w Pr ps vs r.2 bss
  | (.ptr, t) :: ps, v :: vs, r, bs :: bss => VarOk w Pr v t (top t) r.1 bs ∧ BacksOk w Pr ps vs r.2 bss
  | _, _, _, _ => False

def retValue : List Value → Value
  | [v] => v
  | vs => .tuple vs.toArray

/-- What a call by contract does. -/
def FnOk (g : Glob) (P : Program) (k : FuncId) (ct : Ct) : Prop :=
  (ct.rets.all fun q => !q.1.isUnit) = true ∧
  ∀ (w : World) (Pr : Nat → Prop) (vs : List Value) (xs : PVs (ct.pars.map (·.2))) (bss : List (List Nat)) (r : PVs (ct.rets.map (·.1)) × PVs (backs ct.pars)),
    (∀ b, Pr b → b < w.heap.size) → ArgsOk w Pr ct.pars vs xs bss → bss.flatten.Nodup → (∀ b ∈ bss.flatten, ¬ Pr b ∧ b < w.heap.size) → g.ok w → (∀ b, g.dom b → Pr b) → ct.F xs = some r →
    (∃ fn, P.funcs[k]? = some fn ∧ fn.body.isSome = true ∧ (fn.name == "runtime.NumGoroutine") = false) ∧
    Calls P k vs.toArray w fun e w' => ∃ (rv : List Value) (Pr' : Nat → Prop) (bv : List Nat) (bms : List (List Nat)), e = .returned (retValue rv) ∧ TupOk w' Pr' (retList ct.rets r.1) rv bv ∧ BacksOk w' Pr' ct.pars vs r.2 bms ∧
      (bv ++ bms.flatten).Nodup ∧ (∀ b ∈ bv ++ bms.flatten, (b ∈ bss.flatten ∨ w.heap.size ≤ b) ∧ ¬ Pr' b ∧ b < w'.heap.size) ∧ (∀ b, Pr b → Pr' b) ∧
      (∀ b, Pr' b → Pr b ∨ (b ∈ bss.flatten ∨ w.heap.size ≤ b) ∧ b < w'.heap.size) ∧ w'.os = w.os ∧ w'.tape = w.tape ∧ w'.output = w.output ∧ w.heap.size ≤ w'.heap.size ∧
      (∀ b, b < w.heap.size → b ∉ bss.flatten → w'.heap[b]? = w.heap[b]?)

/-! ### handing over -/
/-- What is known of an argument's way back. -/
def BkOk (w : World) (Pr : Nat → Prop) (E : Env) (V : List Value) (B : Nat → List Nat) (m : Mode) (t : Ty) (v : Value) (b : Bk) : Prop :=
  match m, b with
  | .mut, .val j => V[j]? = some v ∧ j < E.length
  | .mut, .hol j iV t' o z p => E[j]? = some (E.at j) ∧ (E.at j).s = .hole iV t' o z p ∧ getT p t' = t ∧ ∃ vj loc, V[j]? = some vj ∧ locOf w iV t' vj p = some loc ∧ v = pack (getT p t') (readCells w loc.1 loc.2 (getT p t').size)
  | .ptr, .var j => V[j]? = some v ∧ j < E.length
  | .bor, _ => True
  | .own, _ => True
  | _, _ => False

def HandOk (w : World) (Pr : Nat → Prop) (m : Mode) (t : Ty) (v : Value) (x : PV t) (bs : List Nat) : Prop :=
  match m with
  | .bor => bs = []
  | .own => ValOk w Pr v t (top t) x bs
  | .mut => ValOk w Pr v t (top t) x bs
  | .ptr => VarOk w Pr v t (top t) x bs

theorem handOver_ok (h : StB w0 Pr0 M E V w Pr B) (hf : Fr off V a) {N : Nat} (hN : E.length ≤ N) (hB : B N = []) {m : Mode} {t : Ty} {x : Operand} {y : PV t} {us : List U} {b : Bk}
    (hh : handOver E off m t x = some (y, us, b)) :
    ∃ B1, StB w0 Pr0 M (appU E us) V w Pr B1 ∧ (appU E us).length = E.length ∧ HandOk w Pr m t (a.eval x) y (B1 N) ∧ (∀ k, E.length ≤ k → k ≠ N → B1 k = B k) ∧ BkOk w Pr (appU E us) V B1 m t (a.eval x) b := by
  cases m with
  | bor => cases hh
  | own =>
    simp only [handOver] at hh
    split at hh
    · rename_i v us' ht
      split at hh
      · rename_i y' hcast
        cases hfull : full v.t v.o with
        | false => rw [hfull] at hh; cases hh
        | true =>
          rw [hfull] at hh
          simp only [cond_true, Option.some.injEq, Prod.mk.injEq] at hh
          obtain ⟨rfl, rfl, rfl⟩ := hh
          obtain ⟨T, O, X⟩ := v
          obtain ⟨hT, rfl⟩ := castTy_some hcast
          simp only at hT
          subst hT
          obtain ⟨B1, g1, g2, g3, g4⟩ := take_ok h hN hB (opdY_ok h hf T x) ht
          exact ⟨B1, g1, g4, ValOk.full hfull g2, g3, trivial⟩
      · cases hh
    · cases hh
  | «mut» =>
    simp only [handOver] at hh
    split at hh
    · rename_i al hal
      cases hok : al.okS E with
      | false => rw [hok] at hh; cases hh
      | true =>
        rw [hok] at hh
        simp only [cond_true] at hh
        have hso := alias_ok h (opd_ok h hf x) (N := N) hB
        rw [hal] at hso
        have hso : SubOk w E V al (a.eval x) := hso
        split at hh
        · rename_i t' o z hroot
          split at hh
          · rename_i y' hcast
            cases hfull : full (getT al.p t') (getO al.p o) with
            | false => rw [hfull] at hh; cases hh
            | true =>
              rw [hfull] at hh
              simp only [cond_true] at hh
              obtain ⟨rfl, rfl⟩ := castTy_some hcast
              obtain ⟨vj, g1, g2, g3, g4⟩ := alias_root (iV := false) h hso hok hroot
              have hj := (List.getElem?_eq_some_iff.1 g2).1
              have hjN : al.j ≠ N := by omega
              cases hnil : isNil al.p with
              | true =>
                rw [hnil] at hh
                simp only [cond_true, Option.some.injEq, Prod.mk.injEq] at hh
                obtain ⟨rfl, rfl, rfl⟩ := hh
                have hp := isNil_iff.1 hnil
                rcases g4 with ⟨_, _, hv⟩ | ⟨hp', _⟩
                · have g3 : ValOk w Pr vj t' o z (B al.j) := g3
                  refine ⟨swap B N al.j (B al.j) [], ?_, by simp [appU, U.app], ?_, fun k hk hne => swap_ne hne (by omega), ?_⟩
                  · show StB w0 Pr0 M (E.set al.j _) V w Pr _
                    exact h.part hN hB g2 g1 (by simp) (.inl (Nat.lt_succ_self _)) trivial
                  · show ValOk _ _ _ _ _ _ _
                    rw [swap_N, hv]
                    obtain ⟨alj, alp, aliv, alcv⟩ := al
                    simp only at hp
                    subst hp
                    exact ValOk.full hfull g3
                  · exact ⟨by rw [hv]; exact g1, by simpa [appU, U.app] using hj⟩
                · rcases hp' with hp' | hp'
                  · exact absurd hp hp'
                  · cases hp'
              | false =>
                rw [hnil] at hh
                simp only [cond_false, Option.some.injEq, Prod.mk.injEq] at hh
                obtain ⟨rfl, rfl, rfl⟩ := hh
                rcases g4 with ⟨_, hp, _⟩ | ⟨_, hpath, hfo, loc, hl, hv⟩
                · rw [hp] at hnil; cases hnil
                · obtain ⟨B1, q1, q2, q3⟩ := h.dig hN hB g2 g1 (iV := false) hroot hpath hfo hl hv
                  refine ⟨B1, q1, by simp [appU, U.app], ValOk.full hfull q2, q3, ?_⟩
                  have he' : (appU E [.hol al.j (.hole false t' o z al.p)])[al.j]? = some ⟨(E.at al.j).iv, (E.at al.j).cv, .hole false t' o z al.p⟩ := List.getElem?_set_self hj
                  exact ⟨by rw [at_of he']; exact he', by rw [at_of he'], rfl, vj, loc, g1, hl, hv⟩
          · cases hh
        · rename_i t' o z hroot
          split at hh
          · rename_i y' hcast
            cases hfull : full (getT al.p t') (getO al.p o) with
            | false => rw [hfull] at hh; cases hh
            | true =>
              rw [hfull] at hh
              simp only [cond_true, Option.some.injEq, Prod.mk.injEq] at hh
              obtain ⟨rfl, rfl, rfl⟩ := hh
              obtain ⟨rfl, rfl⟩ := castTy_some hcast
              obtain ⟨vj, g1, g2, g3, g4⟩ := alias_root (iV := true) h hso hok hroot
              have hj := (List.getElem?_eq_some_iff.1 g2).1
              rcases g4 with ⟨hbad, _⟩ | ⟨_, hpath, hfo, loc, hl, hv⟩
              · cases hbad
              · obtain ⟨B1, q1, q2, q3⟩ := h.dig hN hB g2 g1 (iV := true) hroot hpath hfo hl hv
                refine ⟨B1, q1, by simp [appU, U.app], ValOk.full hfull q2, q3, ?_⟩
                have he' : (appU E [.hol al.j (.hole true t' o z al.p)])[al.j]? = some ⟨(E.at al.j).iv, (E.at al.j).cv, .hole true t' o z al.p⟩ := List.getElem?_set_self hj
                exact ⟨by rw [at_of he']; exact he', by rw [at_of he'], rfl, vj, loc, g1, hl, hv⟩
          · cases hh
        · cases hh
    · cases hh
  | ptr =>
    simp only [handOver] at hh
    split at hh
    · rename_i al hp
      split at hh
      · rename_i t' o z hroot
        split at hh
        · rename_i y' hcast
          cases hc : full t' o && isNil al.p with
          | false => rw [hc] at hh; cases hh
          | true =>
            rw [hc] at hh
            simp only [cond_true, Option.some.injEq, Prod.mk.injEq] at hh
            obtain ⟨rfl, rfl, rfl⟩ := hh
            obtain ⟨rfl, rfl⟩ := castTy_some hcast
            rw [Bool.and_eq_true] at hc
            obtain ⟨hA, hok⟩ := place_ok h (opd_ok h hf x) hp
            obtain ⟨e, vj, hl, hv, hk⟩ := hA
            have he := at_of hl.1
            have hiv : e.iv = al.iv := by simp only [Al.okA, he, Bool.and_eq_true, beq_iff_eq] at hok; exact hok.1
            have hev := (hk hiv).1 (isNil_iff.1 hc.2)
            have hj := (List.getElem?_eq_some_iff.1 hl.1).1
            have hjN : al.j ≠ N := by omega
            have hso := h.slots al.j e vj hl.1 hv
            rw [← he, hroot] at hso
            refine ⟨swap B N al.j (B al.j) [], ?_, by simp [appU, U.app], ?_, fun k hk hne => swap_ne hne (by omega), ?_⟩
            · show StB w0 Pr0 M (E.set al.j _) V w Pr _
              exact h.part hN hB (e := E.at al.j) (by rw [he]; exact hl.1) hv (by simp) (.inl (Nat.lt_succ_self _)) trivial
            · show VarOk _ _ _ _ _ _ _
              rw [swap_N, hev]
              exact VarOk.full hc.1 hso
            · exact ⟨by rw [hev]; exact hv, by simpa [appU, U.app] using hj⟩
        · cases hh
      · cases hh
    · cases hh

theorem Rep.of_top {w : World} {Pr Q : Nat → Prop} : ∀ {t : Ty} {o : Ow} {cs : List Value} {x : PV t} {bs : List Nat}, Go.Dn.full t o = true → Rep w Pr t (top t) cs x bs → Rep w Q t o cs x bs
  | .int _, _, _, _, _, _, h => h
  | .bool, _, _, _, _, _, h => h
  | .str, _, _, _, _, _, h => h
  | .unit, _, _, _, _, _, h => h
  | .pair a b, o, _, _, _, hf, h => by
    simp only [Go.Dn.full, Bool.and_eq_true] at hf
    obtain ⟨c1, c2, b1, b2, e1, e2, h1, h2⟩ := h
    exact ⟨c1, c2, b1, b2, e1, e2, h1.of_top hf.1, h2.of_top hf.2⟩
  | .slice e t, .row oe, _, xs, bs, hf, h => by
    obtain ⟨v, ys, b', e1, e2, e3, h1⟩ := rep_row.1 h
    exact rep_row.2 ⟨v, ys, b', e1, e2, e3, h1.imp (bsA := b') (fun c x b _ hr => hr.of_top (by simpa [Go.Dn.full] using hf)) (fun _ h => h)⟩
  | .slice _ _, .b, _, _, _, hf, _ => by simp [Go.Dn.full] at hf
  | .slice _ _, .pr _ _, _, _, _, hf, _ => by simp [Go.Dn.full] at hf

theorem pack_inj {t : Ty} {c1 c2 : List Value} (h1 : c1.length = t.size) (h2 : c2.length = t.size) (h : pack t c1 = pack t c2) : c1 = c2 := by
  unfold pack at h
  cases ha : t.agg with
  | true =>
    simp only [ha, if_true, Value.agg.injEq] at h
    simpa using h
  | false =>
    simp only [ha, Bool.false_eq_true, if_false] at h
    have hs : t.size = 1 := by cases t <;> simp [Ty.agg] at ha <;> rfl
    rw [hs] at h1 h2
    obtain ⟨a, rfl⟩ := List.length_eq_one_iff.1 h1
    obtain ⟨b, rfl⟩ := List.length_eq_one_iff.1 h2
    simpa using h

/-- A hole is filled with what stands there already. -/
theorem StB.refill (h : StB w0 Pr0 M E V w Pr B) {N j : Nat} (hN : E.length ≤ N) {v vj : Value} {iV : Bool} {t : Ty} {o o2 o3 : Ow} {z : PV t} {p : List PE} {y : PV (getT p t)} {loc : Nat × Nat}
    (he : E[j]? = some (E.at j)) (hs : (E.at j).s = .hole iV t o z p) (hv : V[j]? = some vj) (hl : locOf w iV t vj p = some loc) (hval : v = pack (getT p t) (readCells w loc.1 loc.2 (getT p t).size))
    (hy : ValOk w Pr v (getT p t) (top (getT p t)) y (B N)) (hfit : fitO p o (getT p t) (top (getT p t)) = some (o2, o3)) (hfull : full (getT p t) o2 = true) :
    StB w0 Pr0 M (U.app E (.cont j (rootS iV t o3 (set p t z y)))) V w Pr (fun k => if k = j then B N ++ B j else if k = N then [] else B k) := by
  have hso := h.slots j _ vj he hv
  rw [hs] at hso
  obtain ⟨b', off', cs', h1, h2, h3, h4, h5, h6, h7⟩ := hso
  rw [hl] at h1
  obtain rfl := Option.some.inj h1
  obtain ⟨hset, _⟩ := fitO_ok h5 hfit
  obtain ⟨cs, hv1, hr⟩ := hy
  have hcs : cs = cs' := pack_inj hr.length h3 (by rw [← hv1, hval]; simp only; rw [← h3, h2.read])
  subst hcs
  have hroot := h7 w Pr o2 o3 cs y (B N) (fun _ h => h) (fun _ _ _ => rfl) (h2.upd rfl) (hr.of_top hfull) hset
  have hj := (List.getElem?_eq_some_iff.1 he).1
  have hjN : j ≠ N := by omega
  refine h.pool (fun k => k = j ∨ k = N) (by simp [U.app, h.len]) (by simp [U.app]) (fun k hk => ?_) (fun k e v hk he' hv' => ?_) (fun k hk b hb => ?_) (fun _ h => h) (fun _ h => .inl h)
    (fun k hk => ?_) (fun i k hi hk hne b hb hbk => ?_) (fun _ _ _ => rfl) rfl rfl rfl (Nat.le_refl _)
  · have h1 : k ≠ j := fun e => hk (.inl e)
    have h2 : k ≠ N := fun e => hk (.inr e)
    exact ⟨List.getElem?_set_ne (Ne.symm h1), rfl, by simp [h1, h2]⟩
  · rcases hk with rfl | rfl
    · rw [hv] at hv'
      rw [he] at he'
      obtain rfl := Option.some.inj hv'
      obtain rfl := Option.some.inj he'
      refine ⟨_, _, List.getElem?_set_self hj, hv, ?_, .inr (.inl ⟨rfl, rfl, Nat.lt_succ_self _, ?_⟩)⟩
      · show SlotOk w _ _ _ _ k (rootS iV t o3 (set p t z y)) _
        cases iV with
        | true => show VarOk _ _ _ _ _ _ _; simp only [if_true]; exact hroot
        | false => show ValOk _ _ _ _ _ _ _; simp only [if_true]; exact hroot
      · show (rootS iV t o3 (set p t z y)).ofVal = (E.at k).s.ofVal
        rw [hs]; cases iV <;> rfl
    · have := (List.getElem?_eq_some_iff.1 he').1; omega
  · rcases hk with rfl | rfl
    · simp only [if_true] at hb
      rcases List.mem_append.1 hb with hb | hb
      · exact ⟨.inl ⟨N, .inr rfl, hb⟩, (h.free _ _ hb).2.2⟩
      · exact ⟨.inl ⟨k, .inl rfl, hb⟩, (h.free _ _ hb).2.2⟩
    · simp [Ne.symm hjN] at hb
  · rcases hk with rfl | rfl
    · simp only [if_true]
      exact List.nodup_append.2 ⟨h.nodup N, h.nodup k, fun x hx y hy hxy => h.disj N k (Ne.symm hjN) x hx (hxy ▸ hy)⟩
    · simp [Ne.symm hjN]
  · rcases hi with rfl | rfl <;> rcases hk with rfl | rfl
    · exact hne rfl
    · simp [Ne.symm hjN] at hbk
    · simp [Ne.symm hjN] at hb
    · exact hne rfl

/-! ### the arguments together -/
/-- What is handed over, at N, or nothing. -/
def HandsOk (w : World) (Pr : Nat → Prop) (E : Env) (V : List Value) (B : Nat → List Nat) (N : Nat) : List (Mode × Ty) → List Value → List SV → List Bk → List (List Nat) → Prop
  | [], [], [], [], bss => bss = [] ∧ B N = []
  | (.bor, _) :: ps, _ :: vs, _ :: ys, _ :: bs, bss => ∃ bss', bss = [] :: bss' ∧ HandsOk w Pr E V B N ps vs ys bs bss'
  | (m, t) :: ps, v :: vs, ⟨t', y⟩ :: _, b :: bs, bss => m ≠ .bor ∧ ps.all isBor = true ∧ ps.length = vs.length ∧ bs = ps.map (fun _ => Bk.none) ∧ bss = B N :: ps.map (fun _ => []) ∧ BkOk w Pr E V B m t v b ∧ ∃ e : t' = t, HandOk w Pr m t v (e ▸ y) (B N)
  | _, _, _, _, _ => False

theorem handAll_ok (h : StB w0 Pr0 M E V w Pr B) (hN : ∀ k, E.length ≤ k → B k = []) (hf : Fr off V a) : ∀ {ps : List (Mode × Ty)} {xs : List Operand} {ys : List SV} {us : List U} {bs : List Bk}, handAll E off ps xs = some (ys, us, bs) →
    ∃ B1 bss, StB w0 Pr0 M (appU E us) V w Pr B1 ∧ (appU E us).length = E.length ∧ HandsOk w Pr (appU E us) V B1 E.length ps (xs.map a.eval) ys bs bss ∧ (∀ k, E.length < k → B1 k = []) ∧ bss.flatten = B1 E.length
  | [], [], ys, us, bs, hh => by
    simp only [handAll, Option.some.injEq, Prod.mk.injEq] at hh
    obtain ⟨rfl, rfl, rfl⟩ := hh
    exact ⟨B, [], h, rfl, ⟨rfl, hN _ (Nat.le_refl _)⟩, fun k hk => hN k (by omega), (hN _ (Nat.le_refl _)).symm⟩
  | (m, t) :: ps, x :: xs, ys, us, bs, hh => by
    simp only [handAll] at hh
    split at hh
    · split at hh
      · rename_i vs us' bs' hh'
        simp only [Option.some.injEq, Prod.mk.injEq] at hh
        obtain ⟨rfl, rfl, rfl⟩ := hh
        obtain ⟨B1, bss, g1, g2, g3, g4, g5⟩ := handAll_ok h hN hf hh'
        exact ⟨B1, [] :: bss, g1, g2, ⟨bss, rfl, g3⟩, g4, by simpa using g5⟩
      · cases hh
    · rename_i hm
      cases hc : ps.all isBor && (ps.length == xs.length) with
      | false => rw [hc] at hh; cases hh
      | true =>
        rw [hc] at hh
        simp only [cond_true] at hh
        rw [Bool.and_eq_true, beq_iff_eq] at hc
        split at hh
        · rename_i y us' b hh'
          simp only [Option.some.injEq, Prod.mk.injEq] at hh
          obtain ⟨rfl, rfl, rfl⟩ := hh
          obtain ⟨B1, g1, g2, g3, g4, g5⟩ := handOver_ok h hf (Nat.le_refl _) (hN _ (Nat.le_refl _)) hh'
          refine ⟨B1, B1 E.length :: ps.map (fun _ => []), g1, g2, ?_, fun k hk => by rw [g4 k (by omega) (by omega)]; exact hN k (by omega), ?_⟩
          · cases m with
            | bor => exact absurd rfl hm
            | own => exact ⟨hm, hc.1, by simp [hc.2], rfl, rfl, g5, rfl, g3⟩
            | «mut» => exact ⟨hm, hc.1, by simp [hc.2], rfl, rfl, g5, rfl, g3⟩
            | ptr => exact ⟨hm, hc.1, by simp [hc.2], rfl, rfl, g5, rfl, g3⟩
          · have : (ps.map (fun _ => ([] : List Nat))).flatten = [] := by induction ps <;> simp_all
            simp [this]
        · cases hh
  | [], _ :: _, _, _, _, hh => by simp [handAll] at hh
  | _ :: _, [], _, _, _, hh => by simp [handAll] at hh

theorem StB.unhand (h : StB w0 Pr0 M E V w Pr B) : StB w0 Pr0 M E V w Pr (fun k => if E.length ≤ k then [] else B k) :=
  h.hand (fun k hk => if_neg (by omega)) (fun k hk b hb => by simp [hk] at hb) (fun _ h => h) (fun _ h => .inl h)
    (fun k hk => by simp [hk]) (fun j k hj hk _ b hb => by simp [hj] at hb) (fun _ _ _ => rfl) rfl rfl rfl (Nat.le_refl _)

/-- Of which memory the callee may think that it stays. -/
def PrC (strict : Bool) (E : Env) (Pr : Nat → Prop) (B : Nat → List Nat) : Nat → Prop :=
  fun b => Pr b ∨ (strict = false ∧ ∃ k, k < E.length ∧ b ∈ B k)

theorem HandOk.any {m : Mode} {t : Ty} {v : Value} {x : PV t} {bs : List Nat} (hm : m ≠ .bor) (h : HandOk w Pr m t v x bs) : ArgOk w Q m t v x bs := by
  cases m with
  | bor => exact absurd rfl hm
  | own => exact ValOk.full (full_top t) h
  | «mut» => exact ValOk.full (full_top t) h
  | ptr => exact VarOk.full (full_top t) h

theorem lookOne_ok (h : StB w0 Pr0 M E V w Pr B) (hf : Fr off V a) {strict : Bool} {t t' : Ty} {x : Operand} {y : PV t'} (hr : rd E (opdY E off t x).s = some ⟨t', y⟩)
    (hst : (!strict || (opdY E off t x).s.free || noSl t') = true) : ValOk w (PrC strict E Pr B) (a.eval x) t' .b y [] := by
  have ho := opdY_ok h hf t x
  cases hns : noSl t' with
  | true => exact rd_plain h ho hr hns w _ .b
  | false =>
    cases strict with
    | false =>
      obtain ⟨cs, h1, h2⟩ := rd_ok h.unhand ho hr
      refine ⟨cs, h1, h2.more (fun b hb => hb.imp id fun ⟨k, hk⟩ => ⟨rfl, k, ?_⟩)⟩
      by_cases hle : E.length ≤ k
      · simp [hle] at hk
      · simp only [hle, if_false] at hk; exact ⟨by omega, hk⟩
    | true =>
      rw [hns] at hst
      simp only [Bool.not_true, Bool.false_or, Bool.or_false] at hst
      cases hs2 : (opdY E off t x).s <;> rw [hs2] at hst <;> try (cases hst; done)
      · rename_i t2 o2 x2
        rw [hs2] at hr
        simp only [rd] at hr
        obtain ⟨rfl, hx⟩ := Sigma.mk.inj (Option.some.inj hr)
        obtain rfl := eq_of_heq hx
        have hown : owns t2 o2 = false := by simpa [Slot.free] using hst
        have : ∃ bs, ValOk w Pr (a.eval x) t2 o2 x2 bs := by
          cases hix : (opdY E off t x).ix with
          | none => unfold OpdOk at ho; rw [hix, hs2] at ho; exact ⟨[], ho⟩
          | some k => have := opdOk_tmp h ho hix; rw [hs2] at this; exact ⟨_, this⟩
        obtain ⟨bs, hv⟩ := this
        obtain ⟨cs, h1, h2⟩ := ValOk.nowns hown hv
        exact ⟨cs, h1, h2.more (fun b hb => .inl hb)⟩

theorem lookOne_bor (h : StB w0 Pr0 M E V w Pr B) (hf : Fr off V a) {strict : Bool} {t : Ty} {x : Operand} {y : SV} {z : PV t} (hl : lookOne strict E off .bor t x y = some z) : ArgOk w (PrC strict E Pr B) .bor t (a.eval x) z [] := by
  simp only [lookOne] at hl
  split at hl
  · rename_i t' y' hr
    cases hst : (!strict || (opdY E off t x).s.free || noSl t') with
    | false => rw [hst] at hl; cases hl
    | true =>
      rw [hst] at hl
      simp only [cond_true] at hl
      obtain ⟨rfl, rfl⟩ := castTy_some hl
      exact ⟨lookOne_ok h hf hr hst, rfl⟩
  · cases hl

theorem bors_ok (h : StB w0 Pr0 M E V w Pr B) (hf : Fr off V a) {strict : Bool} : ∀ {ps : List (Mode × Ty)} {xs : List Operand} {ys : List SV} {zs : PVs (ps.map (·.2))}, ps.all isBor = true → lookAll strict E off ps xs ys = some zs →
    ArgsOk w (PrC strict E Pr B) ps (xs.map a.eval) zs (ps.map (fun _ => []))
  | [], [], [], _, _, _ => trivial
  | (m, t) :: ps, x :: xs, y :: ys, zs, hb, hl => by
    rw [List.all_cons, Bool.and_eq_true] at hb
    obtain ⟨hb1, hb⟩ := hb
    cases m <;> simp [isBor] at hb1
    simp only [lookAll] at hl
    split at hl
    · rename_i y2 r2 hc hl2
      simp only [Option.some.injEq] at hl
      subst hl
      exact ⟨lookOne_bor h hf hc, bors_ok h hf hb hl2⟩
    · cases hl
  | [], [], _ :: _, _, _, hl => by simp [lookAll] at hl
  | [], _ :: _, _, _, _, hl => by simp [lookAll] at hl
  | _ :: _, [], _, _, _, hl => by simp [lookAll] at hl
  | _ :: _, _ :: _, [], _, _, hl => by simp [lookAll] at hl

theorem lookAll_ok (h : StB w0 Pr0 M E V w Pr B) (hf : Fr off V a) {strict : Bool} {N : Nat} : ∀ {ps : List (Mode × Ty)} {xs : List Operand} {ys : List SV} {bs : List Bk} {bss : List (List Nat)} {zs : PVs (ps.map (·.2))},
    HandsOk w Pr E V B N ps (xs.map a.eval) ys bs bss → lookAll strict E off ps xs ys = some zs → ArgsOk w (PrC strict E Pr B) ps (xs.map a.eval) zs bss
  | [], [], [], [], bss, _, hh, _ => by obtain ⟨rfl, _⟩ := hh; trivial
  | (m, t) :: ps, x :: xs, y :: ys, b :: bs, bss, zs, hh, hl => by
    cases m with
    | bor =>
      obtain ⟨bss', rfl, hh⟩ := hh
      simp only [lookAll] at hl
      split at hl
      · rename_i y2 r2 hc hl2
        simp only [Option.some.injEq] at hl
        subst hl
        exact ⟨lookOne_bor h hf hc, lookAll_ok h hf hh hl2⟩
      · cases hl
    | _ =>
      obtain ⟨T, Y⟩ := y
      obtain ⟨hm, hb, hlen, rfl, rfl, hbk, e, hh⟩ := hh
      subst e
      simp only [lookAll] at hl
      split at hl
      · rename_i y2 r2 hc hl2
        simp only [Option.some.injEq] at hl
        subst hl
        obtain rfl := castTy_self hc
        exact ⟨HandOk.any hm hh, bors_ok h hf hb hl2⟩
      · cases hl
  | [], _ :: _, _, _, _, _, hh, _ => by simp [HandsOk] at hh
  | (m, t) :: ps, [], ys, bs, bss, zs, hh, hl => by cases m <;> cases ys <;> simp [lookAll] at hl
  | [], [], _ :: _, _, _, _, hh, _ => by simp [HandsOk] at hh
  | [], [], [], _ :: _, _, _, hh, _ => by simp [HandsOk] at hh
  | (m, t) :: ps, x :: xs, [], bs, bss, zs, hh, hl => by cases m <;> simp [lookAll] at hl
  | (m, t) :: ps, x :: xs, y :: ys, [], bss, zs, hh, hl => by cases m <;> simp [HandsOk] at hh

end
end Go.Dn
