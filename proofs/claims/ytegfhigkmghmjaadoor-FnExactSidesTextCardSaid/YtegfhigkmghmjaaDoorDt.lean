/- Every operation that the interpreter takes does in the machine what it says. -/
import Derived.Test.YtegfhigkmghmjaaDoorDs
namespace Go.Dn

def ArrOk (P : Program) (cx : Cx) : Prop :=
  cx.tab.all (fun q => match P.underlying q.1 with | some (.array _ _) => memN cx.arrs q.1 | _ => !(memN cx.arrs q.1)) = true

section
variable {w0 : World} {Pr0 M : Nat → Prop}
variable {P : Program} {cx : Cx} {E : Env} {V : List Value} {w w' : World} {Pr : Nat → Prop} {B : Nat → List Nat} {off : Nat} {a : Act}

theorem struct_of (htab : TabOk P cx.tab) (harr : ArrOk P cx) {tid : TypeId} {t : Ty} (hl : lookup cx.tab tid = some t) (hm : memN cx.arrs tid = false) (hag : t.agg = true) : ∃ d fs, P.underlying tid = some d ∧ d = .struct fs := by
  obtain ⟨d, hd, hfit⟩ := (tab_fact htab hl).und
  have := List.all_eq_true.1 harr _ (lookup_mem hl)
  simp only [hd] at this
  cases d with
  | struct fs => exact ⟨_, fs, hd, rfl⟩
  | array n e => simp only [hm] at this; cases this
  | _ => cases t <;> simp [fits, Ty.agg] at hfit hag

theorem array_of (htab : TabOk P cx.tab) (harr : ArrOk P cx) {tid : TypeId} {t : Ty} (hl : lookup cx.tab tid = some t) (hm : memN cx.arrs tid = true) :
    ∃ n e a, P.underlying tid = some (.array n e) ∧ lookup cx.tab e = some a ∧ a.size ≠ 0 ∧ arrOk a n t = true ∧ t.agg = true := by
  obtain ⟨d, hd, hfit⟩ := (tab_fact htab hl).und
  have := List.all_eq_true.1 harr _ (lookup_mem hl)
  simp only [hd] at this
  cases d with
  | array n e =>
    simp only [fits, Bool.and_eq_true] at hfit
    split at hfit
    · rename_i a' ha'
      simp only [Bool.and_eq_true, Bool.not_eq_true', beq_eq_false_iff_ne] at hfit
      exact ⟨n, e, a', hd, ha', hfit.2.1, hfit.2.2, hfit.1⟩
    · simp at hfit
  | _ => simp only [hm] at this; cases this

theorem agg_field {t : Ty} {n : Nat} (hn : getT (fpath n) t ≠ .unit) : t.agg = true := by
  cases t <;> first | rfl | (cases n <;> exact absurd rfl hn)

theorem run_arrAt (htab : TabOk P cx.tab) (harr : ArrOk P cx) {tid : TypeId} {t : Ty} (hl : lookup cx.tab tid = some t) (hm : memN cx.arrs tid = true) {k : IntKind} {n : Int} (h0 : 0 ≤ n) (hn : getT (fpath n.toNat) t ≠ .unit)
    (ad : Addr) : (Instr.indexAt tid (.pointer (some ad)) (.int k n)).run P w = .ok (.pointer (some (ad.add (lrShift (fpath n.toNat) t)))) w := by
  obtain ⟨m, e, a', h1, h2, h3, h4, _⟩ := array_of htab harr hl hm
  obtain ⟨q1, q2, q3⟩ := (arr_ok h3 h4).1 n.toNat hn
  have hlt : n < (m : Int) := by omega
  simp [Instr.indexAt, asIntOf, run_underlying h1, Instr.sureAddr, h0, hlt, run_sizeOf (P := P) (w := w) (tab_fact htab h2), q2]

/-- The value of an array's element. -/
theorem run_arrIndex (htab : TabOk P cx.tab) (harr : ArrOk P cx) {tid : TypeId} {t : Ty} (hl : lookup cx.tab tid = some t) (hm : memN cx.arrs tid = true) {k : IntKind} {n : Int} (h0 : 0 ≤ n) (hn : getT (fpath n.toNat) t ≠ .unit)
    {c0 c c2 : List Value} (hc0 : c0.length = lrShift (fpath n.toNat) t) (hc : c.length = (getT (fpath n.toNat) t).size) :
    (Instr.index tid (.agg (c0 ++ c ++ c2).toArray) (.int k n)).run P w = .ok (pack (getT (fpath n.toNat) t) c) w := by
  obtain ⟨m, e, a', h1, h2, h3, h4, _⟩ := array_of htab harr hl hm
  obtain ⟨q1, q2, q3⟩ := (arr_ok h3 h4).1 n.toNat hn
  have hlt : n < (m : Int) := by omega
  rw [q1] at hc
  rw [q1]
  rw [q2] at hc0
  have hpart : (part e (c0 ++ c ++ c2).toArray (n.toNat * a'.size)).run P w = .ok (pack a' c) w := by
    simp only [part, Sem.run_bind, run_isAgg (P := P) (w := w) (tab_fact htab h2), Result.andThen_ok]
    cases ha : a'.agg with
    | true =>
      simp only [if_true, Sem.run_bind, run_sizeOf (P := P) (w := w) (tab_fact htab h2), Result.andThen_ok]
      have : ((c0 ++ c ++ c2).toArray.extract (n.toNat * a'.size) (n.toNat * a'.size + a'.size)) = c.toArray := by
        apply Array.ext'
        simp only [List.extract_toArray, List.toList_toArray]
        rw [← hc0, ← hc, List.append_assoc]
        simp [List.extract_eq_drop_take']
      rw [this]
      simp [pack, ha]
    | false =>
      simp only [Bool.false_eq_true, if_false]
      have h1 : a'.size = 1 := by cases a' <;> simp [Ty.agg] at ha <;> rfl
      rw [h1] at hc
      obtain ⟨v, rfl⟩ := List.length_eq_one_iff.1 hc
      have : (c0 ++ [v] ++ c2).toArray[n.toNat * a'.size]? = some v := by rw [← hc0]; simp
      simp only [this]
      simp [pack, ha]
  rw [List.append_assoc] at hpart
  simp [Instr.index, asIntOf, run_underlying h1, h0, hlt, run_sizeOf (P := P) (w := w) (tab_fact htab h2), hpart]

theorem isNil_iff {p : List PE} : isNil p = true ↔ p = [] := by cases p <;> simp [isNil]
theorem isNil_false {p : List PE} : isNil p = false ↔ p ≠ [] := by cases p <;> simp [isNil]

theorem opd_at {x : Operand} : ∀ k, (opd E off x).ix = some k → (opd E off x).s = (E.at k).s := by
  intro k hk
  cases x <;> simp only [opd] at hk <;> first | (cases hk; done) | skip
  obtain rfl := Option.some.inj hk
  rfl

/-- What an alias that is looked at gives. -/
theorem rd_alias {d : Opd} {t : Ty} {x : PV t} (hd : ∀ k, d.ix = some k → d.s = (E.at k).s) (hr : rd E d.s = some ⟨t, x⟩) : (∃ o', alias E d = .val t o' x ∧ owns t o' = false) ∨ (∃ al, alias E d = .sub al ∧ rd E (.sub al) = some ⟨t, x⟩) ∨ (∃ al, alias E d = .view al t x ∧ d.s = .view al t x) ∨ alias E d = .none := by
  obtain ⟨ix, s⟩ := d
  simp only at hr
  cases s <;> simp only [rd] at hr <;> try (cases hr; done)
  · rename_i t' o' x'
    obtain ⟨rfl, hx⟩ := Sigma.mk.inj (Option.some.inj hr)
    obtain rfl := eq_of_heq hx
    cases hown : owns t' o' with
    | false =>
      left
      cases ix <;> exact ⟨.b, by simp [alias, hown], by
        have : ∀ t, owns t .b = false := by intro t; induction t <;> simp_all [owns, Ow.fst, Ow.snd]
        exact this _⟩
    | true =>
      cases ix with
      | none => right; right; right; simp [alias, hown]
      | some k =>
        right; left
        have h1 := hd k rfl
        simp only at h1
        refine ⟨⟨k, [], (E.at k).iv, (E.at k).cv⟩, by simp [alias, hown], ?_⟩
        simp only [rd, Al.okS, ← h1, beq_self_eq_true, Bool.true_and, Bool.true_or, cond_true]
        rfl
  · rename_i al
    right; left
    exact ⟨al, by cases ix <;> rfl, hr⟩
  · rename_i al t' x'
    right; right; left
    cases hok : (al.okC E && !(E.at al.j).s.isHole) with
    | false => rw [hok] at hr; cases hr
    | true =>
      rw [hok] at hr
      simp only [cond_true, Option.some.injEq] at hr
      obtain ⟨rfl, hx⟩ := Sigma.mk.inj hr
      obtain rfl := eq_of_heq hx
      exact ⟨al, by cases ix <;> rfl, rfl⟩


theorem beq_ty {a b : Ty} (h : (a == b) = true) : a = b := by simpa using h

theorem castTy_self {t : Ty} {x y : PV t} (h : castTy t t x = some y) : y = x := by
  obtain ⟨e, rfl⟩ := castTy_some h; rfl

/-- A field's or an array element's place, whichever way it is told. -/
theorem place_step {o : Oper} {x : Operand} {n : Nat} {t : Ty} (h : StB w0 Pr0 M E V w Pr B) (hN : ∀ k, E.length ≤ k → B k = []) (hf : Fr off V a) (hn : (!(getT (fpath n) t).isUnit) = true)
    (hrun : ∀ ad, a.eval x = .pointer (some ad) → (execOp a.eval o).run P w = .ok (.value (.pointer (some (ad.add (lrShift (fpath n) t))))) w) :
    (∀ y : PV t, (opd E off x).s = .bad t y → OpGood w0 Pr0 M P E V w a o (.bad (getT (fpath n) t) (get (fpath n) t y), [])) ∧
    (∀ al, place E (opd E off x) = some al → ∀ (iV : Bool) (t' : Ty) (o' : Ow) (z : PV t'), (E.at al.j).s = (if iV then .var t' o' z else .val t' o' z) → (getT al.p t' == t) = true → (iV = true ∨ al.p ≠ []) →
      OpGood w0 Pr0 M P E V w a o (.addr ⟨al.j, al.p ++ fpath n, al.iv, (E.at al.j).cv⟩, [])) ∧
    (∀ al, place E (opd E off x) = some al → ∀ (iV : Bool) (t' : Ty) (o' : Ow) (z : PV t') (p : List PE), (E.at al.j).s = .hole iV t' o' z p → (getT al.p t' == t) = true →
      ((isNil al.p && iV) || (!isNil al.p && preLr al.p p)) = true → OpGood w0 Pr0 M P E V w a o (.addr ⟨al.j, al.p ++ fpath n, al.iv, (E.at al.j).cv⟩, [])) := by
  have hn' := isUnit_false hn
  refine ⟨fun y hb => good_field_bad hrun h hN hf hn' hb, fun al hp iV t' o' z hr ht hnn => good_fieldAddr hrun h hN hf hn' hp (.inl ⟨iV, t', o', z, hr, beq_ty ht, hnn⟩), fun al hp iV t' o' z p hr ht hc => ?_⟩
  refine good_fieldAddr hrun h hN hf hn' hp (.inr ⟨iV, t', o', z, p, hr, beq_ty ht, ?_⟩)
  simp only [Bool.or_eq_true, Bool.and_eq_true, Bool.not_eq_true'] at hc
  rcases hc with ⟨h1, h2⟩ | ⟨h1, h2⟩
  · exact .inl ⟨isNil_iff.1 h1, h2⟩
  · exact .inr ⟨isNil_false.1 h1, preLr_ok h2⟩

variable {R : Type} {K : SU → Option R} {r : R}

/-- The master lemma on one operation. -/
theorem step_ok (htab : TabOk P cx.tab) (harr : ArrOk P cx) {o : Oper} (h : StB w0 Pr0 M E V w Pr B) (hN : ∀ k, E.length ≤ k → B k = []) (hf : Fr off V a) (hs : stepK cx E off o K = some r) :
    ∃ z, K z = some r ∧ OpGood w0 Pr0 M P E V w a o z := by
  unfold stepK at hs
  split at hs
  · -- move
    rename_i x hop
    split at hs
    · rename_i k l hd
      exact ⟨_, hs, good_move_tup hop h hN hf hd⟩
    · exact ⟨_, hs, good_move hop h hN hf⟩
  · -- assign
    rename_i x hop
    cases hv : viaIx (opd E off x).s with
    | true => rw [hv] at hs; exact ⟨_, hs, good_assign_alias hop h hN hf⟩
    | false =>
      rw [hv] at hs
      simp only [cond_false] at hs
      split at hs
      · rename_i v us ht
        exact ⟨_, hs, good_assign hop h hN hf ht⟩
      · split at hs
        · cases hs
        · cases hs
        · exact ⟨_, hs, good_assign_alias hop h hN hf⟩
  · -- pick
    rename_i c x y hop
    split at hs
    · rename_i bc hc
      split at hs
      · rename_i t xv t' yv hx hy
        split at hs
        · rename_i y2 hcast
          obtain ⟨rfl, rfl⟩ := castTy_some hcast
          cases hn : noSl t' with
          | false => rw [hn] at hs; cases hs
          | true => rw [hn] at hs; exact ⟨_, hs, good_pick hop h hN hf hc hx hy hn⟩
        · cases hs
      · rename_i t xv hx hy
        cases bc with
        | false => cases hs
        | true =>
          simp only [cond_true] at hs
          cases hn : noSl t with
          | false => rw [hn] at hs; cases hs
          | true => rw [hn] at hs; exact ⟨_, hs, good_pick1 hop h hN hf hc hx hn⟩
      · rename_i t yv hx hy
        cases bc with
        | true => cases hs
        | false =>
          simp only [cond_false] at hs
          cases hn : noSl t with
          | false => rw [hn] at hs; cases hs
          | true => rw [hn] at hs; exact ⟨_, hs, good_pick1 hop h hN hf hc hy hn⟩
      · cases hs
    · cases hs
  · -- alloc
    rename_i tid hop
    split at hs
    · rename_i t hl
      exact ⟨_, hs, good_alloc htab hop h hN hl⟩
    · cases hs
  · -- box
    rename_i tid x hop
    split at hs
    · rename_i t v us hl ht
      split at hs
      · rename_i y hcast
        obtain ⟨T, O, X⟩ := v
        obtain ⟨hT, rfl⟩ := castTy_some hcast
        simp only at hT
        subst hT
        exact ⟨_, hs, good_box hop h hN hf ht⟩
      · cases hs
    · cases hs
  · -- build
    rename_i tid ps hop
    split at hs
    · rename_i t hl
      split at hs
      · rename_i vs us ht
        split at hs
        · rename_i ow x he
          have hag : t.agg = true := by
            cases t <;> first | rfl | (simp [asm] at he; done)
          exact ⟨_, hs, good_build htab hop h hN hf hl hag ht he⟩
        · cases hs
      · cases hs
    · cases hs
  · -- buildSlice
    rename_i tid n ps hop
    split at hs
    · rename_i e t hl
      cases hc : ((ps.size == n) && ((List.range n == ps.toList.map (·.1)) && decide (n * t.size ≤ 65536))) with
      | false => rw [hc] at hs; cases hs
      | true =>
        rw [hc] at hs
        simp only [Bool.and_eq_true, beq_iff_eq, decide_eq_true_eq] at hc
        simp only [cond_true] at hs
        split at hs
        · rename_i vs us ht
          split at hs
          · rename_i ow xs he
            exact ⟨_, hs, good_buildSlice htab hop h hN hf hl hc.1 hc.2.1 hc.2.2 ht he⟩
          · cases hs
        · cases hs
    · cases hs
  · -- load
    rename_i tid x hop
    split at hs
    · cases hs
    · rename_i t hl
      split at hs
      · rename_i t' y hbad
        split at hs
        · rename_i y2 hcast
          obtain ⟨rfl, rfl⟩ := castTy_some hcast
          exact ⟨_, hs, good_load_bad htab hop h hN hf hl hbad⟩
        · cases hs
      · split at hs
        · rename_i al hp
          split at hs
          · rename_i v hlook
            split at hs
            · rename_i y2 hcast
              have go : ∀ (iV : Bool) (t' : Ty) (o' : Ow) (z : PV t'), (E.at al.j).s = (if iV then .var t' o' z else .val t' o' z) → (iV = true ∨ al.p ≠ []) → v = ⟨getT al.p t', getO al.p o', get al.p t' z⟩ →
                  ∃ z, K z = some r ∧ OpGood w0 Pr0 M P E V w a o z := by
                intro iV t' o' z hroot hnn hv
                subst hv
                obtain ⟨rfl, rfl⟩ := castTy_some hcast
                have := good_load htab hop h hN hf hl hp hroot hnn
                cases hown : owns (getT al.p t') (getO al.p o') with
                | true => simp only [hown, cond_true] at hs this; exact ⟨_, hs, this⟩
                | false => simp only [hown, cond_false] at hs this; exact ⟨_, hs, this⟩
              unfold look at hlook
              split at hlook
              · rename_i t' o' z hroot
                cases hn : isNil al.p with
                | true => rw [hn] at hlook; cases hlook
                | false =>
                  rw [hn] at hlook
                  exact go false t' o' z hroot (.inr (isNil_false.1 hn)) (Option.some.inj hlook).symm
              · rename_i t' o' z hroot
                exact go true t' o' z hroot (.inl rfl) (Option.some.inj hlook).symm
              · cases hlook
            · cases hs
          · cases hs
        · cases hs
  · -- store
    rename_i tid x y hop
    split at hs
    · rename_i t v us hl ht
      obtain ⟨B1, g1, g2, g3, g4⟩ := take_ok h (N := E.length) (Nat.le_refl _) (hN _ (Nat.le_refl _)) (opdT_ok h hf tid y) ht
      split at hs
      · rename_i al hp
        obtain ⟨hA, hok⟩ := place_ok g1 (opd_ok g1 hf x) hp
        -- the common end
        have fin : ∀ (iV : Bool) (t' : Ty) (ow ow2 ow3 : Ow) (z : PV t') (p : List PE) (y2 : PV (getT p t')) (vj : Value), p = al.p → (v.t == t) = true → castTy v.t (getT p t') v.x = some y2 → fitO p ow v.t v.o = some (ow2, ow3) →
            V[al.j]? = some vj → (appU E us)[al.j]? = some (Env.at (appU E us) al.j) → Fill w Pr (a.eval x) iV vj t' ow z p (B1 al.j) → (rootS iV t' ow3 (set p t' z y2)).ofVal = (Env.at (appU E us) al.j).s.ofVal →
            OpGood w0 Pr0 M P E V w a o (.none, us ++ [.cont al.j (rootS iV t' ow3 (set p t' z y2))]) := by
          intro iV t' ow ow2 ow3 z p y2 vj hpe hty hcast hfit hv he hfill hofv
          obtain ⟨T, O, X⟩ := v
          obtain ⟨hT, rfl⟩ := castTy_some hcast
          simp only at hT hty
          obtain rfl := beq_ty hty
          subst hT
          obtain ⟨B2, w2, Pr2, s1, s2, s3⟩ := g1.fill htab (N := E.length) (by rw [g4]; exact Nat.le_refl _) hl he hv hofv hfill g2 hfit
          have hlen : (appU E (us ++ [.cont al.j (rootS iV t' ow3 (set p t' z X))])).length = E.length := by rw [appU_append]; simp [appU, U.app, g4]
          refine ⟨.skip, w2, undef, ?_, .inr ⟨rfl, rfl⟩, hlen, Pr2, B2, by rw [appU_append]; exact s2, trivial, fun k hk => ?_⟩
          · simp [execOp, hop, s1]
          · rw [hlen] at hk
            rw [s3 k (by rw [g4]; omega), if_neg (by omega), g3 k (by omega) (by omega)]
            exact hN k (by omega)
        split at hs
        · rename_i t' ow z hroot
          split at hs
          · rename_i y2 ow2 ow3 hcast hfit
            cases hc : (v.t == t) && !isNil al.p with
            | false => rw [hc] at hs; cases hs
            | true =>
              rw [hc] at hs
              simp only [Bool.and_eq_true, Bool.not_eq_true'] at hc
              obtain ⟨vj, f1, f2, f3⟩ := fill_root (iV := false) g1 hA hok hroot (.inr (isNil_false.1 hc.2))
              exact ⟨_, hs, fin false t' ow ow2 ow3 z al.p y2 vj rfl hc.1 hcast hfit f1 f2 f3 (by rw [hroot]; rfl)⟩
          · cases hs
        · rename_i t' ow z hroot
          split at hs
          · rename_i y2 ow2 ow3 hcast hfit
            cases hc : (v.t == t) with
            | false => rw [hc] at hs; cases hs
            | true =>
              rw [hc] at hs
              obtain ⟨vj, f1, f2, f3⟩ := fill_root (iV := true) g1 hA hok hroot (.inl rfl)
              exact ⟨_, hs, fin true t' ow ow2 ow3 z al.p y2 vj rfl hc hcast hfit f1 f2 f3 (by rw [hroot]; rfl)⟩
          · cases hs
        · rename_i iV t' ow z p hroot
          split at hs
          · rename_i y2 ow2 ow3 hcast hfit
            cases hc : (v.t == t) with
            | false => rw [hc] at hs; cases hs
            | true =>
              rw [hc] at hs
              simp only [cond_true] at hs
              cases hc2 : samePath al.p p with
              | false => rw [hc2] at hs; cases hs
              | true =>
                rw [hc2] at hs
                obtain rfl := samePath_eq hc2
                obtain ⟨vj, f1, f2, f3⟩ := fill_hole g1 hA hok hroot
                refine ⟨_, hs, ?_⟩
                have := fin iV t' ow ow2 ow3 z al.p y2 vj rfl hc hcast hfit f1 f2 f3 (by rw [hroot]; cases iV <;> rfl)
                cases iV <;> exact this
          · cases hs
        · cases hs
      · cases hs
    · cases hs
  · -- binOp
    rename_i op tid x y yt hop
    split at hs
    · rename_i p q hp hq
      obtain ⟨s, v, k1, k2, k3⟩ := binK_ok (P := P) (w := w) htab (rd_scal h (opdT_ok h hf tid x) hp) (rd_scal h (opdT_ok h hf tid y) hq) hs
      refine ⟨_, k1, good_scal h hN k2 ?_⟩
      obtain ⟨g1, g2⟩ := k3 x y
      simp [execOp, hop, g1, g2]
    · cases hs
  · -- unOp
    rename_i op tid x hop
    split at hs
    · rename_i b hb
      refine ⟨_, hs, good_scal h hN (.bool _) ?_⟩
      simp [execOp, hop, Op.unary, rd_bool h (opd_ok h hf x) hb]
    · rename_i k n hb
      refine ⟨_, hs, good_scal h hN (.int _ _) ?_⟩
      simp [execOp, hop, Op.unary, rd_int h (opd_ok h hf x) hb, Op.intArith]
    · cases hs
  · -- convert
    rename_i s d x hop
    split at hs
    · rename_i k k' k'' n h1 h2 h3
      cases hk : (k == k'') with
      | false => rw [hk] at hs; cases hs
      | true =>
        rw [hk] at hs
        obtain rfl := beq_iff_eq.1 hk
        exact ⟨_, hs, good_conv_int htab hop h hN hf h1 h2 h3⟩
    · rename_i e e' l h1 h2 h3
      exact ⟨_, hs, good_conv_bytes htab hop h hN hf h1 h2 h3⟩
    · cases hs
  · -- makeFunc
    rename_i f first captured hop
    cases he : first.isEmpty with
    | false => rw [he] at hs; cases hs
    | true =>
      rw [he] at hs
      simp only [cond_true] at hs
      split at hs
      · rename_i as hp
        exact ⟨_, hs, good_makeFunc hop h hN hf he hp⟩
      · cases hs
  · -- makeSlice
    rename_i tid x y hop
    split at hs
    · rename_i e t n m h1 h2 h3
      cases hc : (decide (0 ≤ n) && (decide (n ≤ m) && roomB m.toNat)) with
      | false => rw [hc] at hs; cases hs
      | true =>
        rw [hc] at hs
        simp only [Bool.and_eq_true, decide_eq_true_eq] at hc
        exact ⟨_, hs, good_makeSlice htab hop h hN hf h1 h2 h3 hc.1 hc.2.1 hc.2.2⟩
    · cases hs
  · -- slice
    rename_i tid x lo hi hop
    split at hs
    · rename_i l hx
      split at hs
      · rename_i m n h1 h2 h3
        cases hc : cutB m n (List.length (α := UInt8) l) with
        | false => rw [hc] at hs; cases hs
        | true => rw [hc] at hs; exact ⟨_, hs, good_cut_str htab hop h hN hf h1 hx h2 h3 hc⟩
      · cases hs
    · rename_i e t l hx
      split at hs
      · rename_i e' t' m n h1 h2 h3
        cases hc : (Ty.slice e t == Ty.slice e' t') && cutB m n (List.length (α := PV t) l) with
        | false => rw [hc] at hs; cases hs
        | true =>
          rw [hc] at hs
          simp only [Bool.and_eq_true] at hc
          obtain ⟨hc1, hc2⟩ := hc
          obtain ⟨rfl, rfl⟩ : e = e' ∧ t = t' := by have := beq_ty hc1; injection this with a b; exact ⟨a, b⟩
          simp only [cond_true] at hs
          have hal := alias_ok h (opd_ok h hf x) (N := E.length) (hN _ (Nat.le_refl _))
          rcases rd_alias opd_at hx with ⟨o', q1, q2⟩ | ⟨al, q1, q2⟩ | ⟨al, q1, q2⟩ | q1
          · rw [q1] at hs hal
            refine ⟨_, hs, good_cut_slice htab hop h hN hf h1 h2 h3 hc2 (Q := Pr) ?_ (fun N v cs hB hv hr => ?_)⟩
            · exact ValOk.nowns q2 hal
            · show ValOk _ _ _ _ _ _ _
              rw [hB]; exact ⟨cs, hv, hr⟩
          · rw [q1] at hs hal
            dsimp only at hs
            cases hcase : (headCut lo hi && ((E.at al.j).s.isVar && noSl t)) with
            | true =>
              rw [hcase] at hs
              simp only [cond_true] at hs
              rw [Bool.and_eq_true, Bool.and_eq_true] at hcase
              obtain ⟨y, rfl, rfl⟩ : ∃ y, lo = none ∧ hi = some y := by
                cases lo <;> cases hi <;> first | exact ⟨_, rfl, rfl⟩ | cases hcase.1
              split at hs
              · rename_i e2 t2 oe z us ht
                cases hc3 : (Ty.slice e2 t2 == Ty.slice e t) && cutB 0 n (List.length (α := PV t2) z) with
                | false => rw [hc3] at hs; cases hs
                | true =>
                  rw [hc3] at hs
                  rw [Bool.and_eq_true] at hc3
                  obtain ⟨rfl, rfl⟩ : e2 = e ∧ t2 = t := by have := beq_ty hc3.1; injection this with a b; exact ⟨a, b⟩
                  exact ⟨_, hs, good_cut_take htab hop h hN hf h1 h3 hc3.2 hcase.2.2 ht⟩
              · cases hs
            | false =>
            rw [hcase] at hs
            simp only [cond_false] at hs
            have hal : SubOk w E V al (a.eval x) := hal
            obtain ⟨e0, vj, hl0, hv0, hk0⟩ := hal
            have he0 := at_of hl0.1
            have hok : al.okS E = true := by
              simp only [rd] at q2
              cases ho : al.okS E with
              | true => rfl
              | false => rw [ho] at q2; cases q2
            have hiv : (E.at al.j).iv = al.iv := by simp only [Al.okS, Bool.and_eq_true, beq_iff_eq] at hok; exact hok.1
            refine ⟨_, hs, good_cut_slice htab hop h hN hf h1 h2 h3 hc2 (Q := fun b => Pr b ∨ b ∈ B al.j) ?_ (fun N v cs hB hv hr => ?_)⟩
            · -- what is looked at lies in the root's blocks
              simp only [rd, hok, cond_true] at q2
              have go : ∀ (iV : Bool) (T : Ty) (O : Ow) (X : PV T), (E.at al.j).s = (if iV then .var T O X else .val T O X) → (⟨getT al.p T, get al.p T X⟩ : SV) = ⟨.slice e t, l⟩ →
                  ∃ cs, a.eval x = pack (.slice e t) cs ∧ Rep w (fun b => Pr b ∨ b ∈ B al.j) (.slice e t) .b cs l [] := by
                intro iV T O X hroot hx2
                obtain ⟨vj', g1, g2, g3, g4⟩ := alias_root h ⟨e0, vj, hl0, hv0, hk0⟩ hok hroot
                have fin : ∀ (T2 : Ty) (O2 : Ow) (X2 : PV T2) (bs : List Nat), (⟨T2, X2⟩ : SV) = ⟨.slice e t, l⟩ → ValOk w Pr (a.eval x) T2 O2 X2 bs → (∀ b ∈ bs, b ∈ B al.j) →
                    ∃ cs, a.eval x = pack (.slice e t) cs ∧ Rep w (fun b => Pr b ∨ b ∈ B al.j) (.slice e t) .b cs l [] := by
                  intro T2 O2 X2 bs hs2 hv2 hb
                  obtain ⟨rfl, hX⟩ := Sigma.mk.inj hs2
                  obtain rfl := eq_of_heq hX
                  exact hv2.lend (fun b hb' => hb'.imp id (hb b))
                rcases g4 with ⟨rfl, hp, hvj⟩ | ⟨_, _, hfo, loc, hl', hv'⟩
                · have g3 : ValOk w Pr vj' T O X (B al.j) := g3
                  rw [← hvj] at g3
                  obtain ⟨alj, alp, aliv, alcv⟩ := al
                  simp only at hp
                  subst hp
                  exact fin T O X _ hx2 g3 (fun _ h => h)
                · obtain ⟨bs', bsR, p1, p2⟩ := hfo.val hl' hv'
                  exact fin _ _ _ _ hx2 p2 (fun b hb => p1.mem_iff.2 (List.mem_append_left _ hb))
              split at q2
              · rename_i T O X hroot; exact go false T O X hroot (Option.some.inj q2)
              · rename_i T O X hroot; exact go true T O X hroot (Option.some.inj q2)
              · cases q2
            · refine ⟨e0, ⟨hl0.1, hl0.2.1, fun _ => by show (E.at al.j).cv ≤ e0.cv; rw [he0]; exact Nat.le_refl _⟩, fun _ _ _ => ⟨cs, hv, hr⟩⟩
          · rw [q1] at hs hal
            obtain ⟨e0, hl0, hk0⟩ := hal
            have he0 := at_of hl0.1
            rw [q2] at hx
            simp only [rd] at hx
            cases hok : (al.okC E && !(E.at al.j).s.isHole) with
            | false => rw [hok] at hx; cases hx
            | true =>
              simp only [Al.okC, he0, Bool.and_eq_true, beq_iff_eq, Bool.not_eq_true'] at hok
              obtain ⟨cs0, r1, r2⟩ := hk0 hok.1.1 hok.1.2 hok.2
              exact ⟨_, hs, good_cut_slice htab hop h hN hf h1 h2 h3 hc2 (Q := fun b => Pr b ∨ b ∈ B al.j) ⟨cs0, r1, r2⟩ (fun N v cs hB hv hr => ⟨e0, hl0, fun _ _ _ => ⟨cs, hv, hr⟩⟩)⟩
          · rw [q1] at hs; cases hs
      · cases hs
    · cases hs
  · -- fieldAddr
    rename_i tid x n hop
    split at hs
    · cases hs
    · rename_i t hl
      cases hm : memN cx.arrs tid with
      | true => rw [hm] at hl; cases hl
      | false =>
        rw [hm] at hl
        simp only [cond_false] at hl
        have hrun : getT (fpath n) t ≠ .unit → ∀ ad, a.eval x = .pointer (some ad) → (execOp a.eval o).run P w = .ok (.value (.pointer (some (ad.add (lrShift (fpath n) t))))) w := fun hn ad had => by
          simp [execOp, hop, had, run_fieldAt (w := w) htab hl hn (struct_of htab harr hl hm (agg_field hn))]
        split at hs
        · rename_i t' y hb
          split at hs
          · rename_i y2 hcast
            obtain ⟨rfl, rfl⟩ := castTy_some hcast
            cases hu : !(getT (fpath n) t').isUnit with
            | false => rw [hu] at hs; cases hs
            | true => rw [hu] at hs; exact ⟨_, hs, (place_step h hN hf hu (hrun (isUnit_false hu))).1 _ hb⟩
          · cases hs
        · split at hs
          · rename_i al hp
            split at hs
            · rename_i t' o' z hr
              cases hc : (getT al.p t' == t) && (!(getT (fpath n) t).isUnit && !isNil al.p) with
              | false => rw [hc] at hs; cases hs
              | true =>
                rw [hc] at hs
                rw [Bool.and_eq_true, Bool.and_eq_true] at hc
                exact ⟨_, hs, (place_step h hN hf hc.2.1 (hrun (isUnit_false hc.2.1))).2.1 al hp false t' o' z hr hc.1 (.inr (isNil_false.1 (by simpa using hc.2.2)))⟩
            · rename_i t' o' z hr
              cases hc : (getT al.p t' == t) && !(getT (fpath n) t).isUnit with
              | false => rw [hc] at hs; cases hs
              | true =>
                rw [hc] at hs
                rw [Bool.and_eq_true] at hc
                exact ⟨_, hs, (place_step h hN hf hc.2 (hrun (isUnit_false hc.2))).2.1 al hp true t' o' z hr hc.1 (.inl rfl)⟩
            · rename_i iV t' o' z p hr
              cases hc : (getT al.p t' == t) && !(getT (fpath n) t).isUnit with
              | false => rw [hc] at hs; cases hs
              | true =>
                rw [hc] at hs
                rw [Bool.and_eq_true] at hc
                simp only [cond_true] at hs
                cases hc2 : (isNil al.p && iV) || (!isNil al.p && preLr al.p p) with
                | false => rw [hc2] at hs; cases hs
                | true =>
                  rw [hc2] at hs
                  exact ⟨_, hs, (place_step h hN hf hc.2 (hrun (isUnit_false hc.2))).2.2 al hp iV t' o' z p hr hc.1 hc2⟩
            · cases hs
          · cases hs
  · -- nilCheck
    rename_i x hop
    split at hs
    · rename_i al hp
      obtain ⟨hA, hok⟩ := place_ok h (opd_ok h hf x) hp
      have fin : ∀ {iV : Bool} {t' : Ty} {o' : Ow} {z : PV t'}, (E.at al.j).s = (if iV then .var t' o' z else .val t' o' z) → (iV = true ∨ al.p ≠ []) → OpGood w0 Pr0 M P E V w a o (.addr al, []) := by
        intro iV t' o' z hr hnn
        obtain ⟨vj, loc, _, _, _, _, _, _, q7⟩ := addr_root h hA hok hr hnn
        refine ⟨.value (a.eval x), w, a.eval x, ?_, .inl rfl, rfl, hand_same h hN fun N hB => hA⟩
        simp [execOp, hop, q7, ptr]
      split at hs
      · rename_i t' o' z hr
        cases hn : isNil al.p with
        | true => rw [hn] at hs; cases hs
        | false => rw [hn] at hs; exact ⟨_, hs, fin (iV := false) hr (.inr (isNil_false.1 hn))⟩
      · rename_i t' o' z hr
        exact ⟨_, hs, fin (iV := true) hr (.inl rfl)⟩
      · rename_i iV t' o' z p hr
        cases hc : !isNil al.p && preLr al.p p with
        | false => rw [hc] at hs; cases hs
        | true =>
          rw [hc] at hs
          rw [Bool.and_eq_true] at hc
          refine ⟨_, hs, ?_⟩
          have hnn := isNil_false.1 (by simpa using hc.1)
          have hA' := hA
          obtain ⟨e, vj, hl, hv, hk⟩ := hA'
          have he := at_of hl.1
          rw [he] at hr
          simp only [Al.okA, he, Bool.and_eq_true, beq_iff_eq, Bool.or_eq_true] at hok
          have hcv : e.cv = al.cv := by
            rcases hok.2 with h | h
            · exact h
            · exact absurd (isNil_iff.1 h) hnn
          have hAt := (hk hok.1).2 hnn hcv
          rw [hr] at hAt
          obtain ⟨s, hs1, hs2⟩ := preLr_ok hc.2
          obtain ⟨loc, _, q7⟩ := hAt s hs1 hs2
          refine ⟨.value (a.eval x), w, a.eval x, ?_, .inl rfl, rfl, hand_same h hN fun N hB => hA⟩
          simp [execOp, hop, q7, ptr]
      · cases hs
    · cases hs
  · -- indexAddr
    rename_i tid x i hop
    split at hs
    · rename_i k n hi
      cases hm : memN cx.arrs tid with
      | true =>
        rw [hm] at hs
        simp only [cond_true] at hs
        split at hs
        · cases hs
        · rename_i t hl
          cases hc : decide (0 ≤ n) && !(getT (fpath n.toNat) t).isUnit with
          | false => rw [hc] at hs; cases hs
          | true =>
            rw [hc] at hs
            rw [Bool.and_eq_true, decide_eq_true_eq] at hc
            simp only [cond_true] at hs
            have hrun : ∀ ad, a.eval x = .pointer (some ad) → (execOp a.eval o).run P w = .ok (.value (.pointer (some (ad.add (lrShift (fpath n.toNat) t))))) w := fun ad had => by
              simp [execOp, hop, had, rd_int h (opd_ok h hf i) hi, run_arrAt (w := w) htab harr hl hm hc.1 (isUnit_false hc.2)]
            have hst := place_step h hN hf hc.2 hrun
            split at hs
            · rename_i t' y hb
              split at hs
              · rename_i y2 hcast
                obtain ⟨rfl, rfl⟩ := castTy_some hcast
                exact ⟨_, hs, hst.1 _ hb⟩
              · cases hs
            · split at hs
              · rename_i al hp
                split at hs
                · rename_i t' o' z hr
                  cases hc2 : (getT al.p t' == t) && !isNil al.p with
                  | false => rw [hc2] at hs; cases hs
                  | true =>
                    rw [hc2] at hs
                    rw [Bool.and_eq_true] at hc2
                    exact ⟨_, hs, hst.2.1 al hp false t' o' z hr hc2.1 (.inr (isNil_false.1 (by simpa using hc2.2)))⟩
                · rename_i t' o' z hr
                  cases hc2 : (getT al.p t' == t) with
                  | false => rw [hc2] at hs; cases hs
                  | true => rw [hc2] at hs; exact ⟨_, hs, hst.2.1 al hp true t' o' z hr hc2 (.inl rfl)⟩
                · cases hs
              · cases hs
      | false =>
        rw [hm] at hs
        simp only [cond_false] at hs
        split at hs
        · rename_i e t l hx
          split at hs
          · rename_i e2 t2 hl
            cases hc : (t2 == t) && inB n (List.length (α := PV t) l) with
            | false => rw [hc] at hs; cases hs
            | true =>
              rw [hc] at hs
              rw [Bool.and_eq_true] at hc
              obtain rfl := beq_ty hc.1
              have hsl := (slTy_of htab hl).1
              simp only [cond_true] at hs
              rcases rd_alias opd_at hx with ⟨o', q1, q2⟩ | ⟨al, q1, q2⟩ | ⟨al, q1, q2⟩ | q1
              · rw [q1] at hs
                exact ⟨_, hs, good_index_bor hop h hN hf hsl hi ⟨o', q1, q2⟩ hc.2⟩
              · rw [q1] at hs
                simp only [] at hs
                cases ho : ownsAt E al with
                | false => rw [ho] at hs; cases hs
                | true =>
                  rw [ho] at hs
                  refine ⟨_, hs, good_index_own hop h hN hf hsl hi q1 q2 hc.2 (fun t' o' x' hr => ?_)⟩
                  unfold ownsAt at ho
                  rcases hr with hr | hr <;> rw [hr] at ho <;> exact ho
              · rw [q1] at hs; cases hs
              · rw [q1] at hs; cases hs
          · cases hs
        · cases hs
    · cases hs
  · -- index
    rename_i tid x i hop
    split at hs
    · rename_i l k n hx hi
      split at hs
      · rename_i hl
        cases hc : inB n (List.length (α := UInt8) l) with
        | false => rw [hc] at hs; cases hs
        | true => rw [hc] at hs; exact ⟨_, hs, good_index_str htab hop h hN hf hl hx hi hc⟩
      · cases hs
    · rename_i t y k n _ hx hi
      cases hm : memN cx.arrs tid with
      | false => rw [hm] at hs; cases hs
      | true =>
        rw [hm] at hs
        simp only [cond_true] at hs
        split at hs
        · cases hs
        · rename_i t' hl
          split at hs
          · rename_i y2 hcast
            obtain ⟨rfl, rfl⟩ := castTy_some hcast
            cases hc : decide (0 ≤ n) && (!(getT (fpath n.toNat) t).isUnit && noSl (getT (fpath n.toNat) t)) with
            | false => rw [hc] at hs; cases hs
            | true =>
              rw [hc] at hs
              rw [Bool.and_eq_true, Bool.and_eq_true, decide_eq_true_eq] at hc
              obtain ⟨c0, c1, c2⟩ := hc
              have hn := isUnit_false c1
              obtain ⟨cs, hv, hr⟩ := rd_ok h (opd_ok h hf x) hx
              obtain ⟨d0, d1, d2, rfl, e1, e2⟩ := rep_field hn hr
              have hag := agg_field hn
              refine ⟨_, hs, .value (pack (getT (fpath n.toNat) t) d1), w, _, ?_, .inl rfl, rfl, hand_same h hN fun N hB => slotOk_sv hB ⟨d1, rfl, e2.plain c2⟩⟩
              have := run_arrIndex (P := P) (w := w) htab harr hl hm (k := k) c0 hn (c2 := d2) e1 e2.length
              simp [execOp, hop, rd_int h (opd_ok h hf i) hi, hv, pack, hag] at this ⊢
              simp [this]
          · cases hs
    · cases hs
  · -- extract
    rename_i x i hop
    split at hs
    · rename_i k l hx
      split at hs
      · rename_i v hi
        cases hu : v.t.isUnit with
        | true => rw [hu] at hs; cases hs
        | false =>
          rw [hu] at hs
          exact ⟨_, hs, good_extract hop h hN hf hx hi (by intro e; rw [e] at hu; cases hu)⟩
      · cases hs
    · cases hs
  · -- call
    rename_i c hop
    split at hs
    · rename_i x hc hargs
      have hargs' : c.args = #[x] := by apply Array.ext'; exact hargs
      split at hs
      · rename_i tid htl
        have h0 : c.argTypes[0]? = some tid := by
          have : c.argTypes = #[tid] := by apply Array.ext'; exact htl
          rw [this]; rfl
        split at hs
        · rename_i l hl hx
          exact ⟨_, hs, good_len htab hop hc hargs' h hN hf ⟨tid, h0, .inl ⟨hl, l, hx, rfl⟩⟩⟩
        · rename_i e t e' t' l hl hx
          exact ⟨_, hs, good_len htab hop hc hargs' h hN hf ⟨tid, h0, .inr ⟨e, t, e', t', hl, l, hx, rfl⟩⟩⟩
        · cases hs
      · cases hs
    · rename_i x y hc hargs
      have hargs' : c.args = #[x, y] := by apply Array.ext'; exact hargs
      split at hs
      · rename_i k m k' n hx hy
        cases hk : (k == k') with
        | false => rw [hk] at hs; cases hs
        | true =>
          rw [hk] at hs
          obtain rfl := beq_iff_eq.1 hk
          exact ⟨_, hs, good_max hop hc hargs' h hN hf hx hy⟩
      · cases hs
    · rename_i x y hc hargs
      have hargs' : c.args = #[x, y] := by apply Array.ext'; exact hargs
      split at hs
      · rename_i k m k' n hx hy
        cases hk : (k == k') with
        | false => rw [hk] at hs; cases hs
        | true =>
          rw [hk] at hs
          obtain rfl := beq_iff_eq.1 hk
          exact ⟨_, hs, good_min hop hc hargs' h hN hf hx hy⟩
      · cases hs
    · rename_i x y hc hargs
      have hargs' : c.args = #[x, y] := by apply Array.ext'; exact hargs
      cases hty : (c.argTypes.size == 2 && (c.argTypes.getD 0 0 == c.argTypes.getD 1 0)) with
      | false => rw [hty] at hs; cases hs
      | true =>
        rw [hty] at hs
        simp only [Bool.and_eq_true, beq_iff_eq] at hty
        have htys : c.argTypes = #[c.argTypes.getD 0 0, c.argTypes.getD 0 0] := by
          apply Array.ext
          · simp [hty.1]
          · intro i h1 h2
            simp at h2
            have : i = 0 ∨ i = 1 := by omega
            rcases this with rfl | rfl
            · simp [Array.getD, hty.1]
            · have := hty.2
              simp [Array.getD, hty.1] at this ⊢
              exact this.symm
        simp only [cond_true] at hs
        split at hs
        · rename_i e0 t0 e t ow xs us hl htk
          cases hc2 : (Ty.slice e0 t0 == Ty.slice e t) with
          | false => rw [hc2] at hs; cases hs
          | true =>
            rw [hc2] at hs
            simp only [cond_true] at hs
            obtain ⟨rfl, rfl⟩ : e0 = e ∧ t0 = t := by have := beq_ty hc2; injection this with a b; exact ⟨a, b⟩
            cases hns : noSl t0 with
            | true =>
              rw [hns] at hs
              simp only [cond_true] at hs
              split at hs
              · rename_i t'' ys hy
                split at hs
                · rename_i ys2 hcast
                  obtain ⟨rfl, rfl⟩ := castTy_some hcast
                  cases hroom : roomB (List.length (α := PV t0) xs + List.length (α := PV t0) ys2) with
                  | false => simp only [hroom] at hs; cases hs
                  | true => simp only [hroom, cond_true] at hs; exact ⟨_, hs, good_append htab hop hc hargs' htys h hN hf hl hns htk hy hroom⟩
                · cases hs
              · cases hs
            | false =>
              rw [hns] at hs
              simp only [cond_false] at hs
              split at hs
              · rename_i ty oy ys us' hy
                split at hs
                · rename_i ys2 hcast
                  obtain ⟨rfl, rfl⟩ := castTy_some hcast
                  cases hroom : roomB (List.length (α := PV t0) xs + List.length (α := PV t0) ys2) with
                  | false => simp only [hroom] at hs; cases hs
                  | true => simp only [hroom, cond_true] at hs; exact ⟨_, hs, good_append_own htab hop hc hargs' htys h hN hf hl htk hy hroom⟩
                · cases hs
              · cases hs
        · cases hs
    · cases hs
  · cases hs

end
end Go.Dn
