/- Operations, fifth part: what is borrowed; elements; parts of slices and strings; lengths. -/
import Derived.Test.YtegfhigkmghmjaaDoorDm
namespace Go.Dn

section
variable {w0 : World} {Pr0 M : Nat → Prop}
variable {P : Program} {cx : Cx} {E : Env} {V : List Value} {w w' : World} {Pr : Nat → Prop} {B : Nat → List Nat} {off : Nat} {a : Act}

theorem Cells.sub {ad : Addr} {c0 c c2 : List Value} (h : Cells w ad (c0 ++ c ++ c2)) : Cells w (ad.add c0.length) c := by
  intro j u hu
  have hj := (List.getElem?_eq_some_iff.1 hu).1
  have := h (c0.length + j) u (by rw [List.append_assoc, List.getElem?_append_right (by omega), Nat.add_sub_cancel_left, List.getElem?_append_left hj]; exact hu)
  rwa [show (ad.add c0.length).add j = ad.add (c0.length + j) by
    unfold Addr.add
    by_cases h1 : c0.length = 0 <;> by_cases h2 : j = 0 <;> simp [h1, h2, Nat.add_assoc]]

theorem add_block (ad : Addr) (n : Nat) : (ad.add n).block = ad.block := by unfold Addr.add; split <;> rfl

theorem rep_field : ∀ {n : Nat} {t : Ty} {cs : List Value} {x : PV t}, getT (fpath n) t ≠ .unit → Rep w Pr t .b cs x [] →
    ∃ c0 c c2, cs = c0 ++ c ++ c2 ∧ c0.length = lrShift (fpath n) t ∧ Rep w Pr (getT (fpath n) t) .b c (get (fpath n) t x) []
  | 0, .pair a b, cs, x, _, h => by
    obtain ⟨c1, c2, b1, b2, rfl, e2, h1, h2⟩ := h
    have : b1 ++ b2 = [] := List.perm_nil.1 e2.symm
    simp only [List.append_eq_nil_iff] at this
    obtain ⟨rfl, rfl⟩ := this
    exact ⟨[], c1, c2, rfl, rfl, h1⟩
  | n + 1, .pair a b, cs, x, hn, h => by
    obtain ⟨c1, c2, b1, b2, rfl, e2, h1, h2⟩ := h
    have : b1 ++ b2 = [] := List.perm_nil.1 e2.symm
    simp only [List.append_eq_nil_iff] at this
    obtain ⟨rfl, rfl⟩ := this
    obtain ⟨d0, d, d2, rfl, hl, hr⟩ := rep_field (n := n) (t := b) hn h2
    exact ⟨c1 ++ d0, d, d2, by simp, by rw [List.length_append, h1.length, hl]; rfl, hr⟩
  | 0, .int _, _, _, hn, _ | 0, .bool, _, _, hn, _ | 0, .str, _, _, hn, _ | 0, .unit, _, _, hn, _ | 0, .slice _ _, _, _, hn, _ => absurd rfl hn
  | _ + 1, .int _, _, _, hn, _ | _ + 1, .bool, _, _, hn, _ | _ + 1, .str, _, _, hn, _ | _ + 1, .unit, _, _, hn, _ | _ + 1, .slice _ _, _, _, hn, _ => absurd rfl hn

theorem bad_of (h : StB w0 Pr0 M E V w Pr B) {x : Operand} (hf : Fr off V a) {t : Ty} {y : PV t} (hs : (opd E off x).s = .bad t y) : BadOk w Pr t y (a.eval x) := by
  have ho := opd_ok h hf x
  cases hix : (opd E off x).ix with
  | none => unfold OpdOk at ho; rw [hix, hs] at ho; exact ho.elim
  | some k => have := opdOk_tmp h ho hix; rw [hs] at this; exact this

theorem good_load_bad (htab : TabOk P cx.tab) {o : Oper} {tid : TypeId} {x : Operand} {t : Ty} {y : PV t} (hop : o.op = .load tid x) (h : StB w0 Pr0 M E V w Pr B) (hN : ∀ k, E.length ≤ k → B k = []) (hf : Fr off V a)
    (hl : lookup cx.tab tid = some t) (hs : (opd E off x).s = .bad t y) : OpGood w0 Pr0 M P E V w a o (.val t .b y, []) := by
  obtain ⟨ad, cs, h1, h2, h3, h4⟩ := bad_of h hf hs
  refine ⟨.value (pack t cs), w, _, ?_, .inl rfl, rfl, hand_same h hN fun N hB => ?_⟩
  · simp [execOp, hop, h1, run_loadAt (P := P) (tab_fact htab hl) h3 h4.length]
  · show ValOk _ _ _ _ _ _ _
    rw [hB]; exact ⟨cs, rfl, h4⟩

theorem good_field_bad {o : Oper} {x : Operand} {n : Nat} {t : Ty} {y : PV t} (hrun : ∀ ad, a.eval x = .pointer (some ad) → (execOp a.eval o).run P w = .ok (.value (.pointer (some (ad.add (lrShift (fpath n) t))))) w) (h : StB w0 Pr0 M E V w Pr B) (hN : ∀ k, E.length ≤ k → B k = []) (hf : Fr off V a)
    (hn : getT (fpath n) t ≠ .unit) (hs : (opd E off x).s = .bad t y) :
    OpGood w0 Pr0 M P E V w a o (.bad (getT (fpath n) t) (get (fpath n) t y), []) := by
  obtain ⟨ad, cs, h1, h2, h3, h4⟩ := bad_of h hf hs
  obtain ⟨c0, c, c2, rfl, g1, g2⟩ := rep_field hn h4
  refine ⟨.value (.pointer (some (ad.add (lrShift (fpath n) t)))), w, _, ?_, .inl rfl, rfl, hand_same h hN fun N hB => ?_⟩
  · exact hrun ad h1
  · exact ⟨_, c, rfl, by rw [add_block]; exact h2, by rw [← g1]; exact h3.sub, g2⟩

theorem fits_slice {d : TypeDesc} {e : TypeId} {t : Ty} {tab : List (TypeId × Ty)} (h : fits tab d (.slice e t) = true) : d = .slice e ∧ lookup tab e = some t ∧ t.size ≠ 0 := by
  cases d <;> first | (simp [fits, Ty.agg] at h; done) | skip
  simp only [fits, Bool.and_eq_true, beq_iff_eq, Bool.not_eq_true', beq_eq_false_iff_ne] at h
  exact ⟨by rw [h.1.1], by rw [← h.1.1]; exact h.1.2, h.2⟩

/-- The element of a slice that the operand's type names. -/
def SlTy (P : Program) (cx : Cx) (tid : TypeId) (t : Ty) : Prop := ∃ e, P.underlying tid = some (.slice e) ∧ TyFact P cx.tab e t

theorem run_indexAt {tid : TypeId} {t : Ty} (hs : SlTy P cx tid t) {k : IntKind} {n : Int} {A : Option Addr} {len c : Nat} {ad : Addr} (hA : A = some ad) (h0 : 0 ≤ n) (h1 : n < len) :
    (Instr.indexAt tid (.slice A len c) (.int k n)).run P w = .ok (.pointer (some (ad.add (n.toNat * t.size)))) w := by
  obtain ⟨e, hu, hf⟩ := hs
  subst hA
  simp [Instr.indexAt, asIntOf, run_underlying hu, h0, h1, run_sizeOf hf]

theorem inB_iff {n : Int} {l : Nat} (h : inB n l = true) : 0 ≤ n ∧ n < (l : Int) ∧ n.toNat < l := by
  simp only [inB, Bool.and_eq_true, decide_eq_true_eq] at h
  omega

theorem good_index_bor {o : Oper} {tid : TypeId} {x i : Operand} {e : TypeId} {t : Ty} {xs : List (PV t)} {k : IntKind} {n : Int} (hop : o.op = .indexAddr tid x i) (h : StB w0 Pr0 M E V w Pr B)
    (hN : ∀ k, E.length ≤ k → B k = []) (hf : Fr off V a) (hst : SlTy P cx tid t) (hi : rd E (opd E off i).s = some ⟨.int k, n⟩) (hx : ∃ o', alias E (opd E off x) = .val (.slice e t) o' xs ∧ owns (.slice e t) o' = false)
    (hn : inB n xs.length = true) : OpGood w0 Pr0 M P E V w a o (.bad t (xs.getD n.toNat (dflt t)), []) := by
  obtain ⟨o', hx, hown⟩ := hx
  obtain ⟨h0, h1, h2⟩ := inB_iff hn
  have hal := alias_ok h (opd_ok h hf x) (N := E.length) (hN _ (Nat.le_refl _))
  rw [hx] at hal
  have hal : ValOk w Pr (a.eval x) (.slice e t) o' xs (B E.length) := hal
  obtain ⟨cs, hv, hr⟩ := ValOk.nowns hown hal
  obtain ⟨_, A, c, rfl, hc, hb⟩ := rep_bor.1 hr
  rcases hb with rfl | ⟨ad, ys, hA, hpa, hcl, hl⟩
  · simp at h2
  · obtain ⟨c0, c1, c2, b, b2, rfl, s2, s3, s4, s5⟩ := hl.split n.toNat h2
    have hb0 : b = [] := by have : b ++ b2 = [] := List.perm_nil.1 s2.symm; simp only [List.append_eq_nil_iff] at this; exact this.1
    subst hb0
    have hc0 : c0.length = n.toNat * t.size := s4 t.size (fun _ _ _ h => h.length)
    refine ⟨.value (.pointer (some (ad.add (n.toNat * t.size)))), w, _, ?_, .inl rfl, rfl, hand_same h hN fun N hB => ?_⟩
    · have := run_indexAt (w := w) (k := k) (len := xs.length) (c := c) hst hA h0 h1
      simp [execOp, hop, rd_int h (opd_ok h hf i) hi, hv, pack, Ty.agg, this]
    · refine ⟨_, c1, rfl, by rw [add_block]; exact hpa, by rw [← hc0]; exact hcl.sub, ?_⟩
      have : xs.getD n.toNat (dflt t) = xs[n.toNat] := by simp [List.getD, h2]
      rw [this]; exact s3

/-- The place of an element of one's own. -/
theorem good_index_own {o : Oper} {tid : TypeId} {x i : Operand} {e : TypeId} {t : Ty} {xs : List (PV t)} {k : IntKind} {n : Int} {al : Al} (hop : o.op = .indexAddr tid x i) (h : StB w0 Pr0 M E V w Pr B)
    (hN : ∀ k, E.length ≤ k → B k = []) (hf : Fr off V a) (hst : SlTy P cx tid t) (hi : rd E (opd E off i).s = some ⟨.int k, n⟩) (hx : alias E (opd E off x) = .sub al)
    (hrd : rd E (.sub al) = some ⟨.slice e t, xs⟩) (hn : inB n xs.length = true) (hown : ∀ t' o' x', ((E.at al.j).s = .val t' o' x' ∨ (E.at al.j).s = .var t' o' x') → owns (getT al.p t') (getO al.p o') = true) :
    OpGood w0 Pr0 M P E V w a o (.addr ⟨al.j, al.p ++ [.ix n.toNat], al.iv, (E.at al.j).cv⟩, []) := by
  obtain ⟨h0, h1, h2⟩ := inB_iff hn
  have hal := alias_ok h (opd_ok h hf x) (N := E.length) (hN _ (Nat.le_refl _))
  rw [hx] at hal
  have hal : SubOk w E V al (a.eval x) := hal
  simp only [rd] at hrd
  cases hok : al.okS E with
  | false => rw [hok] at hrd; simp at hrd
  | true =>
    rw [hok] at hrd
    simp only [cond_true] at hrd
    have go : ∀ (iV : Bool) (t' : Ty) (o' : Ow) (x' : PV t'), (E.at al.j).s = (if iV then .var t' o' x' else .val t' o' x') → (⟨getT al.p t', get al.p t' x'⟩ : SV) = ⟨.slice e t, xs⟩ →
        OpGood w0 Pr0 M P E V w a o (.addr ⟨al.j, al.p ++ [.ix n.toNat], al.iv, (E.at al.j).cv⟩, []) := by
      intro iV t' o' x' hroot hx2
      have hw := hown t' o' x' (by cases iV <;> simp_all)
      obtain ⟨vj, g1, g2, g3, g4⟩ := alias_root h hal hok hroot
      have hiv : (E.at al.j).iv = al.iv := by simp only [Al.okS, Bool.and_eq_true, beq_iff_eq] at hok; exact hok.1
      -- the value and what it is
      have key : ∀ (T : Ty) (O : Ow) (X : PV T), T = getT al.p t' → HEq X (get al.p t' x') → O = getO al.p o' → ∀ bs, ValOk w Pr (a.eval x) T O X bs → ∃ oe g c, O = .row oe ∧ a.eval x = .slice (some ⟨g, 0, none⟩) xs.length c := by
        intro T O X hT hX hO bs hv
        have hsig : (⟨T, X⟩ : SV) = ⟨.slice e t, xs⟩ := by
          subst hT
          obtain rfl := eq_of_heq hX
          exact hx2
        obtain ⟨rfl, hX'⟩ := Sigma.mk.inj hsig
        obtain rfl := eq_of_heq hX'
        rw [← hT, ← hO] at hw
        cases O with
        | b => simp [owns] at hw
        | pr _ _ => simp [owns] at hw
        | row oe =>
          obtain ⟨cs, hv1, hv2⟩ := hv
          obtain ⟨v, ys, b', rfl, h5, _⟩ := rep_row.1 hv2
          rcases ownsRow_form h5 with ⟨rfl, hz, _⟩ | ⟨g, c, rfl, _, _⟩
          · omega
          · exact ⟨oe, g, c, rfl, hv1⟩
      have fin : ∀ (oe : Ow) (g c : Nat), getO al.p o' = .row oe → a.eval x = .slice (some ⟨g, 0, none⟩) xs.length c → OkPath al.p t' o' x' →
          (∀ q : Ty, q = getT al.p t' → locOf w iV t' vj (al.p ++ [.ix n.toNat]) = some (g, n.toNat * t.size)) → OpGood w0 Pr0 M P E V w a o (.addr ⟨al.j, al.p ++ [.ix n.toNat], al.iv, (E.at al.j).cv⟩, []) := by
        intro oe g c hO hv hpath hloc
        have hpath2 : OkPath (al.p ++ [.ix n.toNat]) t' o' x' := by
          refine okPath_append hpath ?_
          have aux : ∀ (T : Ty) (O : Ow) (X : PV T), (⟨T, X⟩ : SV) = ⟨.slice e t, xs⟩ → O = .row oe → OkPath [.ix n.toNat] T O X := by
            intro T O X hs hO
            obtain ⟨rfl, hX⟩ := Sigma.mk.inj hs
            obtain rfl := eq_of_heq hX
            subst hO
            exact ⟨h2, trivial⟩
          exact aux _ _ _ hx2 hO
        refine ⟨.value (ptr (g, n.toNat * t.size)), w, _, ?_, .inl rfl, rfl, hand_same h hN fun N hB => ?_⟩
        · have := run_indexAt (w := w) (k := k) (A := some ⟨g, 0, none⟩) (len := xs.length) (c := c) hst rfl h0 h1
          rw [add_ptr, Nat.zero_add] at this
          simp [execOp, hop, rd_int h (opd_ok h hf i) hi, hv, ptr, this]
        · refine ⟨E.at al.j, vj, ⟨g2, by show al.iv ≤ _; omega, fun _ => Nat.le_refl _⟩, g1, fun _ => ⟨fun hpn => ?_, fun _ _ => ?_⟩⟩
          · have hpn' : al.p ++ [.ix n.toNat] = [] := hpn
            simp at hpn'
          · rw [hroot]
            cases iV with
            | true => exact ⟨hpath2, _, hloc _ rfl, rfl⟩
            | false => exact ⟨hpath2, _, hloc _ rfl, rfl⟩
      rcases g4 with ⟨rfl, hp, hvj⟩ | ⟨hnn, hpath, hfo, loc, hl, hv⟩
      · -- the whole value
        have g3 : ValOk w Pr vj t' o' x' (B al.j) := g3
        obtain ⟨alj, alp, aliv, alcv⟩ := al
        simp only at hp
        subst hp
        rw [← hvj] at g3
        obtain ⟨oe, g, c, hO, hv⟩ := key t' o' x' rfl HEq.rfl rfl _ g3
        obtain ⟨ht', _⟩ := Sigma.mk.inj hx2
        refine fin oe g c hO hv trivial (fun _ _ => ?_)
        rw [← hvj, hv]
        have : t' = .slice e t := ht'
        subst this
        rfl
      · obtain ⟨bs', bsR, p1, p2⟩ := hfo.val hl hv
        obtain ⟨oe, g, c, hO, hv'⟩ := key _ _ _ rfl HEq.rfl rfl _ p2
        refine fin oe g c hO hv' hpath (fun _ _ => ?_)
        obtain ⟨ht', _⟩ := Sigma.mk.inj hx2
        rw [locOf_append _ _ _ _ _ _ (by rcases hnn with q | q; exact .inr q; exact .inl q), hl]
        simp only [Option.bind_some]
        -- the header stands there
        obtain ⟨b', off', cs', bs2, bsR2, f1, f2, f3, f4, f5, fL, f6⟩ := hfo
        rw [hl] at f1
        obtain rfl := Option.some.inj f1
        have hcs : cs' = [.slice (some ⟨g, 0, none⟩) xs.length c] := by
          have hl1 := f3.length
          have hv2 : a.eval x = pack (getT al.p t') cs' := by rw [hv]; simp only; rw [← f3.length, f2.read]
          rw [ht'] at hl1 hv2
          simp only [Ty.size] at hl1
          obtain ⟨u, rfl⟩ := List.length_eq_one_iff.1 hl1
          simp only [pack, Ty.agg, Bool.false_eq_true, if_false, List.headD_cons] at hv2
          rw [← hv2, hv']
        subst hcs
        rw [ht']
        simp only [locate, f2.cell]
    split at hrd
    · rename_i t' o' x' hroot
      exact go false t' o' x' hroot (Option.some.inj hrd)
    · rename_i t' o' x' hroot
      exact go true t' o' x' hroot (Option.some.inj hrd)
    · cases hrd

end
end Go.Dn
