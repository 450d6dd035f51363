/- Operations, fourth part: places of fields and elements. -/
import Derived.Test.YtegfhigkmghmjaaDoorDl
namespace Go.Dn

theorem okPath_append : ∀ {p q : List PE} {t : Ty} {o : Ow} {x : PV t}, OkPath p t o x → OkPath q (getT p t) (getO p o) (get p t x) → OkPath (p ++ q) t o x
  | [], _, _, _, _, _, h => h
  | .l :: p, q, .pair a _, o, x, h, h' => okPath_append (p := p) (t := a) (x := x.1) h h'
  | .r :: p, q, .pair _ b, o, x, h, h' => okPath_append (p := p) (t := b) (x := x.2) h h'
  | .ix n :: p, q, .slice _ t, .row oe, xs, h, h' => ⟨h.1, okPath_append (p := p) (t := t) h.2 h'⟩
  | .l :: _, _, .int _, _, _, h, _ | .l :: _, _, .bool, _, _, h, _ | .l :: _, _, .str, _, _, h, _ | .l :: _, _, .unit, _, _, h, _ | .l :: _, _, .slice _ _, _, _, h, _ => by simp [OkPath] at h
  | .r :: _, _, .int _, _, _, h, _ | .r :: _, _, .bool, _, _, h, _ | .r :: _, _, .str, _, _, h, _ | .r :: _, _, .unit, _, _, h, _ | .r :: _, _, .slice _ _, _, _, h, _ => by simp [OkPath] at h
  | .ix _ :: _, _, .int _, _, _, h, _ | .ix _ :: _, _, .bool, _, _, h, _ | .ix _ :: _, _, .str, _, _, h, _ | .ix _ :: _, _, .unit, _, _, h, _ | .ix _ :: _, _, .pair _ _, _, _, h, _
  | .ix _ :: _, _, .slice _ _, .b, _, h, _ | .ix _ :: _, _, .slice _ _, .pr _ _, _, h, _ => by simp [OkPath] at h

theorem isUnit_false {t : Ty} (h : (!t.isUnit) = true) : t ≠ .unit := by rintro rfl; simp [Ty.isUnit] at h

theorem okPath_fpath : ∀ {n : Nat} {t : Ty} {o : Ow} {x : PV t}, getT (fpath n) t ≠ .unit → OkPath (fpath n) t o x
  | 0, .pair a _, _, _, _ => trivial
  | n + 1, .pair _ b, o, x, h => okPath_fpath (n := n) (t := b) (x := x.2) h
  | 0, .int _, _, _, h | 0, .bool, _, _, h | 0, .str, _, _, h | 0, .unit, _, _, h | 0, .slice _ _, _, _, h => absurd rfl h
  | _ + 1, .int _, _, _, h | _ + 1, .bool, _, _, h | _ + 1, .str, _, _, h | _ + 1, .unit, _, _, h | _ + 1, .slice _ _, _, _, h => absurd rfl h

theorem locate_fpath (w : World) : ∀ {n : Nat} {t : Ty} {b off : Nat}, getT (fpath n) t ≠ .unit → locate w (fpath n) t b off = some (b, off + lrShift (fpath n) t)
  | 0, .pair a _, b, off, _ => by simp [fpath, locate, lrShift]
  | n + 1, .pair a c, b, off, h => by
    show locate w (fpath n) c b (off + a.size) = _
    rw [locate_fpath w (n := n) (t := c) h]
    show _ = some (b, off + (a.size + lrShift (fpath n) c))
    rw [Nat.add_assoc]
  | 0, .int _, _, _, h | 0, .bool, _, _, h | 0, .str, _, _, h | 0, .unit, _, _, h | 0, .slice _ _, _, _, h => absurd rfl h
  | _ + 1, .int _, _, _, h | _ + 1, .bool, _, _, h | _ + 1, .str, _, _, h | _ + 1, .unit, _, _, h | _ + 1, .slice _ _, _, _, h => absurd rfl h

theorem lrOnly_fpath : ∀ (n : Nat), lrOnly (fpath n) = true
  | 0 => rfl
  | n + 1 => lrOnly_fpath n

theorem lrOnly_append : ∀ {p q : List PE}, lrOnly p = true → lrOnly q = true → lrOnly (p ++ q) = true
  | [], _, _, h => h
  | .l :: p, _, h, h' => lrOnly_append (p := p) h h'
  | .r :: p, _, h, h' => lrOnly_append (p := p) h h'
  | .ix _ :: _, _, h, _ => by simp [lrOnly] at h

theorem preLr_ok : ∀ {q p : List PE}, preLr q p = true → ∃ s, p = q ++ s ∧ lrOnly s = true
  | [], p, h => ⟨p, rfl, h⟩
  | .l :: q, .l :: p, h => by obtain ⟨s, rfl, hs⟩ := preLr_ok (q := q) (p := p) h; exact ⟨s, rfl, hs⟩
  | .r :: q, .r :: p, h => by obtain ⟨s, rfl, hs⟩ := preLr_ok (q := q) (p := p) h; exact ⟨s, rfl, hs⟩
  | .ix n :: q, .ix m :: p, h => by
    simp only [preLr, Bool.and_eq_true, beq_iff_eq] at h
    obtain ⟨s, rfl, hs⟩ := preLr_ok h.2
    exact ⟨s, by rw [h.1]; rfl, hs⟩
  | .l :: _, [], h | .r :: _, [], h | .ix _ :: _, [], h => by simp [preLr] at h
  | .l :: _, .r :: _, h | .l :: _, .ix _ :: _, h | .r :: _, .l :: _, h | .r :: _, .ix _ :: _, h | .ix _ :: _, .l :: _, h | .ix _ :: _, .r :: _, h => by simp [preLr] at h

theorem fieldsOk_get {tab : List (TypeId × Ty)} : ∀ {fs : List Field} {o n : Nat} {t : Ty}, fieldsOk tab fs o t = true → getT (fpath n) t ≠ .unit →
    ∃ f, fs[n]? = some f ∧ lookup tab f.type = some (getT (fpath n) t) ∧ f.offset = o + lrShift (fpath n) t ∧ (getT (fpath n) t).size ≠ 0
  | f :: fs, o, 0, .pair a b, h, _ => by
    simp only [fieldsOk, Bool.and_eq_true, beq_iff_eq, Bool.not_eq_true', beq_eq_false_iff_ne] at h
    exact ⟨f, rfl, h.1.1.1, by simp [fpath, lrShift, h.1.1.2], h.1.2⟩
  | f :: fs, o, n + 1, .pair a b, h, hn => by
    simp only [fieldsOk, Bool.and_eq_true, beq_iff_eq] at h
    obtain ⟨g, h1, h2, h3, h4⟩ := fieldsOk_get (n := n) (t := b) h.2 hn
    refine ⟨g, h1, h2, ?_, h4⟩
    rw [h3]; show _ = o + (a.size + _); rw [Nat.add_assoc]
  | [], _, _, .pair _ _, h, _ => by simp [fieldsOk] at h
  | _, _, 0, .int _, _, hn | _, _, 0, .bool, _, hn | _, _, 0, .str, _, hn | _, _, 0, .unit, _, hn | _, _, 0, .slice _ _, _, hn => absurd rfl hn
  | _, _, _ + 1, .int _, _, hn | _, _, _ + 1, .bool, _, hn | _, _, _ + 1, .str, _, hn | _, _, _ + 1, .unit, _, hn | _, _, _ + 1, .slice _ _, _, hn => absurd rfl hn

section
variable {w0 : World} {Pr0 M : Nat → Prop}
variable {P : Program} {cx : Cx} {E : Env} {V : List Value} {w w' : World} {Pr : Nat → Prop} {B : Nat → List Nat} {off : Nat} {a : Act}

/-- The machine's step to a field. -/
theorem run_fieldAt (htab : TabOk P cx.tab) {tid : TypeId} {t : Ty} (hl : lookup cx.tab tid = some t) {n : Nat} (hn : getT (fpath n) t ≠ .unit) (hs : ∃ d fs, P.underlying tid = some d ∧ d = .struct fs)
    (ad : Addr) : (Instr.fieldAt tid (.pointer (some ad)) n).run P w = .ok (.pointer (some (ad.add (lrShift (fpath n) t)))) w := by
  obtain ⟨d, fs, hd, rfl⟩ := hs
  obtain ⟨d', hd', hfit⟩ := (tab_fact htab hl).und
  rw [hd] at hd'
  obtain rfl := Option.some.inj hd'
  have hfo : fieldsOk cx.tab fs.toList 0 t = true := by
    cases t <;> simp [fits, Ty.agg] at hfit ⊢ <;> exact hfit
  obtain ⟨f, g1, g2, g3, g4⟩ := fieldsOk_get (n := n) hfo hn
  have g1' : fs[n]? = some f := by simpa using g1
  simp only [Instr.fieldAt, Sem.run_bind, run_underlying hd, Result.andThen_ok, g1']
  simp [Instr.sureAddr, fieldPlace, run_sizeOf (P := P) (w := w) (tab_fact htab g2), g4, g3]

theorem add_ptr (b off n : Nat) : (⟨b, off, none⟩ : Addr).add n = ⟨b, off + n, none⟩ := by unfold Addr.add; split <;> simp_all

/-- A field's place. -/
theorem good_fieldAddr {o : Oper} {x : Operand} {n : Nat} {al : Al} {t : Ty} (hrun : ∀ ad, a.eval x = .pointer (some ad) → (execOp a.eval o).run P w = .ok (.value (.pointer (some (ad.add (lrShift (fpath n) t))))) w) (h : StB w0 Pr0 M E V w Pr B)
    (hN : ∀ k, E.length ≤ k → B k = []) (hf : Fr off V a) (hn : getT (fpath n) t ≠ .unit)
    (hp : place E (opd E off x) = some al)
    (hs : (∃ (iV : Bool) (t' : Ty) (o' : Ow) (z : PV t'), (E.at al.j).s = (if iV then .var t' o' z else .val t' o' z) ∧ getT al.p t' = t ∧ (iV = true ∨ al.p ≠ [])) ∨
      (∃ (iV : Bool) (t' : Ty) (o' : Ow) (z : PV t') (p : List PE), (E.at al.j).s = .hole iV t' o' z p ∧ getT al.p t' = t ∧ ((al.p = [] ∧ iV = true) ∨ (al.p ≠ [] ∧ ∃ s, p = al.p ++ s ∧ lrOnly s = true)))) :
    OpGood w0 Pr0 M P E V w a o (.addr ⟨al.j, al.p ++ fpath n, al.iv, (E.at al.j).cv⟩, []) := by
  obtain ⟨hA, hok⟩ := place_ok h (opd_ok h hf x) hp
  have hiv : (E.at al.j).iv = al.iv := by simp only [Al.okA, Bool.and_eq_true, beq_iff_eq] at hok; exact hok.1
  rcases hs with ⟨iV, t', o', z, hs, ht, hnn⟩ | ⟨iV, t', o', z, p, hs, ht, hh⟩
  · obtain ⟨vj, loc, q1, q2, q3, q4, q5, q6, q7⟩ := addr_root h hA hok hs hnn
    refine ⟨.value (ptr (loc.1, loc.2 + lrShift (fpath n) t)), w, _, ?_, .inl rfl, rfl, hand_same h hN fun N hB => ?_⟩
    · have := hrun ⟨loc.1, loc.2, none⟩ q7
      rw [add_ptr] at this
      exact this
    · refine ⟨E.at al.j, vj, ⟨q2, by rw [hiv]; exact Nat.le_refl _, fun _ => Nat.le_refl _⟩, q1, fun _ => ⟨fun hpn => ?_, fun _ _ => ?_⟩⟩
      · have hpn' : al.p ++ fpath n = [] := hpn
        simp only [List.append_eq_nil_iff] at hpn'
        cases n <;> simp [fpath] at hpn'
      · have hl2 : locOf w iV t' vj (al.p ++ fpath n) = some (loc.1, loc.2 + lrShift (fpath n) t) := by
          rw [locOf_append _ _ _ _ _ _ hnn, q6]
          simp only [Option.bind_some, ht]
          exact locate_fpath w hn
        have hpath : OkPath (al.p ++ fpath n) t' o' z := okPath_append q4 (okPath_fpath (by rw [ht]; exact hn))
        rw [hs]
        cases iV with
        | true => exact ⟨hpath, _, hl2, rfl⟩
        | false => exact ⟨hpath, _, hl2, rfl⟩
  · obtain ⟨e, vj, hlv, hv, hk⟩ := hA
    have he := at_of hlv.1
    rw [he] at hs hiv
    have hso := h.slots al.j e vj hlv.1 hv
    rw [hs] at hso
    obtain ⟨b', off', cs', h1, h2, h3, h4, h5, h6, h7⟩ := hso
    obtain ⟨k1, k2⟩ := hk hiv
    have hloc : ∃ loc, a.eval x = ptr loc ∧ locOf w iV t' vj al.p = some loc := by
      rcases hh with ⟨hnil, rfl⟩ | ⟨hnn, s, hps, hls⟩
      · -- a variable's own pointer
        have : ∃ b, vj = .pointer (some ⟨b, 0, none⟩) := by
          cases vj <;> simp only [locOf] at h1 <;> try (cases h1; done)
          rename_i A
          cases A with
          | none => cases h1
          | some A =>
            obtain ⟨b, n, sp⟩ := A
            cases n <;> cases sp <;> simp only [] at h1 <;> first | exact ⟨b, rfl⟩ | (cases h1; done)
        obtain ⟨b, rfl⟩ := this
        exact ⟨(b, 0), k1 hnil, by rw [hnil]; rfl⟩
      · have hcv : e.cv = al.cv := by
          simp only [Al.okA, he, Bool.and_eq_true, beq_iff_eq, Bool.or_eq_true] at hok
          rcases hok.2 with hc | hn
          · exact hc
          · cases hap : al.p with
            | nil => exact absurd hap hnn
            | cons _ _ => rw [hap] at hn; simp [isNil] at hn
        have hA := k2 hnn hcv
        rw [hs] at hA
        obtain ⟨loc, r1, r2⟩ := hA s hps hls
        exact ⟨loc, r2, r1⟩
    obtain ⟨loc, q7, q6⟩ := hloc
    have hnn : iV = true ∨ al.p ≠ [] := hh.imp (fun q => q.2) (fun q => q.1)
    refine ⟨.value (ptr (loc.1, loc.2 + lrShift (fpath n) t)), w, _, ?_, .inl rfl, rfl, hand_same h hN fun N hB => ?_⟩
    · have := hrun ⟨loc.1, loc.2, none⟩ q7
      rw [add_ptr] at this
      exact this
    · refine ⟨e, vj, ⟨hlv.1, by show al.iv ≤ e.iv; omega, fun _ => by show (E.at al.j).cv ≤ e.cv; rw [he]; exact Nat.le_refl _⟩, hv, fun _ => ⟨fun hpn => ?_, fun _ _ => ?_⟩⟩
      · have hpn' : al.p ++ fpath n = [] := hpn
        simp only [List.append_eq_nil_iff] at hpn'
        cases n <;> simp [fpath] at hpn'
      · rw [hs]
        intro s hps hls
        refine ⟨(loc.1, loc.2 + lrShift (fpath n) t), ?_, rfl⟩
        show locOf w iV t' vj (al.p ++ fpath n) = _
        rw [locOf_append _ _ _ _ _ _ hnn, q6]
        simp only [Option.bind_some, ht]
        exact locate_fpath w hn

end
end Go.Dn
