/- Operations, tenth part: structs and arrays; conversions. -/
import Derived.Test.YtegfhigkmghmjaaDoorDr
namespace Go.Dn

section
variable {w0 : World} {Pr0 M : Nat → Prop}
variable {P : Program} {cx : Cx} {E : Env} {V : List Value} {w w' : World} {Pr : Nat → Prop} {B : Nat → List Nat} {off : Nat} {a : Act}

theorem fill_cons {place : Nat → Option (Nat × Nat)} {cells : Array Value} {n o s : Nat} {v : Value} {rest : List (Nat × Value)} (hp : place n = some (o, s)) (hv : v.cells.size = s) {pre mid post : List Value}
    (hc : cells.toList = pre ++ mid ++ post) (hpre : pre.length = o) (hmid : mid.length = s) :
    Instr.fill place cells ((n, v) :: rest) = Instr.fill place (pre ++ v.cells.toList ++ post).toArray rest := by
  have hsz : cells.size = o + s + post.length := by rw [← Array.length_toList, hc]; simp [hpre, hmid]; omega
  conv => lhs; unfold Instr.fill
  simp only [hp]
  rw [if_neg (by simp only [Bool.or_eq_true, decide_eq_true_eq]; omega)]
  congr 1
  obtain ⟨g1, g2⟩ := Great.foldl_set o v.cells.toList 0 cells
  have : (v.cells.zipIdx.foldl (fun cs (x : Value × Nat) => cs.setIfInBounds (o + x.2) x.1) cells) = ((v.cells.toList.zipIdx 0).foldl (fun cs (x : Value × Nat) => cs.setIfInBounds (o + x.2) x.1) cells) := by
    rw [← Array.foldl_toList]; congr 1; simp
  rw [this]
  apply Array.ext_getElem?
  intro k
  rw [g2 k]
  have hvl : v.cells.toList.length = s := by simpa using hv
  simp only [Nat.add_zero, List.getElem?_toArray]
  by_cases h1 : k < o
  · rw [if_neg (by omega), List.append_assoc, List.getElem?_append_left (by omega), ← Array.getElem?_toList, hc, List.append_assoc, List.getElem?_append_left (by omega)]
  · by_cases h2 : k < o + s
    · rw [if_pos (by omega), List.append_assoc, List.getElem?_append_right (by omega), List.getElem?_append_left (by omega), hpre]
    · rw [if_neg (by omega), List.getElem?_append_right (by simp; omega), ← Array.getElem?_toList, hc, List.getElem?_append_right (by simp; omega)]
      congr 1
      simp only [List.length_append, hmid, hvl]

theorem asm_ok (h : StB w0 Pr0 M E V w Pr B) {place : Nat → Option (Nat × Nat)} : ∀ {t : Ty} {n N o0 : Nat} {ps : List (Nat × TV)} {vs : List Value} {o : Ow} {x : PV t} {cells : Array Value} {pre zc : List Value},
    (∀ j, getT (fpath j) t ≠ .unit → place (n + j) = some (o0 + lrShift (fpath j) t, (getT (fpath j) t).size)) → (∀ a b, t = .pair a b → a ≠ .unit) → (∀ j a b, getT (List.replicate j .r) t = .pair a b → a ≠ .unit) →
    AllH w Pr B N (ps.map (·.2)) vs → asm t n ps = some (o, x) → cells.toList = pre ++ zc → pre.length = o0 → zOk t zc = some [] →
    ∃ new bs q, Instr.fill place cells ((ps.map (·.1)).zip vs) = some (pre ++ new).toArray ∧ Rep w (fun k => Pr k ∨ k ∈ q) t o new x bs ∧ (∀ b ∈ bs ++ q, ∃ k, N ≤ k ∧ b ∈ B k) ∧ (bs ++ q).Nodup
  | .unit, n, N, o0, [], [], o, x, cells, pre, zc, hp, _, _, ha, hs, hc, hpre, hz => by
    simp only [asm, Option.some.injEq, Prod.mk.injEq] at hs
    obtain ⟨rfl, _⟩ := hs
    simp only [zOk, Option.some.injEq] at hz
    subst hz
    refine ⟨[], [], [], ?_, ⟨rfl, rfl⟩, by simp, by simp⟩
    show Instr.fill place cells [] = _
    unfold Instr.fill
    rw [← hc]
  | .pair ta tb, n, N, o0, (i, tv) :: ps, v :: vs, o, x, cells, pre, zc, hp, hu, hu2, ha, hs, hc, hpre, hz => by
    simp only [zOk, Option.bind_eq_some_iff] at hz
    obtain ⟨r1, z1, z2⟩ := hz
    obtain ⟨za, rfl, ra⟩ := zOk_rep (w := w) (Pr := Pr) z1
    have hau := hu ta tb rfl
    have hub : ∀ a b, tb = .pair a b → a ≠ .unit := fun a b hab => hu2 1 a b (by show getT [] tb = _; exact hab)
    have hub2 : ∀ j a b, getT (List.replicate j .r) tb = .pair a b → a ≠ .unit := fun j a b hab => hu2 (j + 1) a b (by rw [List.replicate_succ]; exact hab)
    have hpb : ∀ j, getT (fpath j) tb ≠ .unit → place (n + 1 + j) = some (o0 + ta.size + lrShift (fpath j) tb, (getT (fpath j) tb).size) := fun j hj => by
      have := hp (j + 1) hj
      rw [show n + 1 + j = n + (j + 1) by omega, this]
      congr 2
      show o0 + (ta.size + _) = _
      omega
    simp only [asm] at hs
    cases hin : (i == n) with
    | true =>
      rw [hin] at hs
      simp only [cond_true] at hs
      obtain rfl := beq_iff_eq.1 hin
      split at hs
      · rename_i y o2 z hcast hrest
        simp only [Option.some.injEq, Prod.mk.injEq] at hs
        obtain ⟨rfl, rfl⟩ := hs
        obtain ⟨ht, hx⟩ := castTy_some hcast
        obtain ⟨T, O, X⟩ := tv
        simp only at ht hx
        subst ht
        subst hx
        obtain ⟨hl, hr⟩ := ValOk.cells ha.1
        have hl' : v.cells.size = T.size := by simpa using hl
        have hf := fill_cons (rest := (ps.map (·.1)).zip vs) (place := place) (cells := cells) (n := i) (o := o0) (s := T.size) (v := v) (pre := pre) (mid := za) (post := r1) (by
          have := hp 0 (by exact hau)
          simpa [fpath, lrShift, getT] using this) hl' (by rw [hc, List.append_assoc]) hpre ra.length
        obtain ⟨new, bs, q, k1, k2, k3, k4⟩ := asm_ok h (t := tb) (n := i + 1) (N := N + 1) (o0 := o0 + T.size) (ps := ps) (vs := vs) (cells := (pre ++ v.cells.toList ++ r1).toArray) (pre := pre ++ v.cells.toList) (zc := r1)
          hpb hub hub2 ha.2 hrest (by simp) (by simp [hpre, hl']) z2
        have hdis : ∀ k, k ∈ B N → k ∉ bs ++ q := fun k hk hkb => by
          obtain ⟨k', h1, h2⟩ := k3 k hkb
          exact h.disj N k' (by omega) k hk h2
        refine ⟨v.cells.toList ++ new, B N ++ bs, q, ?_, ⟨v.cells.toList, new, B N, bs, rfl, List.Perm.refl _, hr.more (fun k hk => .inl hk), k2⟩, ?_, ?_⟩
        · show Instr.fill place cells ((i, v) :: (ps.map (·.1)).zip vs) = _
          rw [hf, k1, List.append_assoc]
        · intro b hb
          rw [List.append_assoc] at hb
          rcases List.mem_append.1 hb with hb | hb
          · exact ⟨N, Nat.le_refl _, hb⟩
          · obtain ⟨k, h1, h2⟩ := k3 b hb; exact ⟨k, by omega, h2⟩
        · rw [List.append_assoc]
          exact List.nodup_append.2 ⟨h.nodup N, k4, fun x hx y hy hxy => hdis x hx (hxy ▸ hy)⟩
      · cases hs
    | false =>
      rw [hin] at hs
      simp only [cond_false] at hs
      split at hs
      · rename_i o2 z hrest
        simp only [Option.some.injEq, Prod.mk.injEq] at hs
        obtain ⟨rfl, rfl⟩ := hs
        obtain ⟨new, bs, q, k1, k2, k3, k4⟩ := asm_ok h (t := tb) (n := n + 1) (N := N) (o0 := o0 + ta.size) (ps := (i, tv) :: ps) (vs := v :: vs) (cells := cells) (pre := pre ++ za) (zc := r1)
          hpb hub hub2 ha hrest (by rw [hc, List.append_assoc]) (by rw [List.length_append, hpre, ra.length]) z2
        exact ⟨za ++ new, bs, q, by rw [k1, List.append_assoc], ⟨za, new, [], bs, rfl, by simp, ra.more (fun k hk => .inl hk), k2⟩, k3, k4⟩
      · cases hs
  | .pair ta tb, n, N, o0, [], [], o, x, cells, pre, zc, hp, hu, hu2, ha, hs, hc, hpre, hz => by
    simp only [zOk, Option.bind_eq_some_iff] at hz
    obtain ⟨r1, z1, z2⟩ := hz
    obtain ⟨za, rfl, ra⟩ := zOk_rep (w := w) (Pr := Pr) z1
    have hub : ∀ a b, tb = .pair a b → a ≠ .unit := fun a b hab => hu2 1 a b (by show getT [] tb = _; exact hab)
    have hub2 : ∀ j a b, getT (List.replicate j .r) tb = .pair a b → a ≠ .unit := fun j a b hab => hu2 (j + 1) a b (by rw [List.replicate_succ]; exact hab)
    have hpb : ∀ j, getT (fpath j) tb ≠ .unit → place (n + 1 + j) = some (o0 + ta.size + lrShift (fpath j) tb, (getT (fpath j) tb).size) := fun j hj => by
      have := hp (j + 1) hj
      rw [show n + 1 + j = n + (j + 1) by omega, this]
      congr 2
      show o0 + (ta.size + _) = _
      omega
    simp only [asm] at hs
    split at hs
    · rename_i o2 z hrest
      simp only [Option.some.injEq, Prod.mk.injEq] at hs
      obtain ⟨rfl, rfl⟩ := hs
      obtain ⟨new, bs, q, k1, k2, k3, k4⟩ := asm_ok h (t := tb) (n := n + 1) (N := N) (o0 := o0 + ta.size) (ps := []) (vs := []) (cells := cells) (pre := pre ++ za) (zc := r1)
        hpb hub hub2 ha hrest (by rw [hc, List.append_assoc]) (by rw [List.length_append, hpre, ra.length]) z2
      exact ⟨za ++ new, bs, q, by rw [k1, List.append_assoc], ⟨za, new, [], bs, rfl, by simp, ra.more (fun k hk => .inl hk), k2⟩, k3, k4⟩
    · cases hs
  | .unit, _, _, _, _ :: _, _, _, _, _, _, _, _, _, _, _, hs, _, _, _ => by simp [asm] at hs
  | .unit, _, _, _, [], _ :: _, _, _, _, _, _, _, _, _, ha, _, _, _, _ => ha.elim
  | .pair _ _, _, _, _, _ :: _, [], _, _, _, _, _, _, _, _, ha, _, _, _, _ => ha.elim
  | .pair _ _, _, _, _, [], _ :: _, _, _, _, _, _, _, _, _, ha, _, _, _, _ => ha.elim
  | .int _, _, _, _, _, _, _, _, _, _, _, _, _, _, _, hs, _, _, _ | .bool, _, _, _, _, _, _, _, _, _, _, _, _, _, _, hs, _, _, _ | .str, _, _, _, _, _, _, _, _, _, _, _, _, _, _, hs, _, _, _
  | .slice _ _, _, _, _, _, _, _, _, _, _, _, _, _, _, _, hs, _, _, _ => by simp [asm] at hs

theorem places_ok (htab : TabOk P cx.tab) : ∀ {fs : List Field} {o : Nat} {t : Ty}, fieldsOk cx.tab fs o t = true →
    ∃ places : List (Nat × Nat), fs.mapM (fun f => (P.info? f.type).map fun i => (f.offset, i.size)) = some places ∧ (∀ j, getT (fpath j) t ≠ .unit → places[j]? = some (o + lrShift (fpath j) t, (getT (fpath j) t).size)) ∧
      ∀ j a b, getT (List.replicate j .r) t = .pair a b → a ≠ .unit
  | [], o, .unit, _ => ⟨[], rfl, fun j h => by cases j <;> exact absurd rfl h, fun j a b h => by cases j <;> cases h⟩
  | f :: fs, o, .pair a b, h => by
    simp only [fieldsOk, Bool.and_eq_true, beq_iff_eq, Bool.not_eq_true', beq_eq_false_iff_ne] at h
    obtain ⟨⟨⟨h1, h2⟩, h3⟩, h4⟩ := h
    obtain ⟨i, z, i1, i2, _⟩ := (tab_fact htab h1).info
    obtain ⟨places, p1, p2, p3⟩ := places_ok htab h4
    refine ⟨(f.offset, i.size) :: places, ?_, fun j hj => ?_, fun j a' b' hj => ?_⟩
    · simp [List.mapM_cons, i1, p1]
    · cases j with
      | zero => simp [fpath, lrShift, getT, h2, i2]
      | succ j =>
        have := p2 j hj
        simp only [List.getElem?_cons_succ, this, Option.some.injEq, Prod.mk.injEq]
        exact ⟨by show _ = o + (a.size + _); omega, rfl⟩
    · cases j with
      | zero =>
        have : Ty.pair a b = .pair a' b' := hj
        injection this with e1 _
        subst e1
        rintro rfl
        exact h3 rfl
      | succ j => exact p3 j a' b' (by rw [List.replicate_succ] at hj; exact hj)
  | [], _, .pair _ _, h | [], _, .int _, h | [], _, .bool, h | [], _, .str, h | [], _, .slice _ _, h => by simp [fieldsOk] at h
  | _ :: _, _, .unit, h | _ :: _, _, .int _, h | _ :: _, _, .bool, h | _ :: _, _, .str, h | _ :: _, _, .slice _ _, h => by simp [fieldsOk] at h

theorem arr_ok {a : Ty} (ha : a.size ≠ 0) : ∀ {n : Nat} {t : Ty}, arrOk a n t = true → (∀ j, getT (fpath j) t ≠ .unit → getT (fpath j) t = a ∧ lrShift (fpath j) t = j * a.size ∧ j < n) ∧
    ∀ j b c, getT (List.replicate j .r) t = .pair b c → b ≠ .unit
  | 0, .unit, _ => ⟨fun j h => by cases j <;> exact absurd rfl h, fun j a b h => by cases j <;> cases h⟩
  | n + 1, .pair b c, h => by
    simp only [arrOk, Bool.and_eq_true, beq_iff_eq] at h
    obtain ⟨rfl, h2⟩ := h
    obtain ⟨g1, g2⟩ := arr_ok ha h2
    refine ⟨fun j hj => ?_, fun j b' c' hj => ?_⟩
    · cases j with
      | zero => exact ⟨rfl, by simp [fpath, lrShift], by omega⟩
      | succ j =>
        obtain ⟨k1, k2, k3⟩ := g1 j hj
        exact ⟨k1, by show b.size + _ = _; rw [k2, Nat.succ_mul, Nat.add_comm], by omega⟩
    · cases j with
      | zero =>
        have : Ty.pair b c = .pair b' c' := hj
        injection this with e1 _
        subst e1
        rintro rfl
        exact ha rfl
      | succ j => exact g2 j b' c' (by rw [List.replicate_succ] at hj; exact hj)
  | 0, .pair _ _, h | 0, .int _, h | 0, .bool, h | 0, .str, h | 0, .slice _ _, h => by simp [arrOk] at h
  | _ + 1, .unit, h | _ + 1, .int _, h | _ + 1, .bool, h | _ + 1, .str, h | _ + 1, .slice _ _, h => by simp [arrOk] at h

theorem zip_map_eval (ps : Array (Nat × Operand)) (ev : Operand → Value) : (ps.map fun (i, x) => (i, ev x)).toList = (ps.toList.map (·.1)).zip (ps.toList.map fun q => ev q.2) := by
  rw [Array.toList_map, List.zip_map']

theorem good_build (htab : TabOk P cx.tab) {o : Oper} {tid : TypeId} {t : Ty} {ps : Array (Nat × Operand)} {tvs : List TV} {us : List U} {ow : Ow} {x : PV t} (hop : o.op = .build tid ps) (h : StB w0 Pr0 M E V w Pr B)
    (hN : ∀ k, E.length ≤ k → B k = []) (hf : Fr off V a) (hl : lookup cx.tab tid = some t) (hag : t.agg = true)
    (ht : takeL off E (ps.toList.map fun q => (getT (fpath q.1) t, q.2)) = some (tvs, us)) (he : asm t 0 ((ps.toList.map (·.1)).zip tvs) = some (ow, x)) : OpGood w0 Pr0 M P E V w a o (.val t ow x, us) := by
  obtain ⟨d, hd, hfit⟩ := (tab_fact htab hl).und
  obtain ⟨i, z, i1, i2, i3, i4, i5⟩ := (tab_fact htab hl).info
  obtain ⟨B1, g1, g2, g3, _, g5⟩ := takeL_ok hf h (Nat.le_refl _) hN ht
  have hvl : ((ps.toList.map fun q => (getT (fpath q.1) t, q.2)).map fun q => a.eval q.2) = ps.toList.map fun q => a.eval q.2 := by rw [List.map_map]; rfl
  rw [hvl] at g3
  have hlen : tvs.length = ps.toList.length := by have := g3.length; simpa using this
  have hz2 : ((ps.toList.map (·.1)).zip tvs).map (·.2) = tvs := List.map_snd_zip (by simp [hlen])
  have hz1 : ((ps.toList.map (·.1)).zip tvs).map (·.1) = ps.toList.map (·.1) := List.map_fst_zip (by simp [hlen])
  have main : ∀ place : Nat → Option (Nat × Nat), (∀ j, getT (fpath j) t ≠ .unit → place (0 + j) = some (0 + lrShift (fpath j) t, (getT (fpath j) t).size)) → (∀ j a b, getT (List.replicate j .r) t = .pair a b → a ≠ .unit) →
      (∀ cells, Instr.fill place z.cells (ps.map fun (i, x) => (i, a.eval x)).toList = some cells → (Instr.build tid (ps.map fun (i, x) => (i, a.eval x))).run P w = .ok (.agg cells) w) → OpGood w0 Pr0 M P E V w a o (.val t ow x, us) := by
    intro place hpl hu hrun
    obtain ⟨new, bs, q, k1, k2, k3, k4⟩ := asm_ok g1 (place := place) (t := t) (n := 0) (N := E.length) (o0 := 0) (ps := (ps.toList.map (·.1)).zip tvs) (vs := ps.toList.map fun q => a.eval q.2) (cells := z.cells) (pre := []) (zc := z.cells.toList)
      hpl (fun a b hab => hu 0 a b (by exact hab)) hu (by rw [hz2]; exact g3) he rfl rfl i4
    rw [hz1, ← zip_map_eval ps a.eval, List.nil_append] at k1
    have hm := g1.merge (bs := bs) (q := q) (fun b hb => by rw [g2]; exact k3 b hb) k4
    rw [g2] at hm
    have hpk : pack t new = .agg new.toArray := by simp [pack, hag]
    refine ⟨.value (.agg new.toArray), w, .agg new.toArray, ?_, .inl rfl, g2, _, _, hm, ?_, fun j hj => ?_⟩
    · simp only [execOp, hop, Sem.run_bind, hrun _ k1, Result.andThen_ok]; rfl
    · show ValOk _ _ _ _ _ _ _
      rw [g2]
      simp only [if_true]
      exact ⟨new, hpk.symm, k2⟩
    · rw [g2] at hj
      have h1 : j ≠ E.length := by omega
      have h2 : E.length ≤ j := by omega
      simp [h1, h2]
  cases d with
  | struct fs =>
    have hfo : fieldsOk cx.tab fs.toList 0 t = true := by cases t <;> simp [fits, Ty.agg] at hfit ⊢ <;> exact hfit
    obtain ⟨places, p1, p2, p3⟩ := places_ok htab hfo
    refine main (places.toArray[·]?) (fun j hj => by rw [Nat.zero_add]; simpa using p2 j hj) p3 (fun cells hc => run_build w tid _ cells ?_)
    unfold Program.built
    simp only [i1, hd, i3, p1]
    exact hc
  | array n e =>
    have hfo : ∃ a', lookup cx.tab e = some a' ∧ a'.size ≠ 0 ∧ arrOk a' n t = true := by
      simp only [fits, Bool.and_eq_true] at hfit
      split at hfit
      · rename_i a' ha'
        simp only [Bool.and_eq_true, Bool.not_eq_true', beq_eq_false_iff_ne] at hfit
        exact ⟨a', ha', hfit.2.1, hfit.2.2⟩
      · simp at hfit
    obtain ⟨a', f1, f2, f3⟩ := hfo
    obtain ⟨q1, q2⟩ := arr_ok f2 f3
    obtain ⟨ie, ze, e1, e2, _⟩ := (tab_fact htab f1).info
    refine main (fun i => some (i * ie.size, ie.size)) (fun j hj => ?_) q2 (fun cells hc => run_build w tid _ cells ?_)
    · obtain ⟨r1, r2, r3⟩ := q1 j hj
      rw [Nat.zero_add, Nat.zero_add, r1, r2, e2]
    · unfold Program.built
      simp only [i1, hd, i3, e1]
      exact hc
  | _ => cases t <;> simp [fits, Ty.agg] at hfit hag

/-! ### conversions -/
theorem good_conv_int (htab : TabOk P cx.tab) {o : Oper} {s d : TypeId} {x : Operand} {k k' : IntKind} {n : Int} (hop : o.op = .convert s d x) (h : StB w0 Pr0 M E V w Pr B) (hN : ∀ k, E.length ≤ k → B k = []) (hf : Fr off V a)
    (hs : lookup cx.tab s = some (.int k)) (hd : lookup cx.tab d = some (.int k')) (hx : rd E (opd E off x).s = some ⟨.int k, n⟩) : OpGood w0 Pr0 M P E V w a o (sv (.int k') (k'.wrap n), []) := by
  have int : ∀ {tid : TypeId} {k : IntKind}, lookup cx.tab tid = some (.int k) → P.underlying tid = some (.int k) := by
    intro tid k hl
    obtain ⟨d, hd, hfit⟩ := (tab_fact htab hl).und
    cases d <;> first | (simp [fits, Ty.agg] at hfit; done) | skip
    simp only [fits, beq_iff_eq] at hfit
    rw [hd, hfit]
  refine good_scal h hN (.int _ _) ?_
  simp [execOp, hop, rd_int h (opd_ok h hf x) hx, convert, run_underlying (int hs), run_underlying (int hd), Conv.intToInt]

theorem und_str (htab : TabOk P cx.tab) {tid : TypeId} (hl : lookup cx.tab tid = some .str) : P.underlying tid = some .string := by
  obtain ⟨d, hd, hfit⟩ := (tab_fact htab hl).und
  cases d <;> first | exact hd | (simp [fits, Ty.agg] at hfit; done)

theorem und_int (htab : TabOk P cx.tab) {tid : TypeId} {k : IntKind} (hl : lookup cx.tab tid = some (.int k)) : P.underlying tid = some (.int k) := by
  obtain ⟨d, hd, hfit⟩ := (tab_fact htab hl).und
  cases d <;> first | (simp [fits, Ty.agg] at hfit; done) | skip
  simp only [fits, beq_iff_eq] at hfit
  rw [hd, hfit]

theorem und_slice (htab : TabOk P cx.tab) {tid e : TypeId} {t : Ty} (hl : lookup cx.tab tid = some (.slice e t)) : P.underlying tid = some (.slice e) ∧ lookup cx.tab e = some t := by
  obtain ⟨d, hd, hfit⟩ := (tab_fact htab hl).und
  obtain ⟨rfl, h1, h2⟩ := fits_slice hfit
  exact ⟨hd, h1⟩

theorem repL_ints {Q : Nat → Prop} {k : IntKind} {o : Ow} : ∀ {xs : List Int} {cs : List Value} {bs : List Nat}, RepL (Rep w Q (.int k) o) cs xs bs → cs = xs.map (Value.int k)
  | [], _, _, h => h.1
  | x :: xs, _, _, h => by
    obtain ⟨c1, c2, b1, b2, rfl, _, h1, h2⟩ := h
    rw [h1.1, repL_ints h2]; rfl

theorem good_conv_bytes (htab : TabOk P cx.tab) {o : Oper} {s d e e' : TypeId} {x : Operand} {l : List Int} (hop : o.op = .convert s d x) (h : StB w0 Pr0 M E V w Pr B) (hN : ∀ k, E.length ≤ k → B k = []) (hf : Fr off V a)
    (hs : lookup cx.tab s = some (.slice e (.int .u8))) (hd : lookup cx.tab d = some .str) (hx : rd E (opd E off x).s = some ⟨.slice e' (.int .u8), l⟩) : OpGood w0 Pr0 M P E V w a o (sv .str (bytesOfInts l), []) := by
  obtain ⟨hu, hl⟩ := und_slice htab hs
  have hue := und_int htab hl
  obtain ⟨A, c, h1, h2, A', c', h3, h4, h5⟩ := rd_slice h (opd_ok h hf x) hx
  refine good_scal h hN (.str _) ?_
  rw [h1] at h3
  simp only [List.cons.injEq, Value.slice.injEq, and_true, true_and] at h3
  obtain ⟨rfl, rfl⟩ := h3
  have key : (convert s d (.slice A l.length c)).run P w = .ok (strV (bytesOfInts l)) w := by
    rw [run_convert_bytes_string w s d e A l.length c hu hue (und_str htab hd)]
    have nilc : l = [] → A = none → (Conv.bytesToString (.slice A l.length c)).run P w = .ok (strV (bytesOfInts l)) w := by
      rintro rfl rfl; rfl
    have some : ∀ ad, A = .some ad → Cells w ad (l.map (Value.int .u8)) → (Conv.bytesToString (.slice A l.length c)).run P w = .ok (strV (bytesOfInts l)) w := by
      rintro ad rfl hc
      have hload := run_loadCells_list (P := P) w ad (l.map (Value.int .u8)) hc
      rw [List.length_map] at hload
      rw [run_bytesToString w ad l.length c l hload, foldl_push_bytes]
      congr 2
      simp only [bytesOfInts]
      rw [show ByteArray.empty.data = #[] from rfl]
      simp
    cases A with
    | none =>
      rcases h5 with hl | ⟨ad, ys, hA, _⟩
      · exact nilc hl rfl
      · cases hA
    | some ad =>
      rcases h5 with hl | ⟨ad', ys, hA, _, hc, hr⟩
      · exact some ad rfl (by rw [hl]; intro j u hu; simp at hu)
      · injection hA with hA; subst hA
        exact some _ rfl (by rw [← repL_ints hr]; exact hc)
  simp [execOp, hop, h1, key]

end
end Go.Dn
