/- Operations, ninth part: literals. -/
import Derived.Test.YtegfhigkmghmjaaDoorDq
import Derived.Great.BuildSlice
namespace Go.Dn

section
variable {w0 : World} {Pr0 M : Nat → Prop}
variable {P : Program} {cx : Cx} {E : Env} {V : List Value} {w w' : World} {Pr : Nat → Prop} {B : Nat → List Nat} {off : Nat} {a : Act}

theorem opdY_ok (h : StB w0 Pr0 M E V w Pr B) (hf : Fr off V a) (t : Ty) (x : Operand) : OpdOk w Pr E V (opdY E off t x) (a.eval x) := by
  unfold opdY
  split
  · split
    · exact ⟨[.slice none 0 0], rfl, rep_row.2 ⟨.slice none 0 0, [], [], rfl, World.ownsRow_nil _ _ _ _, by simp [Value.ownBlock], rfl, rfl⟩⟩
    · trivial
  · exact opd_ok h hf x

def AllH (w : World) (Pr : Nat → Prop) (B : Nat → List Nat) : Nat → List TV → List Value → Prop
  | _, [], [] => True
  | N, tv :: tvs, v :: vs => ValOk w Pr v tv.t tv.o tv.x (B N) ∧ AllH w Pr B (N + 1) tvs vs
  | _, _, _ => False

theorem AllH.congr {B' : Nat → List Nat} : ∀ {N : Nat} {tvs : List TV} {vs : List Value}, (∀ k, N ≤ k → B' k = B k) → AllH w Pr B N tvs vs → AllH w Pr B' N tvs vs
  | _, [], [], _, h => h
  | N, tv :: tvs, v :: vs, hB, h => ⟨by rw [hB N (Nat.le_refl _)]; exact h.1, AllH.congr (fun k hk => hB k (by omega)) h.2⟩
  | _, [], _ :: _, _, h => h.elim
  | _, _ :: _, [], _, h => h.elim

theorem AllH.length : ∀ {N : Nat} {tvs : List TV} {vs : List Value}, AllH w Pr B N tvs vs → tvs.length = vs.length
  | _, [], [], _ => rfl
  | _, _ :: _, _ :: _, h => by simp [AllH.length h.2]
  | _, [], _ :: _, h => h.elim
  | _, _ :: _, [], h => h.elim

theorem takeL_ok (hf : Fr off V a) : ∀ {l : List (Ty × Operand)} {E : Env} {B : Nat → List Nat} {N : Nat} {tvs : List TV} {us : List U}, StB w0 Pr0 M E V w Pr B → E.length ≤ N → (∀ k, N ≤ k → B k = []) →
    takeL off E l = some (tvs, us) → ∃ B1, StB w0 Pr0 M (appU E us) V w Pr B1 ∧ (appU E us).length = E.length ∧ AllH w Pr B1 N tvs (l.map fun q => a.eval q.2) ∧
      (∀ k, E.length ≤ k → k < N → B1 k = B k) ∧ (∀ k, N + tvs.length ≤ k → B1 k = [])
  | [], E, B, N, tvs, us, h, hN, hB, ht => by
    simp only [takeL, Option.some.injEq, Prod.mk.injEq] at ht
    obtain ⟨rfl, rfl⟩ := ht
    exact ⟨B, h, rfl, trivial, fun _ _ _ => rfl, fun k hk => hB k (by simpa using hk)⟩
  | (t, x) :: l, E, B, N, tvs, us, h, hN, hB, ht => by
    simp only [takeL] at ht
    split at ht
    · cases ht
    · rename_i tv us1 ht1
      split at ht
      · cases ht
      · rename_i tvs' us2 ht2
        simp only [Option.some.injEq, Prod.mk.injEq] at ht
        obtain ⟨rfl, rfl⟩ := ht
        obtain ⟨B1, g1, g2, g3, g4⟩ := take_ok h hN (hB N (Nat.le_refl _)) (opdY_ok h hf t x) ht1
        obtain ⟨B2, k1, k2, k3, k4, k5⟩ := takeL_ok hf (N := N + 1) g1 (by omega) (fun k hk => by rw [g3 k (by omega) (by omega)]; exact hB k (by omega)) ht2
        refine ⟨B2, by rw [appU_append]; exact k1, by rw [appU_append, k2, g4], ⟨?_, k3⟩, fun k hk hkN => ?_, fun k hk => k5 k (by simp at hk; omega)⟩
        · rw [k4 N (by omega) (by omega)]; exact g2
        · rw [k4 k (by omega) (by omega), g3 k hk (by omega)]

/-- What several hands hold comes into one, or is lent for good. -/
theorem StB.merge (h : StB w0 Pr0 M E V w Pr B) {bs q : List Nat} (hm : ∀ b ∈ bs ++ q, ∃ k, E.length ≤ k ∧ b ∈ B k) (hn : (bs ++ q).Nodup) :
    StB w0 Pr0 M E V w (fun k => Pr k ∨ k ∈ q) (fun j => if j = E.length then bs else if E.length ≤ j then [] else B j) := by
  refine h.hand (fun k hk => ?_) (fun k hk b hb => ?_) (fun _ h => .inl h) (fun b hb => ?_) (fun k hk => ?_) (fun j k hj hk hne b hb hbk => ?_) (fun _ _ _ => rfl) rfl rfl rfl (Nat.le_refl _)
  · have h1 : k ≠ E.length := by omega
    have h2 : ¬ E.length ≤ k := by omega
    simp [h1, h2]
  · by_cases hkN : k = E.length
    · subst hkN
      simp only [if_true] at hb
      obtain ⟨k', h1, h2⟩ := hm b (List.mem_append_left _ hb)
      exact ⟨.inl ⟨k', h1, h2⟩, (h.free _ _ h2).2.2⟩
    · simp [hkN, hk] at hb
  · rcases hb with hb | hb
    · exact .inl hb
    · obtain ⟨k', h1, h2⟩ := hm b (List.mem_append_right _ hb)
      refine .inr ⟨.inl ⟨k', h1, h2⟩, (h.free _ _ h2).2.2, fun k hk hbk => ?_⟩
      by_cases hkN : k = E.length
      · subst hkN
        simp only [if_true] at hbk
        exact notin_of_nodup_append hn hbk hb
      · simp [hkN, hk] at hbk
  · by_cases hkN : k = E.length
    · subst hkN; simp only [if_true]; exact (List.nodup_append.1 hn).1
    · simp [hkN, hk]
  · by_cases hjN : j = E.length
    · by_cases hkN : k = E.length
      · exact hne (hjN.trans hkN.symm)
      · simp [hkN, hk] at hbk
    · simp [hjN, hj] at hb

theorem ValOk.cells {v : Value} {t : Ty} {o : Ow} {x : PV t} {bs : List Nat} (h : ValOk w Pr v t o x bs) : v.cells.toList.length = t.size ∧ Rep w Pr t o v.cells.toList x bs := by
  obtain ⟨cs, rfl, hr⟩ := h
  rw [pack_cells hr]
  exact ⟨hr.length, hr⟩

theorem nodup4 {p1 q1 p2 q2 b1 : List Nat} (e1 : b1.Perm (p1 ++ q1)) (h1 : b1.Nodup) (h2 : (p2 ++ q2).Nodup) (hd : ∀ k, k ∈ b1 → k ∉ p2 ++ q2) : ((p1 ++ p2) ++ (q1 ++ q2)).Nodup := by
  have e : ((p1 ++ p2) ++ (q1 ++ q2)).Perm ((p1 ++ q1) ++ (p2 ++ q2)) := by
    rw [List.append_assoc, List.append_assoc]
    refine List.Perm.append_left _ ?_
    rw [← List.append_assoc, ← List.append_assoc]
    exact List.perm_append_comm.append_right _
  refine e.nodup_iff.2 (List.nodup_append.2 ⟨e1.nodup_iff.1 h1, h2, fun x hx y hy hxy => ?_⟩)
  exact hd x (e1.mem_iff.2 hx) (hxy ▸ hy)

/-- Elements in the hands are a row's. -/
theorem elems_ok (h : StB w0 Pr0 M E V w Pr B) {t : Ty} : ∀ {tvs : List TV} {vs : List Value} {N : Nat} {o : Ow} {xs : List (PV t)}, AllH w Pr B N tvs vs → elems t tvs = some (o, xs) →
    ∃ bs q, RepL (Rep w (fun k => Pr k ∨ k ∈ q) t o) (vs.flatMap fun v => v.cells.toList) xs bs ∧ (∀ b ∈ bs ++ q, ∃ k, N ≤ k ∧ b ∈ B k) ∧ (bs ++ q).Nodup ∧ (∀ v ∈ vs, v.cells.size = t.size) ∧ xs.length = vs.length
  | [], [], N, o, xs, _, he => by
    simp only [elems, Option.some.injEq, Prod.mk.injEq] at he
    obtain ⟨rfl, rfl⟩ := he
    exact ⟨[], [], ⟨rfl, rfl⟩, by simp, by simp, by simp, rfl⟩
  | tv :: tvs, v :: vs, N, o, xs, ha, he => by
    simp only [elems] at he
    split at he
    · rename_i x o2 xs2 hc he2
      simp only [Option.some.injEq, Prod.mk.injEq] at he
      obtain ⟨rfl, rfl⟩ := he
      obtain ⟨bs, q, g1, g2, g3, g4, g5⟩ := elems_ok h ha.2 he2
      obtain ⟨ht, hx⟩ := castTy_some hc
      obtain ⟨T, O, X⟩ := tv
      simp only at ht hx
      subst ht
      subst hx
      obtain ⟨hl, hr⟩ := ValOk.cells ha.1
      obtain ⟨p1, q1, e1, w1⟩ := hr.weaken (meet_weaken T O o2).1
      obtain ⟨p2, q2, e2, w2⟩ := repL_weaken (o2 := meet T O o2) (fun _ _ _ hr => hr.weaken (meet_weaken T O o2).2) g1
      have hdis : ∀ k, k ∈ B N → k ∉ bs ++ q := fun k hk hkb => by
        obtain ⟨k', h1, h2⟩ := g2 k hkb
        exact h.disj N k' (by omega) k hk h2
      have e2' : (bs ++ q).Perm (p2 ++ (q2 ++ q)) := by rw [← List.append_assoc]; exact e2.append_right _
      have hnd2 : (p2 ++ (q2 ++ q)).Nodup := e2'.nodup_iff.1 g3
      refine ⟨p1 ++ p2, q1 ++ (q2 ++ q), ⟨v.cells.toList, vs.flatMap fun v => v.cells.toList, p1, p2, by simp, List.Perm.refl _, ?_, ?_⟩, ?_, ?_, ?_, by simp [g5]⟩
      · exact w1.more (fun k hk => hk.imp id fun m => List.mem_append_left _ m)
      · exact w2.more (fun k hk => by
          rcases hk with (hk | hk) | hk
          · exact .inl hk
          · exact .inr (List.mem_append_right _ (List.mem_append_right _ hk))
          · exact .inr (List.mem_append_right _ (List.mem_append_left _ hk)))
      · intro b hb
        have : b ∈ B N ∨ b ∈ bs ++ q := by
          rcases List.mem_append.1 hb with hb | hb
          · rcases List.mem_append.1 hb with hb | hb
            · exact .inl (e1.mem_iff.2 (List.mem_append_left _ hb))
            · exact .inr (e2'.mem_iff.2 (List.mem_append_left _ hb))
          · rcases List.mem_append.1 hb with hb | hb
            · exact .inl (e1.mem_iff.2 (List.mem_append_right _ hb))
            · exact .inr (e2'.mem_iff.2 (List.mem_append_right _ hb))
        rcases this with hb | hb
        · exact ⟨N, Nat.le_refl _, hb⟩
        · obtain ⟨k, h1, h2⟩ := g2 b hb; exact ⟨k, by omega, h2⟩
      · exact nodup4 e1 (h.nodup N) hnd2 (fun k hk hkp => hdis k hk (e2'.mem_iff.2 hkp))
      · intro u hu
        rcases List.mem_cons.1 hu with rfl | hu
        · have := hl; simpa using this
        · exact g4 u hu
    · cases he
  | [], _ :: _, _, _, _, h, _ => h.elim
  | _ :: _, [], _, _, _, h, _ => h.elim

theorem zip_range {α : Type} : ∀ (l : List α) (s : Nat), (List.range' s l.length).zip l = (l.zipIdx s).map fun x => (x.2, x.1)
  | [], _ => rfl
  | x :: l, s => by simp [List.range'_succ, zip_range l (s + 1)]

theorem good_buildSlice (htab : TabOk P cx.tab) {o : Oper} {tid e : TypeId} {t : Ty} {n : Nat} {ps : Array (Nat × Operand)} {tvs : List TV} {us : List U} {ow : Ow} {xs : List (PV t)} (hop : o.op = .buildSlice tid n ps) (h : StB w0 Pr0 M E V w Pr B)
    (hN : ∀ k, E.length ≤ k → B k = []) (hf : Fr off V a) (hl : lookup cx.tab tid = some (.slice e t)) (h1 : ps.size = n) (h2 : List.range n = ps.toList.map (·.1)) (h3 : n * t.size ≤ 65536)
    (ht : takeL off E (ps.toList.map fun q => (t, q.2)) = some (tvs, us)) (he : elems t tvs = some (ow, xs)) : OpGood w0 Pr0 M P E V w a o (.val (.slice e t) (.row ow) xs, us) := by
  obtain ⟨_, hd, hfe, hsz⟩ := slTy_of htab hl
  obtain ⟨i, z, i1, i2, i3, i4, i5⟩ := hfe.info
  obtain ⟨B1, g1, g2, g3, _, g5⟩ := takeL_ok hf h (Nat.le_refl _) hN ht
  obtain ⟨bs, q, k1, k2, k3, k4, k5⟩ := elems_ok g1 g3 he
  have hvl : (ps.toList.map (fun q => (t, q.2)) |>.map fun q => a.eval q.2) = ps.toList.map fun q => a.eval q.2 := by rw [List.map_map]; rfl
  rw [hvl] at k1 k4 k5
  have hm := g1.merge (bs := bs) (q := q) (fun b hb => by rw [g2]; exact k2 b hb) k3
  rw [g2] at hm
  have hlen : xs.length = n := by rw [k5]; simp [h1]
  have hrowcells : ∀ (c : List Value) (x : PV t) (b : List Nat), Rep w (fun k => Pr k ∨ k ∈ q) t ow c x b → c.length = t.size := fun _ _ _ h => h.length
  have hrow := hand_row (w := w) (e := e) (t := t) (oe := ow) hm (N := E.length) (by rw [g2]; exact Nat.le_refl _) (cur := (ps.toList.map fun q => a.eval q.2).flatMap fun v => v.cells.toList) (cap := n) (xs := xs)
    (ys := (ps.toList.map fun q => a.eval q.2).flatMap fun v => v.cells.toList) (by omega) (by
      have : n * 1 ≤ n * t.size := Nat.mul_le_mul_left _ (by omega)
      simp only [maxLen]; omega) (by rw [k1.length hrowcells, hlen]) (by rw [List.take_of_length_le]; rw [k1.length hrowcells]; exact Nat.le_refl _) (by simpa using k1)
  simp only [if_true] at hrow
  rw [hlen] at hrow
  refine ⟨.value (.slice (some ⟨w.heap.size, 0, none⟩) n n), w.alloc (.cells ((ps.toList.map fun q => a.eval q.2).flatMap fun v => v.cells.toList).toArray e), .slice (some ⟨w.heap.size, 0, none⟩) n n, ?_, .inl rfl, g2, _, _, hrow.1, ?_, fun j hj => ?_⟩
  · -- the machine's step
    have hrun : (Instr.buildSlice tid n (ps.map fun (i, x) => (i, a.eval x))).run P w = .ok (.slice (some ⟨w.heap.size, 0, none⟩) n n) (w.alloc (.cells ((ps.toList.map fun q => a.eval q.2).flatMap fun v => v.cells.toList).toArray e)) := by
      by_cases hn0 : n = 0
      · subst hn0
        have hps : ps = #[] := Array.eq_empty_of_size_eq_zero h1
        subst hps
        simp [Instr.buildSlice, run_underlying hd, run_sizeOf hfe, Instr.fill, newRow, go_sem]
      · refine run_buildSlice w tid e n _ _ i z hd i1 i3 (by rw [i2]; omega) (by
          rw [i2]; intro hz
          rcases Nat.mul_eq_zero.1 hz with hz | hz
          · exact hn0 hz
          · exact hsz hz) ?_
        have hparts : (ps.map fun (i, x) => (i, a.eval x)).toList = ((ps.toList.map fun q => a.eval q.2).zipIdx 0).map fun x => (x.2, x.1) := by
          rw [← zip_range]
          rw [show (ps.toList.map fun q => a.eval q.2).length = n by simp [h1], ← List.range_eq_range', h2]
          rw [Array.toList_map, List.zip_map', ]
        rw [hparts, i2]
        refine Great.fill_whole (by omega) _ _ (fun v hv => ?_) ?_
        · exact k4 v hv
        · simp [h1]
    simp only [execOp, hop, Sem.run_bind, hrun, Result.andThen_ok]
    rfl
  · show ValOk _ _ _ _ _ _ _
    rw [g2, upd_N]
    exact hrow.2
  · rw [g2] at hj
    rw [upd_ne (by omega)]
    have h1 : j ≠ E.length := by omega
    have h2 : E.length ≤ j := by omega
    simp [h1, h2]

end
end Go.Dn
